/-
 Plain operations on numbers, Bools and strings, a rule each. No condition beyond what each rule asks.
-/
import Derived.WalkKit
import Derived.WalkSpells
import Derived.WalkLawsBesides
import Derived.Laws.AppendOwnNone
import Derived.Great.BuildSlice
import Derived.OrdersHeld
import Derived.Laws.Externs
import Derived.Laws.Cells
import Derived.Laws.Tables
import Derived.Laws.StructEq
import Derived.Deep.Draws
import Derived.Sort.Grow
import Derived.Lib.IndexMore
import Derived.Lib.TrimByte
import Derived.Shelf.SlSortCmp.WholeK
import Derived.Maps.RangeRun
import Derived.MapKept
import Derived.ProofKit
import Derived.OpenShut
import Derived.WideKeyArgs
import Derived.LaidLaws
import Derived.Deep.DeepHandedRow
import Derived.Deep.DeepWitnessRowRef
import Derived.Lib.LaidTab
import Derived.Deep.Slices
import Derived.Shelf.SlSortCmp.Whole1
import Derived.Lib.AppendZeros
import Derived.Lib.AppendStr
import Derived.Defers
import Derived.Recover
import Derived.RangeFuncLeaves
import Derived.RangeFuncSeq
import Derived.Lib.Bytealg
import Derived.Scope
import Derived.Test.YtpbcafkcfobngaaGreatDoorBatchM5
variable {P : Go.Program} {n : Nat} {ops rest : List Go.Oper} {N : Go.Pn.Val → Go.World → Prop} {Z : List Go.PanicEntry → Go.World → Prop} {f : Go.Pn.Val} {w : Go.World}
section
namespace Go.Pn
open Go.RowKit
section
variable
 {d : Nat} {x y : Operand} {t t' ty : TypeId} {pos : String} {after : Array Edge}
section
variable {a b : Int}
theorem O.mulI (hx : ev n f x = i64 a) (hy : ev n f y = i64 b) (hb : InI (a * b)) (h : O P n ops rest N Z (upd f d (i64 (a * b))) w) :
 O P n ops (ZO d (.binOp .mul t x y t') ty pos after :: rest) N Z f w :=
 O.val rfl rfl (by simp [execOp, hx, hy, eqGuard, binOp, Op.intArith, wrap_in hb]) h
theorem O.addW (hx : ev n f x = i64 a) (hy : ev n f y = i64 b) (h : O P n ops rest N Z (upd f d (i64 (IntKind.i64.wrap (a + b)))) w) :
 O P n ops (ZO d (.binOp .add t x y t') ty pos after :: rest) N Z f w :=
 O.val rfl rfl (by simp [execOp, hx, hy, eqGuard, binOp, Op.intArith]) h
theorem O.remI (hx : ev n f x = i64 a) (hy : ev n f y = i64 b) (hb : 0 ≤ a ∧ 0 < b) (h : O P n ops rest N Z (upd f d (i64 (a % b))) w) :
 O P n ops (ZO d (.binOp .rem t x y t') ty pos after :: rest) N Z f w :=
 O.val rfl rfl (by
  have h1 : b ≠ 0 := by omega
  simp [execOp, hx, hy, eqGuard, binOp, Op.intDiv, h1, Int.tmod_eq_emod_of_nonneg hb.1]) h
end
section
variable {k : IntKind} {m : Nat} {a b : BitVec m}
theorem O.quoU (hk : k.bits = m) (hs : k.signed = false) (hx : ev n f x = .int k (a.toNat : Int)) (hy : ev n f y = .int k (b.toNat : Int)) (hb : b.toNat ≠ 0) (h : O P n ops rest N Z (upd f d (.int k ((a / b).toNat : Int))) w) :
 O P n ops (ZO d (.binOp .quo t x y t') ty pos after :: rest) N Z f w :=
 O.val rfl rfl (by
  have h1 : ¬ ((b.toNat : Int) = 0) := by omega
  have e : k.wrap ((a.toNat : Int).tdiv (b.toNat : Int)) = ((a / b).toNat : Int) := by
   rw [Int.tdiv_eq_ediv_of_nonneg (by omega), ← Int.natCast_ediv, ← BitVec.toNat_udiv, wrap_u_nat hk hs]
  simp only [execOp, hx, hy, eqGuard, binOp, Op.intDiv, if_neg h1, e, ne_eq, not_true_eq_false, ↓reduceIte]
  rfl) h
theorem O.remU (hk : k.bits = m) (hs : k.signed = false) (hx : ev n f x = .int k (a.toNat : Int)) (hy : ev n f y = .int k (b.toNat : Int)) (hb : b.toNat ≠ 0) (h : O P n ops rest N Z (upd f d (.int k ((a % b).toNat : Int))) w) :
 O P n ops (ZO d (.binOp .rem t x y t') ty pos after :: rest) N Z f w :=
 O.val rfl rfl (by
  have h1 : ¬ ((b.toNat : Int) = 0) := by omega
  have e : ((a.toNat : Int).tmod (b.toNat : Int)) = ((a % b).toNat : Int) := by
   rw [Int.tmod_eq_emod_of_nonneg (by omega), ← Int.natCast_emod, ← BitVec.toNat_umod]
  have _ := hk;have _ := hs;simp only [execOp, hx, hy, eqGuard, binOp, Op.intDiv, if_neg h1, e, ne_eq, not_true_eq_false, ↓reduceIte]
  rfl) h
end
section
variable {k k' : IntKind} {m m' : Nat}
theorem O.convUI {a : BitVec m} (ht : P.underlying t = some (.int k)) (ht' : P.underlying t' = some (.int .i64)) (hx : ev n f x = .int k (a.toNat : Int)) (hm : m < 64)
 (h : O P n ops rest N Z (upd f d (i64 (a.toNat : Int))) w) :
 O P n ops (ZO d (.convert t t' x) ty pos after :: rest) N Z f w :=
 O.val rfl rfl (by
  have e : IntKind.i64.wrap (a.toNat : Int) = (a.toNat : Int) := by
   apply wrap_in
   have h1 := a.isLt;have h2 : 2 ^ m ≤ 2 ^ 63 := Nat.pow_le_pow_right (by decide) (by omega);unfold InI; omega
  simp [execOp, hx, convert, run_underlying ht, run_underlying ht', Conv.intToInt, e]) h
end
section
variable {a b : List UInt8}
theorem O.addS (hx : ev n f x = str a) (hy : ev n f y = str b) (hb : a.length + b.length ≤ 9223372036854775807) (h : O P n ops rest N Z (upd f d (str (a ++ b))) w) :
 O P n ops (ZO d (.binOp .add t x y t') ty pos after :: rest) N Z f w :=
 O.val rfl rfl (by
  have h1 : ¬ (IntKind.i64.max < ((ByteArray.size ⟨a.toArray⟩ + ByteArray.size ⟨b.toArray⟩ : Nat) : Int)) := by
   have e : IntKind.i64.max = 9223372036854775807 := by decide
   have ha : ByteArray.size ⟨a.toArray⟩ = a.length := by simp [ByteArray.size]
   have hb' : ByteArray.size ⟨b.toArray⟩ = b.length := by simp [ByteArray.size]
   rw [e, ha, hb']; omega
  have e2 : (ByteArray.mk a.toArray ++ ByteArray.mk b.toArray) = ByteArray.mk (a ++ b).toArray := by
   apply ByteArray.ext
   simp
  simp only [execOp, hx, hy, str, eqGuard, binOp, Op.stringOp, gt_iff_lt, h1, if_false, e2]
  simp) h
end
end
end Go.Pn
end
section
namespace Go.Pn
open Go.RowKit
section
variable {w w' : World} {b : Nat} {ty : TypeId} {cs : List Value}
end
section
variable {α : Type} {E : Enc α} {G : Flat α} {w w' : World} {F F' : Nat → Prop} {v : Value} {xs : List α} {b off : Nat} {ty : TypeId} {cs : List Value}
end
section
variable {α : Type} {G : Flat α} {w w' : World} {F : Nat → Prop} {v : Value} {xs ys : List α} {b B : Nat} {ty : TypeId} {cs : List Value}
end
section
variable
 {d : Nat} {x y : Operand} {t t' ty tr e : TypeId} {pos : String} {after : Array Edge} {α : Type} {E : Enc α} {G : Flat α} {F : Nat → Prop}
end
def u64F : Flat (BitVec 64) := ⟨1, fun x => [.int .u64 (x.toNat : Int)], fun _ => rfl, by simp [Value.oneCell'], by decide⟩
end Go.Pn
end
section
namespace Go.Pn
section
variable {P : Program} {n : Nat} {ops rest l : List Oper} {N : Val → World → Prop} {Z : List PanicEntry → World → Prop} {f : Val} {w wB : World}
 {d : Nat} {x y : Operand} {t t' e tr ty : TypeId} {pos : String} {after : Array Edge} {α : Type} {E : Enc α} {F : Nat → Prop}
def u64E : Enc (BitVec 64) := Enc.flat 1 (fun x => [.int .u64 (x.toNat : Int)]) (fun _ => rfl) (by simp [Value.oneCell'])
theorem u64E.inv {v : Value} {x : BitVec 64} (h : u64E.rep w F [v] x) : v = .int .u64 (x.toNat : Int) := by
 have : [v] = [Value.int .u64 (x.toNat : Int)] := h
 simpa using this
theorem O.loadU64 {a : Addr} {z : BitVec 64} (hag : ∀ w, (isAgg t).run P w = .ok false w) (hx : ev n f x = .pointer (some a)) (ha : At u64E w F a z)
 (h : O P n ops rest N Z (upd f d (.int .u64 (z.toNat : Int))) w) :
 O P n ops (ZO d (.load t x) ty pos after :: rest) N Z f w :=
 O.load1 hag rfl hx ha fun v hv => by rw [u64E.inv hv]; exact h
variable {a b : BitVec 64}
end
end Go.Pn
end
section
namespace Go.Pn
open Go.RowKit
section
variable {α : Type} {G : Flat α} {ty : TypeId} {B : Nat} {w : World} {g cap : Nat} {xs : List α}
end
section
variable {α : Type} {G : Flat α} {ty : TypeId} {B : Nat} {w : World} {g cap : Nat} {xs : List α}
end
section
variable
 {d : Nat} {x y : Operand} {t e ty tr : TypeId} {pos : String} {after : Array Edge} {α : Type} {G : Flat α} {B g cap : Nat} {xs : List α}
end
section
variable
 {d : Nat} {x y : Operand} {t t' tr : TypeId} {pos : String} {after : Array Edge}
end
theorem Outs.three {P : Program} {fn : Func} {n : Nat} {Post : Value → World → Prop} {f : Val} {w : World} {t u s : Nat} {v v' v'' : Value} (hr : fn.results = #[.tmp t, .tmp u, .tmp s]) (hv : ev n f (.tmp t) = v) (hv' : ev n f (.tmp u) = v') (hv'' : ev n f (.tmp s) = v'') (h : Post (.tuple #[v, v', v'']) w) : Outs P fn n Post f w :=
 ⟨_, by
  have e1 : (Fr n f).tmps.getD t undef = v := (getD_Fr n f t).trans hv;have e2 : (Fr n f).tmps.getD u undef = v' := (getD_Fr n f u).trans hv';have e3 : (Fr n f).tmps.getD s undef = v'' := (getD_Fr n f s).trans hv''
  simp [results, hr, -Array.getD_eq_getD_getElem?, e1, e2, e3], h⟩
end Go.Pn
end
section
namespace Go.Pn
open Go.RowKit
section
variable {α : Type} {G : Flat α} {ty : TypeId} {B : Nat} {w : World} {g cap : Nat} {xs : List α}
end
section
variable
 {d : Nat} {x y : Operand} {t tr ty : TypeId} {pos : String} {after : Array Edge} {α : Type}
theorem O.loadC {G : Flat α} {B g cap i off k : Nat} {xs : List α} {u : Value} (hk : k = i * G.sz + off) (hag : ∀ w, (isAgg t).run P w = .ok false w) (hx : ev n f x = .pointer (some ⟨g, k, none⟩))
 (ho : OwnF G ty B w (.slice (some ⟨g, 0, none⟩) xs.length cap) xs) (hi : i < xs.length) (hu : (G.e xs[i])[off]? = some u)
 (h : O P n ops rest N Z (upd f d u) w) : O P n ops (ZO d (.load t x) tr pos after :: rest) N Z f w := by
 subst hk;have hof : off < G.sz := by
  have := (List.getElem?_eq_some_iff.1 hu).1;rw [G.len] at this;exact this
 obtain ⟨h0, hm⟩ := ho;rcases h0.2 with ⟨h1, _⟩ | ⟨g', cap', cur, h1, hb, hg, hn, hc, hsz, ht⟩
 ·cases h1
 ·have e1 : g = g' := by cases h1; rfl
  subst e1;have hseg := G.seg xs hi;have hcell : w.cell? ⟨g, i * G.sz + off, none⟩ = some u := by
   have q : ((cur.toList.take (xs.length * G.sz)).drop (i * G.sz))[off]? = some u := by
    rw [← hseg, List.getElem?_take, if_pos hof] at hu;rw [ht];exact hu
   rw [List.getElem?_drop, List.getElem?_take] at q
   split at q
   ·simp only [World.cell?, hg, Option.isSome_none, Bool.false_eq_true, if_false]
    simpa using q
   ·cases q
  refine O.val rfl rfl ?_ h;have h3 : execOp (ev n f) (ZO d (.load t x) tr pos after) = (do pure (.value (← Instr.loadAt t (ev n f x)))) := rfl;rw [h3, Sem.run_bind, hx];have h4 : (Instr.loadAt t (.pointer (some ⟨g, i * G.sz + off, none⟩))).run P w = .ok u w := by
   simp [Instr.loadAt, Instr.sureAddr, loadVar, hag, hcell]
  rw [h4]
  rfl
end
end Go.Pn
end
section
namespace Go.Pn
open Go.RowKit
section
variable {α : Type} {G : Flat α} {w w' : World} {F : Nat → Prop} {v v' y : Value} {xs ys : List α} {B : Nat} {ty : TypeId}
end
section
variable
 {d : Nat} {x y : Operand} {t t' ty tr e : TypeId} {pos : String} {after : Array Edge} {α : Type} {G : Flat α} {F : Nat → Prop}
end
theorem Items.nil {w : World} {F : Nat → Prop} : Items w F [] [] := ⟨rfl, fun i h => by simp at h⟩
theorem Items.snoc {w : World} {F : Nat → Prop} {raw : List (List UInt8 × (Option Addr × Nat × Nat))} {xs : List ItemT} {a : List UInt8 × (Option Addr × Nat × Nat)} {x : ItemT} (h : Items w F raw xs) (hn : a.1 = x.1) (hm : Sl markF.enc w F (slv a.2) x.2) : Items w F (raw ++ [a]) (xs ++ [x]) := by
 refine ⟨by simp [h.1], fun i h1 h2 => ?_⟩;have hl := h.1;simp only [List.length_append, List.length_cons, List.length_nil] at h1
 by_cases hi : i < raw.length
 ·rw [List.getElem_append_left hi, List.getElem_append_left (by omega)]
  exact h.2 i hi (by omega)
 ·have e1 : i = raw.length := by omega
  subst e1;rw [List.getElem_append_right (by omega), List.getElem_append_right (by omega)];simp only [Nat.sub_self, hl, List.getElem_cons_zero];exact ⟨hn, hm⟩
section
variable
 {d : Nat} {x : Operand} {t tr : TypeId} {pos : String} {after : Array Edge}
theorem O.loadMarks {F : Nat → Prop} {a : Addr} {z : ItemT} (hag : ∀ w, (isAgg t).run P w = .ok false w) (hx : ev n f x = .pointer (some (a.add 1))) (ha : At itemE w F a z)
 (h : ∀ v, Sl markF.enc w F v z.2 → O P n ops rest N Z (upd f d v) w) : O P n ops (ZO d (.load t x) tr pos after :: rest) N Z f w :=
 O.loadAtC hag (by decide) hx ha fun cs u hr hu => by
  obtain ⟨v, rfl, hm⟩ := hr;cases hu;exact h _ hm
end
section
variable
 {d : Nat} {x y : Operand} {t t' tr : TypeId} {pos : String} {after : Array Edge}
end
section
variable
 {d : Nat} {x y : Operand} {t t' tr : TypeId} {pos : String} {after : Array Edge}
end
end Go.Pn
end
section
namespace Go.Pn.Cn
open Go Go.Pn
def cartR (c : Cart) : Prop := ((∀ d ∈ c.1.1, dotR d) ∧ ∀ d ∈ c.1.2, dotR d) ∧ ∀ x ∈ c.2, ∀ m ∈ x.2, markR m
theorem pre_cart : Pre cartR bytes := by
 rintro ⟨⟨v, w⟩, l⟩ ⟨⟨v', w'⟩, l'⟩ r s ⟨⟨h1, h2⟩, h3⟩ ⟨⟨k1, k2⟩, k3⟩ e;have e1 : dotsB v ++ (dotsB w ++ (itemsB l ++ r)) = dotsB v' ++ (dotsB w' ++ (itemsB l' ++ s)) := by
  rw [← List.append_assoc, ← List.append_assoc, ← List.append_assoc (dotsB v'), ← List.append_assoc];exact e
 obtain ⟨g1, e2⟩ := pre_list pre_dot _ _ _ _ h1 k1 e1;obtain ⟨g2, e3⟩ := pre_list pre_dot _ _ _ _ h2 k2 e2;obtain ⟨g3, e4⟩ := pre_list pre_item _ _ _ _ h3 k3 e3;subst g1; subst g2; subst g3;exact ⟨rfl, e4⟩
theorem validR {c : Cart} (h : valid c = true) : cartR c := by
 unfold valid isCompact ctxValid vecValid itemsValid at h;simp only [Bool.and_eq_true] at h;obtain ⟨⟨⟨⟨_, h1⟩, _, h2⟩, _⟩, ⟨h3, _⟩, _⟩ := h;refine ⟨⟨fun d hd => ?_, fun d hd => ?_⟩, fun x hx m hm => ?_⟩
 ·have := okD_of (any_false h1 d hd)
  unfold Dt.Valid at this;unfold dotR InR
  omega
 ·have := okD_of (any_false h2 d hd)
  unfold Dt.Valid at this;unfold dotR InR
  omega
 ·have h4 := any_false h3 x hx
  unfold badI at h4;simp only [Bool.or_eq_false_iff] at h4;have h5 := (List.any_eq_false.1 h4.2.2.2) m hm;unfold badM okM okD at h5
  simp at h5
  obtain ⟨h6, h7, _⟩ := h5;unfold Dt.Valid at h6;unfold markR InR
  omega
end Go.Pn.Cn
end
section
namespace Go.Pn.Cn
open Go Go.Pn
section
variable {α : Type} {p : α → Bool} {l : List α}
end
section
variable {α : Type} {r : α → α → Bool}
end
theorem num_step2 {m : BitVec 64} (h : ¬ m.toNat < 128) : num m.toNat = UInt8.ofBitVec ((128#64 + m % 128#64).setWidth 8) :: num (m / 128#64).toNat := by
 have e1 : (m / 128#64).toNat = m.toNat / 128 := by rw [BitVec.toNat_udiv]; rfl
 have e2 : UInt8.ofNat (128 + m.toNat % 128) = UInt8.ofBitVec ((128#64 + m % 128#64).setWidth 8) := by
  apply UInt8.toNat_inj.1
  have h1 : (UInt8.ofBitVec ((128#64 + m % 128#64).setWidth 8)).toNat = ((128#64 + m % 128#64).setWidth 8).toNat := rfl;have h2 : (128#64 + m % 128#64).toNat = 128 + m.toNat % 128 := by
   rw [BitVec.toNat_add, BitVec.toNat_umod]
   simp
   omega
  rw [h1, UInt8.toNat_ofNat', BitVec.toNat_setWidth, h2]
 rw [num_ge h, e1, e2]
theorem smallI_yes {x : Item} (h : x.2.length ≤ 20) (k : x.1.length ≤ 100) : smallI x = true := by unfold smallI; rw [decide_eq_true h, decide_eq_true k]; rfl
theorem smallI_no {x : Item} (h : 20 < x.2.length ∨ 100 < x.1.length) : smallI x = false := by
 unfold smallI;rcases h with h | h
 ·rw [decide_eq_false (by omega)]; rfl
 ·rw [decide_eq_false (p := x.1.length ≤ 100) (by omega), Bool.and_false]
theorem small_of {a : Cart} (h : a.2.length ≤ 20 → ∀ i, ∀ hi : i < a.2.length, smallI a.2[i] = true) : decide ((((a.1.1.length : Nat) : Int) ≤ 40 ∧ ((a.1.2.length : Nat) : Int) ≤ 40) ∧ ((a.2.length : Nat) : Int) ≤ 20) = small a := by
 unfold small
 by_cases hs : (a.1.1.length ≤ 40 ∧ a.1.2.length ≤ 40) ∧ a.2.length ≤ 20
 ·rw [decide_eq_true hs, all_yes (h hs.2), decide_eq_true (by omega)]
  rfl
 ·rw [decide_eq_false hs, decide_eq_false (by omega)]
  rfl
end Go.Pn.Cn
end
section
namespace Go.Pn
open Go.RowKit
section
variable {α : Type} {G : Flat α} {ty : TypeId} {B : Nat} {w w' : World} {F F' M : Nat → Prop} {v : Value} {xs : List α}
theorem Fre.len {q : Raw} (h : Fre G ty w F (Go.Pn.slv q) xs) : q.2.1 = xs.length := by
 rcases h.1.1.2 with ⟨hv, h0⟩ | ⟨g, cap, cur, hv, _⟩
 ·rw [h0]; simp only [Go.Pn.slv, Value.slice.injEq] at hv; exact hv.2.1
 ·simp only [Go.Pn.slv, Value.slice.injEq] at hv; exact hv.2.1
end
section
variable {tm ti : TypeId} {w w' : World} {F F' M : Nat → Prop} {raw : List (List UInt8 × Raw)} {xs : List ItemT} {v : Value}
end
theorem Fre.put {α : Type} {G : Flat α} {ty : TypeId} {w : World} {F : Nat → Prop} {v : Value} {xs : List α} (h : Fre G ty w F v xs) {g i off : Nat} {cur : Array Value} {u : Value} (hg : w.heap[g]? = some (.cells cur ty (0, 0))) (ho : off < G.sz) (hset : ∀ x, ∃ z, G.e z = (G.e x).set off u) :
 ∃ xs' : List α, Fre G ty (w.setCell ⟨g, i * G.sz + off, none⟩ u) F v xs' ∧ xs'.length = xs.length ∧ (∀ {β : Type} (p : α → β), (∀ x z, G.e z = (G.e x).set off u → p z = p x) → xs'.map p = xs.map p) ∧ ∀ Q : α → Prop, (∀ x ∈ xs, Q x) → (∀ x z, G.e z = (G.e x).set off u → Q z) → ∀ z ∈ xs', Q z := by
 have same : ∀ hh : Fre G ty (w.setCell ⟨g, i * G.sz + off, none⟩ u) F v xs, _ := fun hh => (⟨xs, hh, rfl, fun _ _ => rfl, fun _ h _ => h⟩ : ∃ xs' : List α, Fre G ty (w.setCell ⟨g, i * G.sz + off, none⟩ u) F v xs' ∧ xs'.length = xs.length ∧ (∀ {β : Type} (p : α → β), (∀ x z, G.e z = (G.e x).set off u → p z = p x) → xs'.map p = xs.map p) ∧ ∀ Q : α → Prop, (∀ x ∈ xs, Q x) → (∀ x z, G.e z = (G.e x).set off u → Q z) → ∀ z ∈ xs', Q z)
 rcases h.1.1.2 with ⟨rfl, h0⟩ | ⟨g', cap, cur', rfl, hb, hg', hn, hc, hsz, ht⟩
 ·obtain rfl := List.eq_nil_of_length_eq_zero h0
  exact same (Fre.nil _ _ _ _)
 by_cases hgg : g' = g
 ·subst hgg
  by_cases hi : i < xs.length
  ·obtain ⟨z, hz⟩ := hset xs[i]
   refine ⟨xs.set i z, ⟨h.1.put1 hi ho hz, h.2⟩, by simp, fun p hp => ?_, fun Q h1 h2 y hy => ?_⟩
   rotate_left
   ·rcases List.mem_or_eq_of_mem_set hy with q | rfl
    ·exact h1 _ q
    ·exact h2 _ _ hz
   rw [List.map_set, hp _ _ hz]
   apply List.ext_getElem (by simp)
   intro j h1 h2;rw [List.getElem_set]
   split
   ·rename_i hij
    subst hij
    simp
   ·rfl
  ·refine same ⟨⟨⟨h.1.1.1, .inr ⟨g', cap, (cur'.toList.set (i * G.sz + off) u).toArray, rfl, hb, heap_set w g' (i * G.sz + off) u (cs := cur'.toList) (ty := ty) (fr := (0, 0)) (by simpa using hg'), hn, hc, by simpa using hsz, ?_⟩⟩, h.1.2⟩, h.2⟩
   have h1 : xs.length * G.sz ≤ i * G.sz := Nat.mul_le_mul_right _ (by omega);rw [List.take_set_of_le (by omega)];exact ht
 ·exact same (h.keepM (Ext.set w ⟨g, i * G.sz + off, none⟩ u) (M := fun k => k = g) (w' := w.setCell ⟨g, i * G.sz + off, none⟩ u) |> fun _ => ⟨⟨⟨h.1.1.1, .inr ⟨g', cap, cur', rfl, hb, ((Ext.set w ⟨g, i * G.sz + off, none⟩ u).block g' (lt_of_some hg') hgg).trans hg', hn, hc, hsz, ht⟩⟩, h.1.2⟩, h.2⟩)
theorem Fre.off {α : Type} {G : Flat α} {ty ty' : TypeId} {w : World} {F : Nat → Prop} {v : Value} {xs : List α} (h : Fre G ty w F v xs) {g k : Nat} {cur : Array Value} {u : Value} (hg : w.heap[g]? = some (.cells cur ty' (0, 0))) (hne : ty ≠ ty') : Fre G ty (w.setCell ⟨g, k, none⟩ u) F v xs := by
 rcases h.1.1.2 with ⟨rfl, h0⟩ | ⟨g', cap, cur', rfl, hb, hg', hn, hc, hsz, ht⟩
 ·obtain rfl := List.eq_nil_of_length_eq_zero h0
  exact Fre.nil _ _ _ _
 have hgg : g' ≠ g := by
  rintro rfl;rw [hg] at hg';cases hg';exact hne rfl
 exact ⟨⟨⟨h.1.1.1, .inr ⟨g', cap, cur', rfl, hb, ((Ext.set w ⟨g, k, none⟩ u).block g' (lt_of_some hg') hgg).trans hg', hn, hc, hsz, ht⟩⟩, h.1.2⟩, h.2⟩
section
variable {td ti tm : TypeId} {w w' : World} {F M : Nat → Prop} {a1 a2 a3 : Raw} {ps : List Raw} {K : Nat}
theorem Stn.keep (h : Stn td ti tm w F a1 a2 a3 ps K) (e : Le w w') : Stn td ti tm w' F a1 a2 a3 ps K := h.keepM e fun _ _ => not_false
theorem Stn.dots (h : Stn td ti tm w F a1 a2 a3 ps K) {q : Raw} (hq : q = a1 ∨ q = a2) : ∃ xs, Fre Dt.dotF td w F (slv q) xs := by
 rcases hq with rfl | rfl
 ·exact h.d1
 ·exact h.d2
theorem Stn.setD (h : Stn td ti tm w F a1 a2 a3 ps K) (n1 : ti ≠ td) (n2 : tm ≠ td) {g i : Nat} {z : Int} {cur : Array Value} (hg : w.heap[g]? = some (.cells cur td (0, 0))) : Stn td ti tm (w.setCell ⟨g, i * Dt.dotF.sz + 1, none⟩ (.int .i64 z)) F a1 a2 a3 ps K := by
 obtain ⟨⟨x1, h1⟩, ⟨x2, h2⟩, ⟨x3, h3, h4, h5⟩, h6⟩ := h;have hs : ∀ x : Dt.Dot, ∃ y : Dt.Dot, Dt.dotF.e y = (Dt.dotF.e x).set 1 (.int .i64 z) := fun x => ⟨(x.1, z), rfl⟩
 obtain ⟨y1, k1, _⟩ := h1.put (i := i) hg (by decide) hs;obtain ⟨y2, k2, _⟩ := h2.put (i := i) hg (by decide) hs;refine ⟨⟨y1, k1⟩, ⟨y2, k2⟩, ⟨x3, h3.off hg n1, h4, h5⟩, fun p hp => ?_⟩;obtain ⟨ms, h7⟩ := h6 p hp;exact ⟨ms, h7.off hg n2⟩
theorem Stn.setM (h : Stn td ti tm w F a1 a2 a3 ps K) (n1 : td ≠ tm) (n2 : ti ≠ tm) {g i : Nat} {z : Int} {cur : Array Value} (hg : w.heap[g]? = some (.cells cur tm (0, 0))) : Stn td ti tm (w.setCell ⟨g, i * markF.sz + 2, none⟩ (.int .i64 z)) F a1 a2 a3 ps K := by
 obtain ⟨⟨x1, h1⟩, ⟨x2, h2⟩, ⟨x3, h3, h4, h5⟩, h6⟩ := h;refine ⟨⟨x1, h1.off hg n1⟩, ⟨x2, h2.off hg n1⟩, ⟨x3, h3.off hg n2, h4, h5⟩, fun p hp => ?_⟩;obtain ⟨ms, h7⟩ := h6 p hp;obtain ⟨ms', h8, _⟩ := h7.put (i := i) (off := 2) (u := .int .i64 z) hg (by decide) fun x => ⟨(x.1, z, x.2.2), rfl⟩
 exact ⟨ms', h8⟩
theorem str_same {a b : List UInt8} (h : str a = str b) : a = b := by
 unfold str at h
 simpa using h
theorem slv_inj {p q : Raw} (h : slv p = slv q) : p = q := by
 obtain ⟨a, b, c⟩ := p;obtain ⟨a', b', c'⟩ := q;simp only [slv, Value.slice.injEq] at h;obtain ⟨rfl, rfl, rfl⟩ := h
 rfl
theorem Stn.setN (h : Stn td ti tm w F a1 a2 a3 ps K) (n1 : td ≠ ti) (n2 : tm ≠ ti) {g i : Nat} {s : List UInt8} (hs : s.length ≤ K + 1) {cur : Array Value} (hg : w.heap[g]? = some (.cells cur ti (0, 0))) : Stn td ti tm (w.setCell ⟨g, i * itemF.sz + 0, none⟩ (str s)) F a1 a2 a3 ps (K + 1) := by
 obtain ⟨⟨x1, h1⟩, ⟨x2, h2⟩, ⟨x3, h3, h4, h5⟩, h6⟩ := h;obtain ⟨y3, k3, _, k4, k5⟩ := h3.put (i := i) (off := 0) (u := str s) hg (by decide) fun x => ⟨(s, x.2), rfl⟩
 refine ⟨⟨x1, h1.off hg n1⟩, ⟨x2, h2.off hg n1⟩, ⟨y3, k3, ?_, k5 (fun r => r.1.length ≤ K + 1) (fun r hr => Nat.le_succ_of_le (h5 r hr)) ?_⟩, fun p hp => ?_⟩
 ·rw [← h4]
  refine k4 (·.2) fun x z hz => ?_
  have e1 : [str z.1, slv z.2] = [str s, slv x.2] := hz;simp only [List.cons.injEq, and_true] at e1;exact slv_inj e1.2
 ·intro x z hz
  have e1 : [str z.1, slv z.2] = [str s, slv x.2] := hz;simp only [List.cons.injEq, and_true] at e1;have e2 : z.1 = s := str_same e1.1;show z.1.length ≤ K + 1;rw [e2]; exact hs
 ·obtain ⟨ms, h7⟩ := h6 p hp
  exact ⟨ms, h7.off hg n2⟩
theorem Stn.of {v1 v2 v3 : Value} {xs ys : List Dt.Dot} {its : List ItemT} (h1 : Fre Dt.dotF td w F v1 xs) (h2 : Fre Dt.dotF td w F v2 ys) (h3 : SlI ti tm w F v3 its) (hn : ∀ x ∈ its, x.1.length ≤ K) : ∃ a1 a2 a3 ps, v1 = slv a1 ∧ v2 = slv a2 ∧ v3 = slv a3 ∧ Stn td ti tm w F a1 a2 a3 ps K := by
 obtain ⟨a1, rfl⟩ := h1.slv;obtain ⟨a2, rfl⟩ := h2.slv;obtain ⟨raw, h4, h5⟩ := h3;obtain ⟨a3, rfl⟩ := h4.slv;refine ⟨a1, a2, a3, raw.map (·.2), rfl, rfl, rfl, ⟨_, h1⟩, ⟨_, h2⟩, ⟨raw, h4, rfl, fun r hr => ?_⟩, fun p hp => ?_⟩
 ·obtain ⟨i, hi, rfl⟩ := List.getElem_of_mem hr
  rw [(h5.2 i hi (by rw [← h5.1]; exact hi)).1];exact hn _ (List.getElem_mem _)
 ·obtain ⟨r, hr, rfl⟩ := List.mem_map.1 hp
  obtain ⟨i, hi, rfl⟩ := List.getElem_of_mem hr;exact ⟨_, (h5.2 i hi (by rw [← h5.1]; exact hi)).2⟩
end
section
variable
 {x y : Operand} {t tr ty : TypeId} {pos : String} {after : Array Edge} {α : Type}
theorem O.storeS {G : Flat α} {B g cap i off k : Nat} {xs : List α} {u : Value} (hk : k = i * G.sz + off) (hsz : ∀ w, (sizeOf t).run P w = .ok 1 w) (hx : ev n f x = .pointer (some ⟨g, k, none⟩)) (hy : ev n f y = u) (h1 : u.oneCell' = true)
 (ho : OwnF G ty B w (.slice (some ⟨g, 0, none⟩) xs.length cap) xs) (hi : i < xs.length) (hof : off < G.sz)
 (h : ∀ w' cur, w.heap[g]? = some (.cells cur ty (0, 0)) → w' = w.setCell ⟨g, i * G.sz + off, none⟩ u → Ext (fun k => k = g) w w' → w'.heap.size = w.heap.size → O P n ops rest N Z f w') :
 O P n ops ({ dst := .none, op := .store t x y, type := tr, pos := pos, after := after, guard := .none } :: rest) N Z f w := by
 subst hk;obtain ⟨g', cap', cs, hv, hown, hcs, hn, _, hc3, _⟩ := ho.block (by omega);have e1 : g = g' := by cases hv; rfl
 have e2 : cap = cap' := by cases hv; rfl
 subst e1; subst e2;obtain ⟨cur, hcur⟩ : ∃ cur, w.heap[g]? = some (.cells cur ty (0, 0)) := by
  rcases ho.1.2 with ⟨h1, _⟩ | ⟨g', cap', cur, h1, hb, hg, _⟩
  ·cases h1
  ·cases h1; exact ⟨cur, hg⟩
 refine O.act rfl rfl ?_ (h (w.setCell ⟨g, i * G.sz + off, none⟩ u) cur hcur rfl (Ext.set w ⟨g, i * G.sz + off, none⟩ u) (by simp));have h3 : execOp (ev n f) { dst := .none, op := .store t x y, type := tr, pos := pos, after := after, guard := .none } = (do Instr.storeAt t (ev n f x) (ev n f y); pure .skip) := rfl;rw [h3, Sem.run_bind, hx, hy];have hcells : u.cells = #[u] := by cases u <;> first | rfl | simp [Value.oneCell'] at h1
 have hlt : i * G.sz + off < cs.length := by
  have q1 : (i + 1) * G.sz ≤ cap * G.sz := Nat.mul_le_mul_right _ (by omega);rw [Nat.add_mul] at q1
  omega
 have hc := hown.cell (i := i * G.sz + off) (v := cs[i * G.sz + off]) (by simp);have hf := hown.free hlt;have h4 : (Instr.storeAt t (.pointer (some ⟨g, i * G.sz + off, none⟩)) u).run P w = .ok () (w.setCell ⟨g, i * G.sz + off, none⟩ u) := by
  simp [Instr.storeAt, Instr.sureAddr, storeVar, hsz, hcells, storeCells, Addr.add, run_store P w ⟨g, i * G.sz + off, none⟩ u .plain h1, hc, hf]
 rw [h4]
 rfl
end
end Go.Pn
end
section
namespace Go.Pn
open Go.ChangeShapes Go.WideShapes Go.ChangeAt Go.RowKit
section
variable {H : Type} {enc : TypeId × Value → H} {P : Program} {W W' : World}
theorem kept_of_le (e : Le W W') (may : MemPlace → Prop) : W.keptBut W' may := by
 refine ⟨e.os, e.output, fun i hi => ?_⟩;rw [e.block i hi not_false];cases h : W.heap[i]? with
 | none => rfl
 | some o => cases o <;> first | exact ⟨rfl, rfl, rfl, fun _ _ => rfl⟩ | exact .inr ⟨rfl, rfl⟩ | rfl
theorem frozen_of_le (e : Le W W') {a : Addr} (h : a.block < W.heap.size) : W'.frozen? a = W.frozen? a := by
 unfold World.frozen?;rw [e.block _ h not_false]
theorem same_of_le (e : Le W W') {p : MemPlace} (h : p.block < W.heap.size) : W.sameAt W' p := by
 cases p with
 | cell b off => show W'.cell? _ = W.cell? _; unfold World.cell?; rw [e.block b h not_false]
 | map b => exact e.block b h not_false
theorem args_of_le (hl : laidOutB P = true) (e : Le W W') {sp : Nat → Bool} : ∀ {ts : List TypeId} {vs : List Value} {ds : List (DataW H)} {ps : List MemPlace},
 (ts.all fun t => P.readableRec t && decide (t < P.types.size)) = true → DataW.TrodAll enc P W 0 (fun _ => true) true ts vs ds ps → (∀ p ∈ ps, p.block < W.heap.size ∧ sp p.block = true) → DataW.TrodAll enc P W' 0 sp true ts vs ds ps
 | [], [], [], _, _, h, _ => h
 | [], [], _ :: _, _, _, h, _ => h.elim
 | [], _ :: _, [], _, _, h, _ => h.elim
 | [], _ :: _, _ :: _, _, _, h, _ => h.elim
 | _ :: _, [], [], _, _, h, _ => h.elim
 | _ :: _, [], _ :: _, _, _, h, _ => h.elim
 | _ :: _, _ :: _, [], _, _, h, _ => h.elim
 | _ :: _, _ :: _, _ :: _, _, ht, ⟨p, q, h1, h2, e1⟩, hs => by
   simp only [List.all_cons, Bool.and_eq_true, decide_eq_true_eq] at ht;subst e1;refine ⟨p, q, WideElems.Trod_stays hl ht.1.1 ht.1.2 h1 (fun x hx => same_of_le e (hs x (List.mem_append_left _ hx)).1) (fun x hx => (hs x (List.mem_append_left _ hx)).2), args_of_le hl e ?_ h2 (fun x hx => hs x (List.mem_append_right _ hx)), rfl⟩
   simpa using ht.2
theorem post_of_le {f : Func} {s : ChangeSpec} {fresh handsOn again : Bool} {args : Array Value} {ds gs : List (DataW H)} {before : List MemPlace} {tb : TypeId}
 (hl : laidOutB P = true) (hp : (f.params.toList.all fun t => P.readableRec t && decide (t < P.types.size)) = true) (hv : s.vars = []) (hr : f.resultTypes = #[tb]) (hb : P.underlying tb = some .bool)
 (hW : DataW.Whole enc P f.params.toList s.vars false W args.toList ds gs before) (e : Le W W')
 (hs : s.fn H (ds ++ gs) = { results := [.lit (.bool true)], args := ds }) : s.post enc P f false fresh handsOn again W args (.bool true) W' := by
 have hlt := hW.lt;have hW0 := hW;obtain ⟨p, q, hA, hV, rfl, hz, _⟩ := hW;rw [hv] at hV;obtain ⟨rfl, rfl⟩ := trodVars_none hV;have hres : ∀ (b : Nat) (sp : Nat → Bool) (hd : Bool), DataW.TrodAll enc P W' b sp hd f.resultTypes.toList ((Value.bool true).resultList f.resultTypes.size) (s.fn H (ds ++ [])).results [] := by
  intro b sp hd;rw [hs, hr];exact trodAll_cons_mk (shut_bool hb _) trodAll_mk0
 have hargs : ∀ sp : Nat → Bool, (∀ x ∈ p, sp x.block = true) → DataW.TrodAll enc P W' 0 sp true f.params.toList args.toList (s.fn H (ds ++ [])).args p := by
  intro sp hsp;rw [hs];exact args_of_le hl e hp hA fun x hx => ⟨hlt x (by simpa using hx), hsp x hx⟩
 have hvars : ∀ sp : Nat → Bool, DataW.TrodVars enc P W' sp s.vars (s.fn H (ds ++ [])).vars [] := by
  intro sp;rw [hs, hv]
  rfl
 have hold : ∀ x ∈ p, (fun b => decide (b < W.heap.size)) x.block = true := fun x hx => by simpa using hlt x (by simpa using hx)
 refine ⟨ds, [], p ++ [], [], p, [], hW0, hres _ _ _, hargs _ hold, hvars _, World.keptBut_mono (fun x hx => ⟨hx, .inr (by simpa using hx)⟩) (kept_of_le e _), fun _ => ?_⟩;refine ⟨ok_one hr rfl (okWide_bool_mk hb _), _, _, ([] ++ p) ++ [], ⟨[] ++ p, [], trodAll_append (hargs _ (fun _ _ => rfl)) (hres _ _ _), hvars _, rfl, ?_, ?_⟩, ?_⟩
 ·intro b off hx
  have hx2 : MemPlace.cell b off ∈ p := by simpa using hx
  rw [frozen_of_le e (hlt _ (by simpa using hx2))];exact hz b off (by simpa using hx2)
 ·intro ha; cases ha
 ·intro x hx _
  simpa using hx
theorem sl_bytes {t e : TypeId} {base : Nat} {v : Value} {d : DataW H} {p : List MemPlace} (ht : P.underlying t = some (.slice e)) (he : P.underlying e = some (.int .u8)) (hc : P.cellsOf e = 1)
 (hval : Value.okWide P W .any base t v) (h : DataW.Trod enc P W 0 (fun _ => true) true t v d p) : ∃ l : List UInt8, Sl byteE W (fun k => k < W.heap.size) v l := by
 obtain ⟨a1, len1, cap1, rfl⟩ := okWide_slice ht hval;obtain ⟨fuel, hf⟩ := h;rcases open_ints ht he hc hf with ⟨hcs, _⟩ | ⟨a, len, cap, zs, hcs, _, hl, hm, hz, _, hcell, hw⟩
 ·simp [Value.cells] at hcs
  obtain ⟨rfl, rfl, rfl⟩ := hcs;exact ⟨[], Sl.nil _ _ _⟩
 ·simp [Value.cells] at hcs
  obtain ⟨rfl, rfl, rfl⟩ := hcs;simp only [Value.okWide, ht, Cell.okWide, Cell.ok] at hval;obtain ⟨_, _, _, hsp, row, cells, hsh, _⟩ := hval;obtain ⟨b, off, spot⟩ := a;simp only at hsp;subst hsp;simp only [if_true] at hz;have hblk : ∃ cur ty fr, W.heap[b]? = some (.cells cur ty fr) := by
   unfold World.shape? at hsh
   split at hsh
   ·rename_i c el fr hh; exact ⟨c, el, fr, hh⟩
   ·cases hsh
  obtain ⟨cur, ty, fr, hb⟩ := hblk;have hcur : ∀ i, i < zs.length → cur[off + i]? = some (.int .u8 (zs.getD i 0)) := by
   intro i hi;have := hcell i hi;rw [Addr.add_none] at this;unfold World.cell? at this
   simpa [hb] using this
  refine ⟨(zs.take len1).map fun z => UInt8.ofNat z.toNat, ?_⟩;have hlen : ((zs.take len1).map fun z => UInt8.ofNat z.toNat).length = len1 := by simp; omega
  refine ⟨by omega, .inr ⟨b, off, cap1, cur, ty, fr, by rw [hlen], lt_of_some hb, hb, by omega, hm, ?_, ?_⟩⟩
  ·intro h0
   have h1 := hcur (cap1 - 1) (by omega);have h2 : off + (cap1 - 1) < cur.size := by
    rcases Nat.lt_or_ge (off + (cap1 - 1)) cur.size with h | h
    ·exact h
    ·rw [Array.getElem?_eq_none h] at h1; cases h1
   show off + cap1 * 1 ≤ _
   omega
  ·intro i hi
   have hi2 : i < len1 := by omega
   have h1 := hcur i (by omega);have h3 := hw (zs.getD i 0) (by rw [List.getD_eq_getElem?_getD, List.getElem?_eq_getElem (by omega)]; exact List.getElem_mem _);have h4 : (0 : Int) ≤ zs.getD i 0 ∧ zs.getD i 0 < 256 := by
    simp only [Lit.wf, Bool.and_eq_true, decide_eq_true_eq] at h3;have e1 : IntKind.u8.min = 0 := rfl;have e2 : IntKind.u8.max = 255 := rfl
    omega
   show (cur.toList.drop (off + i * 1)).take 1 = [Value.int .u8 _];have hlt : off + i < cur.toList.length := by
    rcases Nat.lt_or_ge (off + i) cur.size with h | h
    ·simpa using h
    ·rw [Array.getElem?_eq_none h] at h1; cases h1
   rw [Nat.mul_one, List.drop_eq_getElem_cons hlt, List.take_succ_cons, List.take_zero];have h5 : cur.toList[off + i] = .int .u8 (zs.getD i 0) := by
    have : cur.toList[off + i]? = some (.int .u8 (zs.getD i 0)) := by simpa using h1
    rw [List.getElem?_eq_getElem hlt] at this;exact Option.some.inj this
   rw [h5]
   congr 2
   have h6 : zs.getD i 0 = zs[i]'(by omega) := by simp [List.getD_eq_getElem?_getD, show i < zs.length from by omega]
   simp only [List.getElem_map, List.getElem_take];rw [← h6]
   generalize zs.getD i 0 = z at h4 ⊢
   obtain ⟨n, rfl⟩ := Int.eq_ofNat_of_zero_le h4.1;have h7 : n < 256 := by omega
   simp
   omega
theorem u_of {t : TypeId} {base m : Nat} {k : IntKind} {v : Value} {d : DataW H} {p : List MemPlace} (ht : P.underlying t = some (.int k)) (hk : k.min = 0) (hk2 : k.max = 2 ^ m - 1) (hval : Value.okWide P W .any base t v) (h : DataW.Trod enc P W 0 (fun _ => true) true t v d p) :
 ∃ x : BitVec m, v = .int k (x.toNat : Int) := by
 obtain ⟨z, rfl, _, _, hw⟩ := open_int ht hval h;simp only [Lit.wf, Bool.and_eq_true, decide_eq_true_eq] at hw;refine ⟨BitVec.ofInt m z, ?_⟩
 congr 1
 rw [BitVec.toNat_ofInt];have h1 : (2 ^ m : Int) = ((2 ^ m : Nat) : Int) := by norm_cast
 have hp : 0 < 2 ^ m := Nat.pow_pos (by decide);rw [Int.emod_eq_of_lt (by omega) (by omega)]
 omega
end
theorem calls_of {P : Program} {k : FuncId} {args : Array Value} {W : World} {Q : Value → World → Prop} (h : Ret P k args W fun v w' => v = .bool true ∧ Le W w') (hq : ∀ w', Le W w' → Q (.bool true) w') :
 Calls P k args W fun e W' => ∃ v, e = .returned v ∧ Q v W' := by
 refine Calls.mono h fun e W' hh => ?_
 cases e with
 | returned v => obtain ⟨rfl, e⟩ := hh; exact ⟨_, rfl, hq _ e⟩
 | _ => exact hh.elim
end Go.Pn
end
section
namespace Go.Pn
open Go.RowKit
section
variable
 {d : Nat} {x y : Operand} {t t' tn ty tr e : TypeId} {pos : String} {after : Array Edge} {α : Type} {G : Flat α} {F : Nat → Prop}
end
open Go.Lib in
theorem strCells_flat (l : List UInt8) : strCells ⟨l.toArray⟩ = l.flatMap byteF.e := by
 rw [byteF_map]
 simp [strCells]
open Go.Lib
section
variable
 {d : Nat} {x y : Operand} {t t' tn ty tr e : TypeId} {pos : String} {after : Array Edge} {α : Type} {F : Nat → Prop}
theorem O.appS {i : TypeInfo} {v : Value} {xs ys : List UInt8} {B : Nat} (ht : P.underlying t = some (.slice e)) (hu : P.underlying t' = some .string) (hi : P.info? e = some i) (hz : i.zero = some (.int .u8 0)) (hsz : i.size = 1) (hby : i.bytes = 1)
 (hx : ev n f x = v) (hy : ev n f y = str ys) (hown : OwnF byteF e B w v xs) (hb : xs.length + ys.length ≤ 140737488355328) (hl : xs.length + ys.length ≤ maxLen) (hB : B ≤ w.heap.size)
 (h : ∀ v' w', OwnF byteF e B w' v' (xs ++ ys) → Ext (bk v) w w' → O P n ops rest N Z (upd f d v') w') :
 O P n ops (ZO d (.call { callee := .builtin .append, args := [x, y].toArray, argTypes := [t, t'].toArray }) tr pos after :: rest) N Z f w := by
 have hsz2 : ByteArray.size ⟨ys.toArray⟩ = ys.length := by simp [ByteArray.size]
 obtain ⟨v', w', hr, ho, hg, _⟩ := run_append_own_string (P := P) (w := w) B t t' tr e i ht hu hi hz hsz hby v xs.length _ hown.1 ⟨ys.toArray⟩ (by rw [hsz2]; exact hl) (by rw [hsz2]; exact hb) hB;rw [strCells_flat, hsz2] at ho;refine O.val rfl rfl ?_ (h v' w' ⟨?_, by simpa using hl⟩ ((ext_of_grown hg).mono fun k _ hk => ?_))
 ·have h3 : (execOp (ev n f) (ZO d (.call { callee := .builtin .append, args := [x, y].toArray, argTypes := [t, t'].toArray }) tr pos after)).run P w = ((Builtin.append_ #[t, t'] tr #[ev n f x, ev n f y]).run P w).andThen (fun v w => .ok (.value v) w) := by
   simp [execOp, resolve, invoke, builtin]
  have e1 : str ys = .string ⟨ys.toArray⟩ := rfl;rw [h3, hx, hy, e1, hr]
  rfl
 ·rw [List.flatMap_append, List.length_append]; exact ho
 ·cases v with
  | slice a n c =>
    cases a with
    | none => simp [Value.ownBlock] at hk
    | some a => simp only [Value.ownBlock, Option.some.injEq] at hk; exact hk.symm
  | _ => simp [Value.ownBlock] at hk
end
section
variable
 {d : Nat} {x y : Operand} {t tr e : TypeId} {pos : String} {after : Array Edge} {α : Type} {E : Enc α} {F : Nat → Prop}
end
theorem OwnF.lit1 {α : Type} {G : Flat α} {ty : TypeId} {B : Nat} {w : World} {b : Nat} {u : Value} {x : α} (hs : G.sz = 1) (h : Own0 w b ty [u]) (hu : G.e x = [u]) (hB : B ≤ b) : OwnF G ty B w (.slice (some ⟨b, 0, none⟩) 1 1) [x] := by
 refine ⟨⟨by rw [G.length], .inr ⟨b, 1, #[u], rfl, hB, h, by simp, by unfold maxLen; omega, by simp [hs], ?_⟩⟩, by unfold maxLen; simp⟩
 simp [hs, hu]
end Go.Pn
end
section
namespace Go.Pn
open Go.RowKit
section
variable {α : Type} {G : Flat α} {ty : TypeId} {w w' : World} {v : Value} {g B : Nat} {xs ys : List α}
theorem OG.lst (h : OG G ty w v g xs) (e : xs = ys) : OG G ty w v g ys := e ▸ h
theorem OG.of (h : OwnF G ty B w v xs) (hne : 0 < xs.length) : ∃ g, OG G ty w v g xs ∧ B ≤ g := by
 obtain ⟨g, cap, cs, rfl, _, _, _, _, _, hB⟩ := h.block hne;exact ⟨g, ⟨h.low (Nat.zero_le _), fun k hk => hk, (h.bk_ge g rfl).2⟩, hB⟩
theorem OG.own (h : OG G ty w v g xs) (hB : B ≤ g) : OwnF G ty B w v xs := by
 refine ⟨⟨h.1.1.1, ?_⟩, h.1.2⟩;rcases h.1.1.2 with hn | ⟨g', cap, cur, rfl, _, rest⟩
 ·exact .inl hn
 ·have e : g' = g := h.2.1 g' rfl
  exact .inr ⟨g', cap, cur, rfl, by omega, rest⟩
end
section
variable
 {d : Nat} {x y : Operand} {t t' ty tr e : TypeId} {pos : String} {after : Array Edge} {α : Type} {G : Flat α} {F : Nat → Prop}
end
end Go.Pn
end
section
namespace Go.Pn.Cn
open Go Go.Pn
section
variable {α β : Type} {Q : α → Prop} {Q' : β → Prop} {f : α → List UInt8} {g : β → List UInt8} {s t l r : List UInt8} {k k1 k2 : Nat} {x y : α}
theorem No.intR (h : No (fun _ : BitVec 64 => True) (fun q => num q.toNat) l k) : No InR (fun x => num (u x)) l k := fun x r _ e => h (BitVec.ofInt 64 x) r trivial e
theorem toInt_R (q : BitVec 64) : InR q.toInt := by
 have h := BitVec.toInt_lt (x := q);have h2 := BitVec.le_toInt (x := q);unfold InR
 omega
end
theorem valN_front {x : List UInt8} {i : Nat} (hi : i < x.length) : valN (x.take (i + 1)) = valN (x.take i) + x[i].toNat % 128 * 128 ^ i := by
 have key : ∀ (l : List UInt8) (c : UInt8), valN (l ++ [c]) = valN l + c.toNat % 128 * 128 ^ l.length := by
  intro l c
  induction l with
  | nil => simp only [List.nil_append, valN, List.length_nil, Nat.pow_zero]; omega
  | cons a l ih =>
    simp only [List.cons_append, valN, ih, List.length_cons, Nat.pow_succ];rw [Nat.mul_add, ← Nat.mul_assoc, Nat.mul_comm 128 (c.toNat % 128), Nat.mul_assoc, Nat.mul_comm 128 (128 ^ l.length)]
    omega
 rw [List.take_succ_eq_append_getElem hi, key, List.length_take, Nat.min_eq_left (Nat.le_of_lt hi)]
theorem group2 (n i : Nat) (c : BitVec 8) : BitVec.ofNat 64 n + ((c % 128#8).setWidth 64 <<< (7 * i)) = BitVec.ofNat 64 (n + c.toNat % 128 * 128 ^ i) := by
 apply BitVec.eq_of_toNat_eq
 have h1 : 128 ^ i = 2 ^ (7 * i) := by rw [Nat.pow_mul]
 simp only [BitVec.toNat_add, BitVec.toNat_shiftLeft, BitVec.toNat_ofNat, BitVec.toNat_setWidth, BitVec.toNat_umod, Nat.shiftLeft_eq, h1];have h2 : c.toNat % (128 % 2 ^ 8) % 2 ^ 64 = c.toNat % 128 := by rw [show (128 % 2 ^ 8 : Nat) = 128 by decide]; omega
 rw [h2]
 omega
end Go.Pn.Cn
end
section
namespace Go.Pn.Cn
open Go Go.Pn
section
variable {l : List UInt8} {k k1 k2 k3 k4 : Nat} {n m q t : BitVec 64} {d : Dot}
section
variable {α : Type} {Q : α → Prop} {f : α → List UInt8}
end
theorem noR (h : NumA l k) : No InR (fun x => num (u x)) l k := h.intR
theorem no_dotR1 (h : NumA l k) : No dotR dotB l k := No.fst (Q' := InR) (g := fun x : Int => num (u x)) (noR h)
theorem no_dotR2 (hs : SegN n l k k1) (h : NumA l k1) : No dotR dotB l k := No.snd (f := fun x : Int => num (u x)) (x := n.toInt) (segI hs) pre_u (toInt_R n) (noR h)
theorem dotR_mk : dotR (n.toInt, m.toInt) := ⟨toInt_R n, toInt_R m⟩
theorem no_markR (h : No (fun x : Dot × (Int × BitVec 64) => dotR x.1 ∧ (InR x.2.1 ∧ True)) (fun x => dotB x.1 ++ (num (u x.2.1) ++ num x.2.2.toNat)) l k) : No markR markB l k := by
 rw [markB_eq];exact h.mono fun x hx => ⟨⟨hx.1, hx.2.1⟩, hx.2.2, trivial⟩
theorem no_markR1 (h : No dotR dotB l k) : No markR markB l k := no_markR (No.fst (Q' := fun x : Int × BitVec 64 => InR x.1 ∧ True) (g := fun x : Int × BitVec 64 => num (u x.1) ++ num x.2.toNat) h)
theorem no_markR2 (hd : Seg (dotB d) l k k1) (hq : dotR d) (h : NumA l k1) : No markR markB l k := no_markR (No.snd hd pre_dot hq (No.fst (Q' := fun _ : BitVec 64 => True) (g := fun q : BitVec 64 => num q.toNat) (noR h)))
theorem no_markR3 (hd : Seg (dotB d) l k k1) (hq : dotR d) (hn : SegN q l k1 k2) (h : NumA l k2) : No markR markB l k :=
 no_markR (No.snd hd pre_dot hq (No.snd (f := fun x : Int => num (u x)) (g := fun q : BitVec 64 => num q.toNat) (x := q.toInt) (segI hn) pre_u (toInt_R q) h))
theorem markR_mk (h : dotR d) : markR (d, q.toInt, t) := ⟨h.1, h.2, toInt_R q⟩
abbrev itemR : Item → Prop := fun x => manyQ markR x.2
theorem pre_itemR : Pre itemR itemB := pre_item
theorem no_itemR (h : No (fun x : Item => True ∧ manyQ markR x.2) (fun x => strB x.1 ++ manyB markB x.2) l k) : No itemR itemB l k := by
 rw [itemB_eq];exact h.mono fun x hx => ⟨trivial, hx⟩
theorem no_itemR1 (h : No (fun _ : List UInt8 => True) strB l k) : No itemR itemB l k := no_itemR (No.fst h)
theorem no_itemR2 {s : List UInt8} (hs : Seg (strB s) l k k1) (h : No (manyQ markR) (manyB markB) l k1) : No itemR itemB l k := no_itemR (No.snd hs pre_str trivial h)
abbrev ctxR : Ctx → Prop := fun x => manyQ dotR x.1 ∧ manyQ dotR x.2
theorem pre_ctxR : Pre ctxR ctxB := pre_pair (pre_manyQ pre_dot) (pre_manyQ pre_dot)
theorem no_ctxR1 (h : No (manyQ dotR) (manyB dotB) l k) : No ctxR ctxB l k := No.fst h
theorem no_ctxR2 {v : List Dot} (hs : Seg (manyB dotB v) l k k1) (hq : manyQ dotR v) (h : No (manyQ dotR) (manyB dotB) l k1) : No ctxR ctxB l k := No.snd hs (pre_manyQ pre_dot) hq h
theorem no_cartR1 (h : No ctxR ctxB l k) : No cartR bytes l k := No.fst (Q' := manyQ itemR) (g := manyB itemB) h
theorem no_cartR2 {x : Ctx} (hs : Seg (ctxB x) l k k1) (hx : ctxR x) (h : No (manyQ itemR) (manyB itemB) l k1) : No cartR bytes l k := No.snd (Q' := manyQ itemR) (g := manyB itemB) hs pre_ctxR hx h
end
end Go.Pn.Cn
end
section
namespace Go.Pn.Cn
open Go Go.Pn
def Rd {α : Type} (Q : α → Prop) (f : α → List UInt8) (l : List UInt8) (k : Nat) (bad : Bool) (x : α) (k' : Nat) (bad' : Bool) : Prop :=
 k' ≤ l.length ∧ ((bad' = false ∧ bad = false ∧ Seg (f x) l k k') ∨ (bad' = true ∧ (bad = false → No Q f l k)))
abbrev RdN (l : List UInt8) (k : Nat) (bad : Bool) (n : BitVec 64) (k' : Nat) (bad' : Bool) : Prop := Rd (fun _ : BitVec 64 => True) (fun q => num q.toNat) l k bad n k' bad'
section
variable {l x : List UInt8} {k k1 k2 k3 i : Nat} {bad b1 b2 b3 : Bool} {n m q : BitVec 64} {d : Dot}
theorem drop_get {k i : Nat} (h : k + i < l.length) (h' : i < (l.drop k).length) : (l.drop k)[i] = l[k + i] := by simp
theorem num_yes (hk : k + (i + 1) ≤ l.length) (h : num q.toNat = (l.drop k).take (i + 1)) : SegN q l k (k + (i + 1)) := by
 have hl : (num q.toNat).length = i + 1 := by rw [h, List.length_take, List.length_drop]; omega
 have := Seg.take (l := l) (k := k) (s := num q.toNat) (by rw [hl]; exact h) (by rw [hl]; exact hk);rwa [hl] at this
theorem num_no1 (hall : ∀ j, ∀ h : j < (l.drop k).length, j < i → ¬ (l.drop k)[j].toNat < 128) (hi : i = 10 ∨ (l.drop k).length ≤ i) : NumA l k := by
 intro q r _ e;obtain ⟨e0, h1, he, h9, _, _, _, h2, _⟩ := num_stands q.isLt e;exact hall e0 he (by omega) h2
theorem num_no2 (hall : ∀ j, ∀ h : j < (l.drop k).length, j < i → ¬ (l.drop k)[j].toNat < 128) (hi : i < (l.drop k).length) (h : (l.drop k)[i].toNat < 128)
 (hne : num (BitVec.ofNat 64 (valN ((l.drop k).take (i + 1)))).toNat ≠ (l.drop k).take (i + 1)) : NumA l k := by
 intro q r _ e;obtain ⟨e0, h1, he, h9, h3, _, _, h2, h4⟩ := num_stands q.isLt e;have h5 : e0 = i := by
  rcases Nat.lt_trichotomy e0 i with h6 | h6 | h6
  ·exact absurd h2 (hall e0 he h6)
  ·exact h6
  ·exact absurd h (h4 i hi h6)
 subst h5
 apply hne
 rw [← h3, valN_num, BitVec.ofNat_toNat, BitVec.setWidth_eq]
theorem RdN.of_bad (hk : k ≤ l.length) (h : bad = true) : RdN l k bad n k true := ⟨hk, .inr ⟨rfl, fun h2 => by rw [h] at h2; cases h2⟩⟩
theorem Rd.dot (h1 : RdN l k bad n k1 b1) (h2 : RdN l k1 b1 m k2 b2) : Rd dotR dotB l k bad (n.toInt, m.toInt) k2 b2 := by
 refine ⟨h2.1, ?_⟩;rcases h2.2 with ⟨q1, q2, q3⟩ | ⟨q1, q2⟩
 ·rcases h1.2 with ⟨p1, p2, p3⟩ | ⟨p1, _⟩
  ·exact .inl ⟨q1, p2, seg_dot p3 q3⟩
  ·rw [q2] at p1; cases p1
 ·refine .inr ⟨q1, fun hb => ?_⟩
  rcases h1.2 with ⟨p1, p2, p3⟩ | ⟨p1, p2⟩
  ·exact no_dotR2 p3 (q2 p1)
  ·exact no_dotR1 (p2 hb)
theorem Rd.str {n : BitVec 64} (h1 : RdN l k bad n k1 false) (h : n.toNat ≤ l.length - k1) : Rd (fun _ : List UInt8 => True) strB l k bad ((l.drop k1).take n.toNat) (k1 + n.toNat) false := by
 have hk := h1.1;refine ⟨by omega, .inl ⟨rfl, ?_⟩⟩;rcases h1.2 with ⟨_, p2, p3⟩ | ⟨p1, _⟩
 ·exact ⟨p2, seg_str p3 h⟩
 ·cases p1
theorem Rd.nostr {n : BitVec 64} (hl : l.length ≤ 1000000) (h1 : RdN l k bad n k1 b1) (h : b1 = true ∨ l.length - k1 < n.toNat) {s : List UInt8} : Rd (fun _ : List UInt8 => True) strB l k bad s k1 true := by
 refine ⟨h1.1, .inr ⟨rfl, fun hb => ?_⟩⟩;intro s r _ e;rcases h1.2 with ⟨p1, p2, p3⟩ | ⟨p1, p2⟩
 ·rcases h with h | h
  ·rw [p1] at h; cases h
  ·exact no_str (m := s.length) p3 (.inr h) s r (Int.le_refl _) e
 ·exact no_str_len (m := s.length) (p2 hb) (by omega) s r (Int.le_refl _) e
def Rds {α : Type} (Q : α → Prop) (f : α → List UInt8) (l : List UInt8) (k : Nat) (bad : Bool) (n : BitVec 64) (k1 : Nat) (xs : List α) (k' : Nat) (bad' : Bool) : Prop :=
 k' ≤ l.length ∧ manyQ Q xs ∧ ((bad' = false ∧ bad = false ∧ SegN n l k k1 ∧ xs.length ≤ n.toNat ∧ Seg (xs.flatMap f) l k1 k') ∨ (bad' = true ∧ (bad = false → No (manyQ Q) (manyB f) l k)))
section
variable {α : Type} {Q : α → Prop} {f : α → List UInt8} {xs : List α} {y : α}
theorem Rds.start (hl : l.length ≤ 1000000) (hf : ∀ x, 1 ≤ (f x).length) (h : RdN l k bad n k1 b1) : Rds Q f l k bad n k1 [] k1 b1 := by
 refine ⟨h.1, manyQ_nil, ?_⟩;rcases h.2 with ⟨p1, p2, p3⟩ | ⟨p1, p2⟩
 ·exact .inl ⟨p1, p2, p3, Nat.zero_le _, Seg.nil p3.2.2⟩
 ·exact .inr ⟨p1, fun hb => no_many1 (p2 hb) hf (by omega)⟩
theorem Rds.next (hp : Pre Q f) (h : Rds Q f l k bad n k1 xs k2 false) (hj : xs.length < n.toNat) (hy : Q y) (h2 : Rd Q f l k2 false y k3 b3) : Rds Q f l k bad n k1 (xs ++ [y]) k3 b3 := by
 refine ⟨h2.1, manyQ_snoc h.2.1 hy, ?_⟩;rcases h.2.2 with ⟨_, p2, p3, p4, p5⟩ | ⟨p1, _⟩
 ·rcases h2.2 with ⟨q1, _, q3⟩ | ⟨q1, q2⟩
  ·exact .inl ⟨q1, p2, p3, by rw [List.length_append]; exact hj, Seg.snoc p5 q3⟩
  ·exact .inr ⟨q1, fun _ => no_many2 p3 hp h.2.1 p5 hj (q2 rfl)⟩
 ·cases p1
theorem Rds.done (h : Rds Q f l k bad n k1 xs k2 b2) (hj : ¬ xs.length < n.toNat ∨ b2 = true) : Rd (manyQ Q) (manyB f) l k bad xs k2 b2 := by
 refine ⟨h.1, ?_⟩;rcases h.2.2 with ⟨p1, p2, p3, p4, p5⟩ | ⟨p1, p2⟩
 ·refine .inl ⟨p1, p2, seg_many p3 p5 ?_⟩
  rcases hj with hj | hj
  ·omega
  ·rw [p1] at hj; cases hj
 ·exact .inr ⟨p1, p2⟩
theorem Rds.len (hf : ∀ x, 1 ≤ (f x).length) (h : Rds Q f l k bad n k1 xs k2 false) : xs.length ≤ l.length ∧ xs.length ≤ n.toNat := by
 rcases h.2.2 with ⟨_, _, _, p4, p5⟩ | ⟨p1, _⟩
 ·have := seg_len hf p5
  exact ⟨by omega, p4⟩
 ·cases p1
end
theorem Rd.ctx {v c : List Dot} (h1 : Rd (manyQ dotR) (manyB dotB) l k bad v k1 b1) (hv : manyQ dotR v) (h2 : Rd (manyQ dotR) (manyB dotB) l k1 b1 c k2 b2) : Rd ctxR ctxB l k bad (v, c) k2 b2 := by
 refine ⟨h2.1, ?_⟩;rcases h2.2 with ⟨q1, q2, q3⟩ | ⟨q1, q2⟩
 ·rcases h1.2 with ⟨p1, p2, p3⟩ | ⟨p1, _⟩
  ·exact .inl ⟨q1, p2, seg_ctx p3 q3⟩
  ·rw [q2] at p1; cases p1
 ·refine .inr ⟨q1, fun hb => ?_⟩
  rcases h1.2 with ⟨p1, p2, p3⟩ | ⟨p1, p2⟩
  ·exact no_ctxR2 p3 hv (q2 p1)
  ·exact no_ctxR1 (p2 hb)
theorem Rd.mark {t : BitVec 64} (h1 : Rd dotR dotB l k bad d k1 b1) (hd : dotR d) (h2 : RdN l k1 b1 q k2 b2) (h3 : RdN l k2 b2 t k3 b3) : Rd markR markB l k bad (d, q.toInt, t) k3 b3 := by
 refine ⟨h3.1, ?_⟩;rcases h3.2 with ⟨r1, r2, r3⟩ | ⟨r1, r2⟩
 ·rcases h2.2 with ⟨q1, q2, q3⟩ | ⟨q1, _⟩
  ·rcases h1.2 with ⟨p1, p2, p3⟩ | ⟨p1, _⟩
   ·exact .inl ⟨r1, p2, seg_mark p3 q3 r3⟩
   ·rw [q2] at p1; cases p1
  ·rw [r2] at q1; cases q1
 ·refine .inr ⟨r1, fun hb => ?_⟩
  rcases h1.2 with ⟨p1, p2, p3⟩ | ⟨p1, p2⟩
  ·rcases h2.2 with ⟨q1, q2, q3⟩ | ⟨q1, q2⟩
   ·exact no_markR3 p3 hd q3 (r2 q1)
   ·exact no_markR2 p3 hd (q2 p1)
  ·exact no_markR1 (p2 hb)
theorem Rd.item {s : List UInt8} {ms : List Mark} (h1 : Rd (fun _ : List UInt8 => True) strB l k bad s k1 b1) (h2 : Rd (manyQ markR) (manyB markB) l k1 b1 ms k2 b2) : Rd itemR itemB l k bad (s, ms) k2 b2 := by
 refine ⟨h2.1, ?_⟩;rcases h2.2 with ⟨q1, q2, q3⟩ | ⟨q1, q2⟩
 ·rcases h1.2 with ⟨p1, p2, p3⟩ | ⟨p1, _⟩
  ·exact .inl ⟨q1, p2, seg_item p3 q3⟩
  ·rw [q2] at p1; cases p1
 ·refine .inr ⟨q1, fun hb => ?_⟩
  rcases h1.2 with ⟨p1, p2, p3⟩ | ⟨p1, p2⟩
  ·exact no_itemR2 p3 (q2 p1)
  ·exact no_itemR1 (p2 hb)
theorem Rd.cart {x : Ctx} {its : List Item} (h1 : Rd ctxR ctxB l k bad x k1 b1) (hx : ctxR x) (h2 : Rd (manyQ itemR) (manyB itemB) l k1 b1 its k2 b2) : Rd cartR bytes l k bad (x, its) k2 b2 := by
 refine ⟨h2.1, ?_⟩;rcases h2.2 with ⟨q1, q2, q3⟩ | ⟨q1, q2⟩
 ·rcases h1.2 with ⟨p1, p2, p3⟩ | ⟨p1, _⟩
  ·exact .inl ⟨q1, p2, seg_cart p3 q3⟩
  ·rw [q2] at p1; cases p1
 ·refine .inr ⟨q1, fun hb => ?_⟩
  rcases h1.2 with ⟨p1, p2, p3⟩ | ⟨p1, p2⟩
  ·exact no_cartR2 p3 hx (q2 p1)
  ·exact no_cartR1 (p2 hb)
theorem Rd.yes {α : Type} {Q : α → Prop} {f : α → List UInt8} {y : α} (h : Rd Q f l k bad y k1 b1) (hb : b1 = false) : Seg (f y) l k k1 := by
 rcases h.2 with ⟨_, _, h⟩ | ⟨h, _⟩
 ·exact h
 ·rw [hb] at h; cases h
theorem Rd.no {α : Type} {Q : α → Prop} {f : α → List UInt8} {y : α} (h : Rd Q f l k false y k1 b1) (hb : b1 = true) : No Q f l k := by
 rcases h.2 with ⟨h, _, _⟩ | ⟨_, h⟩
 ·rw [hb] at h; cases h
 ·exact h rfl
end
def PrefR (l : List UInt8) (c : Cart) (k : Nat) (found : Bool) : Prop := (found = true ∧ cartR c ∧ Seg (bytes c) l 0 k) ∨ (found = false ∧ k = 0 ∧ c = nil0 ∧ No cartR bytes l 0)
end Go.Pn.Cn
end
section
namespace Go.Pn.Cn
open Go Go.Pn
end Go.Pn.Cn
namespace Go.Pn.Cn
theorem flat_bound {α : Type} {f : α → List UInt8} {b n : Nat} {l : List α} (h : ∀ x ∈ l, (f x).length ≤ b) (hn : l.length ≤ n) : (l.flatMap f).length ≤ b * n := Nat.le_trans (flatMap_le h) (Nat.mul_le_mul_left b hn)
theorem bytes_small {a : Cart} (h : small a = true) : (bytes a).length ≤ 25000 := by
 obtain ⟨h1, h2, h3, h4⟩ := small_iff h;have g1 := flat_bound (f := dotB) (b := 20) (n := 40) (l := a.1.1) (fun x _ => dotB_le x) h1;have g2 := flat_bound (f := dotB) (b := 20) (n := 40) (l := a.1.2) (fun x _ => dotB_le x) h2;have g3 : ∀ x ∈ a.2, (itemB x).length ≤ 1000 := by
  intro x hx;obtain ⟨i1, i2⟩ := h4 x hx;have g := flat_bound (f := markB) (b := 40) (n := 20) (l := x.2) (fun m _ => markB_le m) i1;have n1 := num_le x.1.length (by omega);have n2 := num_le x.2.length (by omega);unfold itemB strB;simp only [List.length_append]
  omega
 have g4 := flat_bound (f := itemB) (b := 1000) (n := 20) (l := a.2) g3 h3;have n1 := num_le a.1.1.length (by omega);have n2 := num_le a.1.2.length (by omega);have n3 := num_le a.2.length (by omega);unfold bytes ctxB dotsB itemsB;simp only [List.length_append]
 omega
end Go.Pn.Cn
end
section
namespace Go.Pn.Bt
open Go Go.Pn Go.Pn.Jn Go.Pn.Cn
theorem entB_ge (x : Ent) : 1 ≤ (entB x).length := by unfold entB strB; have := num_len x.1.length; simp only [List.length_append]; omega
abbrev refQ : Ent → Prop := fun x => True ∧ cartR x.2
theorem pre_refQ : Pre refQ entB := pre_pair (f := strB) (g := Cn.bytes) pre_str pre_cart
def ReadRes (p : List UInt8) (l : List Ent) (ok : Bool) : Prop := (ok = true ∧ manyQ refQ l ∧ p = body l) ∨ (ok = false ∧ ∀ l', manyQ refQ l' → p ≠ body l')
theorem valid_refQ {l : List Ent} (h : valid l = true) : manyQ refQ l := fun x hx => by
 unfold valid at h;rw [Bool.and_eq_true] at h;exact ⟨trivial, validR (good_iff.2 ((ord_iff.1 h.2).ok x hx).2)⟩
theorem ReadRes.bodyR {p : List UInt8} {l : List Ent} {ok : Bool} (h : ReadRes p l ok) : BodyRes p l (ok && valid l) := by
 rcases h with ⟨rfl, h1, h3⟩ | ⟨rfl, h1⟩
 ·cases hv : valid l with
  | true => exact .inl ⟨rfl, hv, h3⟩
  | false =>
    refine .inr ⟨rfl, fun l' hl' e => ?_⟩;have e2 : body l ++ [] = body l' ++ [] := by rw [← h3, e]
    obtain ⟨q, _⟩ := pre_list pre_refQ l l' [] [] h1 (valid_refQ hl') e2;rw [q, hl'] at hv;cases hv
 ·exact .inr ⟨rfl, fun l' hl' => h1 l' (valid_refQ hl')⟩
end Go.Pn.Bt
end
section
namespace Go.Pn.Bt
open Go Go.Pn Go.Pn.Jn
theorem rises_yes {l : List Ent} (h2 : ∀ i, ∀ h : i + 1 < l.length, Op.bytesLess l[i].1 l[i + 1].1 = true) : rises l = true := Cn.adj_yes h2
theorem rises_no {l : List Ent} {i j : Nat} (hi : i < l.length) (hj : j < l.length) (hij : i = j + 1) (h : Op.bytesLess l[j].1 l[i].1 = false) : rises l = false := Cn.adj_no hi hj hij h
theorem ordered_of {l : List Ent} (h1 : ∀ i, ∀ h : i < l.length, okE l[i] = true) : ordered l = rises l := by
 unfold ordered;rw [Cn.all_yes h1]
 rfl
theorem small_big {x : Cart} (h : Cn.small x = true) : Cn.big x := by
 obtain ⟨h1, h2, h3, h4⟩ := Cn.small_iff h;exact ⟨by omega, by omega, by omega, fun y hy => by have := h4 y hy; omega⟩
theorem small_Big {l : List Ent} {most : Int} (h : small l most = true) : Big l := fun x hx => by
 have := (small_iff h).2 x hx;exact ⟨by omega, small_big this.2⟩
theorem ent_small {x : Ent} (h1 : x.1.length ≤ 100) (h2 : Cn.small x.2 = true) : (entB x).length ≤ 25110 := by
 unfold entB Cn.strB;have := Cn.bytes_small h2;have := Cn.num_le x.1.length (by omega);simp only [List.length_append]
 omega
end Go.Pn.Bt
end
section
namespace Go.Pn
section
variable {w w' : World} {F F' M : Nat → Prop} {r : (Raw × Raw) × Raw} {c : CartT}
end
section
variable {w w' : World} {F F' M : Nat → Prop} {raw : List EntR} {l : List EntT} {v : Value}
theorem Sl.ents (h : Sl entE w F v l) : ∃ raw, Sl entF.enc w F v raw ∧ EntL w F raw l := by
 obtain ⟨rs, h1, h2, h3⟩ := Sl.raws (G := entF) (R := fun r x => r.1 = x.1 ∧ CartAt w F r.2 x.2) rfl (fun cs x hr => by
  obtain ⟨_, _, rfl, hs, _, _, rfl, ⟨_, _, rfl, ⟨va, rfl, hx⟩, vb, rfl, hy⟩, vc, rfl, hz⟩ := hr;obtain ⟨a1, rfl⟩ := hx.slv;obtain ⟨a2, rfl⟩ := hy.slv;obtain ⟨a3, rfl⟩ := hz.slv;have hs2 : _ = [str x.1] := hs;subst hs2;exact ⟨(x.1, (a1, a2), a3), rfl, rfl, hx, hy, hz⟩) h
 exact ⟨rs, h1, h2, h3⟩
theorem EntL.sl (h : EntL w F raw l) (hv : Sl entF.enc w F v raw) : Sl entE w F v l := by
 refine Sl.ofRaws rfl h.1 (fun i h1 h2 => ?_) hv;obtain ⟨e, hx, hy, hz⟩ := h.2 i h1 h2;refine ⟨[str raw[i].1], [slv raw[i].2.1.1, slv raw[i].2.1.2, slv raw[i].2.2], rfl, by rw [e]; rfl, [slv raw[i].2.1.1, slv raw[i].2.1.2], [slv raw[i].2.2], rfl, ⟨[slv raw[i].2.1.1], [slv raw[i].2.1.2], rfl, ⟨_, rfl, hx⟩, _, rfl, hy⟩, _, rfl, hz⟩
end
end Go.Pn
end
section
namespace Go.Pn.Bt
open Go Go.Pn Go.Pn.Jn
theorem smallE_of {x : Ent} (h1 : x.1.length ≤ 100) (h2 : Cn.small x.2 = true) : smallE x = true := by unfold smallE; rw [decide_eq_true h1, h2]; rfl
theorem smallE_no1 {x : Ent} (h1 : ¬ x.1.length ≤ 100) : smallE x = false := by unfold smallE; rw [decide_eq_false h1]; rfl
theorem smallE_no2 {x : Ent} (h2 : Cn.small x.2 = false) : smallE x = false := by unfold smallE; rw [h2, Bool.and_false]
theorem small_no {l : List Ent} {most : Int} {i : Nat} (hi : i < l.length) (h : smallE l[i] = false) : small l most = false := by unfold small; rw [Cn.all_no hi h, Bool.and_false]
theorem small_end {l : List Ent} {most : Int} {n : Nat} (hn : n = l.length) (h : (n : Int) ≤ most → ∀ i, ∀ hi : i < l.length, smallE l[i] = true) (_ : True) : decide ((n : Int) ≤ most) = small l most := by
 subst hn;unfold small
 by_cases hm : (l.length : Int) ≤ most
 ·rw [Cn.all_yes (h hm), Bool.and_true]
 ·rw [decide_eq_false hm, Bool.false_and]
end Go.Pn.Bt
end
section
namespace Go.Pn
section
variable
 {d : Nat} {x y : Operand} {t t' ty : TypeId} {pos : String} {after : Array Edge}
end
theorem Outs.cellA3 {P : Program} {fn : Func} {n : Nat} {Post : Value → World → Prop} {f : Val} {w : World} {t u u2 s b : Nat} {ty ty' : TypeId} {cs : List Value} {v' v2 : Value} (hr : fn.results = #[.cell t ty, .tmp u, .tmp u2]) (hag : ∀ w, (isAgg ty).run P w = .ok true w) (hs : ∀ w, (sizeOf ty).run P w = .ok s w)
 (hv : ev n f (.tmp t) = .pointer (some ⟨b, 0, Option.none⟩)) (hv' : ev n f (.tmp u) = v') (hv2 : ev n f (.tmp u2) = v2) (ho : Own w b ty' cs) (hl : cs.length = s) (h : Post (.tuple #[.agg cs.toArray, v', v2]) w) : Outs P fn n Post f w := by
 refine ⟨_, ?_, h⟩
 simp [results, hr, -Array.getD_eq_getD_getElem?, (getD_Fr n f t).trans hv, (getD_Fr n f u).trans hv', (getD_Fr n f u2).trans hv2, asAddr, load_agg hag hs ho hl]
end Go.Pn
end
section
namespace Go.Pn.Bt
open Go Go.Pn Go.Pn.Jn
def end4L (n : BitVec 32) : List UInt8 := [UInt8.ofBitVec ((n / 16777216#32).setWidth 8), UInt8.ofBitVec ((n / 65536#32 % 256#32).setWidth 8), UInt8.ofBitVec ((n / 256#32 % 256#32).setWidth 8), UInt8.ofBitVec ((n % 256#32).setWidth 8)]
theorem end4L_eq (n : BitVec 32) : end4L n = sum4 n := by
 have e : ∀ x : BitVec 32, UInt8.ofBitVec (x.setWidth 8) = UInt8.ofNat (x.toNat % 256) := fun x => by
  apply UInt8.toNat_inj.1
  show (x.setWidth 8).toNat = _;rw [BitVec.toNat_setWidth, UInt8.toNat_ofNat']
  omega
 have hn := n.isLt;rw [sum4_nat];unfold end4L;rw [e, e, e, e];have d1 : (n / 16777216#32).toNat = n.toNat / 16777216 := by rw [BitVec.toNat_udiv]; rfl
 have d2 : (n / 65536#32 % 256#32).toNat = n.toNat / 65536 % 256 := by rw [BitVec.toNat_umod, BitVec.toNat_udiv]; rfl
 have d3 : (n / 256#32 % 256#32).toNat = n.toNat / 256 % 256 := by rw [BitVec.toNat_umod, BitVec.toNat_udiv]; rfl
 have d4 : (n % 256#32).toNat = n.toNat % 256 := by rw [BitVec.toNat_umod]; rfl
 rw [d1, d2, d3, d4];simp only [Nat.mod_mod]
theorem body_le {l : List Ent} {b : Nat} (h : (l.flatMap entB).length ≤ b) (hn : l.length ≤ 1000000) : (body l).length ≤ b + 10 := by
 rw [body_len];have := Cn.num_le l.length (by omega)
 omega
section
open Go.Pn.Cn
variable {p : List UInt8} {i : Nat} {q : BitVec 64}
theorem n0_yes (hk : i + 1 ≤ p.length) (h : num q.toNat = p.take (i + 1)) : SegN q p 0 (i + 1) := by
 have := num_yes (l := p) (k := 0) (i := i) (q := q) (by omega) (by rw [List.drop_zero]; exact h);rwa [Nat.zero_add] at this
theorem n0_no1 (hall : ∀ j, ∀ h : j < p.length, j < i → ¬ p[j].toNat < 128) (hi : i = 10 ∨ p.length ≤ i) : NumA p 0 :=
 num_no1 (l := p) (k := 0) (i := i) (fun j h h2 => by rw [List.getElem_drop]; simp only [Nat.zero_add]; exact hall j (by rw [List.length_drop] at h; omega) h2) (by rw [List.length_drop]; omega)
theorem n0_no2 (hall : ∀ j, ∀ h : j < p.length, j < i → ¬ p[j].toNat < 128) (hi : i < p.length) (h : p[i].toNat < 128) (hne : num (BitVec.ofNat 64 (valN (p.take (i + 1)))).toNat ≠ p.take (i + 1)) : NumA p 0 :=
 num_no2 (l := p) (k := 0) (i := i) (fun j h h2 => by rw [List.getElem_drop]; simp only [Nat.zero_add]; exact hall j (by rw [List.length_drop] at h; omega) h2) (by rw [List.length_drop]; omega) (by rw [List.getElem_drop]; simp only [Nat.zero_add]; exact h) (by rw [List.drop_zero]; exact hne)
variable {es : List Ent} {k k0 k1 : Nat} {n : BitVec 64} {x : List Ent}
theorem rno_res (h : No (manyQ refQ) (manyB entB) p 0) : ReadRes p x false := .inr ⟨rfl, fun l' hq => no_whole h l' hq⟩
theorem rres_num (h : NumA p 0) (hl : p.length < 2 ^ 64) : ReadRes p x false := rno_res (no_many1 h entB_ge hl)
theorem rres_ent (hn : SegN n p 0 k0) (hs : Seg (es.flatMap entB) p k0 k) (hq : manyQ refQ es) (hj : es.length < n.toNat) (h : No refQ entB p k) : ReadRes p x false := rno_res (no_many2 hn pre_refQ hq hs hj h)
theorem no_refQ1 (h : No (fun _ : List UInt8 => True) strB p k) : No refQ entB p k := No.fst (Q' := cartR) (g := Cn.bytes) h
theorem no_refQ2 {s : List UInt8} (hs : Seg (strB s) p k k1) (h : No cartR Cn.bytes p k1) : No refQ entB p k := No.snd (f := strB) (Q' := cartR) (g := Cn.bytes) hs pre_str trivial h
theorem rres_end (hn : SegN n p 0 k0) (hs : Seg (es.flatMap entB) p k0 k) (hq : manyQ refQ es) (hj : es.length = n.toNat) : ReadRes p es (decide (((p.drop k).length : Int) = 0)) := by
 have hw : Seg (manyB entB es) p 0 k := seg_many hn hs hj;have hle := hw.2.2
 by_cases hk : k = p.length
 ·rw [decide_eq_true (by rw [List.length_drop]; omega)]
  exact .inl ⟨rfl, hq, seg_whole hw hk⟩
 ·rw [decide_eq_false (by rw [List.length_drop]; omega)]
  refine .inr ⟨rfl, fun l' hl' e => hk ?_⟩;have e2 : manyB entB es ++ p.drop k = manyB entB l' ++ [] := by rw [← seg_end hw, List.append_nil]; exact e
  obtain ⟨_, q⟩ := pre_list pre_refQ es l' _ [] hq hl' e2;have := congrArg List.length q;rw [List.length_drop, List.length_nil] at this
  omega
theorem numA_drop (h : NumA (p.drop k) 0) : NumA p k := no_drop h
theorem no_strA (h : NumA p k) (hl : p.length < 2 ^ 64) : No (fun _ : List UInt8 => True) strB p k := fun s r _ e => h (BitVec.ofNat 64 s.length) (s ++ r) trivial (by
 have hs : s.length < 2 ^ 64 := by
  have := congrArg List.length e;unfold strB at this;simp only [List.length_append, List.length_drop] at this
  omega
 show p.drop k = num (BitVec.ofNat 64 s.length).toNat ++ (s ++ r);rw [BitVec.toNat_ofNat, Nat.mod_eq_of_lt hs, e];unfold strB;rw [List.append_assoc])
theorem no_strB {n : BitVec 64} (hn : SegN n p k k1) (h : p.length - k1 < n.toNat) : No (fun _ : List UInt8 => True) strB p k := fun s r _ e => by
 have := no_str (m := (s.length : Int)) hn (.inr h) s r (Int.le_refl _);exact this e
end
end Go.Pn.Bt
end
section
namespace Go.Pn
section
variable {td ti tm te : TypeId} {w w' : World} {F F' M G G' : Nat → Prop} {r : (Raw × Raw) × Raw} {c : CartT}
theorem CartF.stn {K : Nat} (h : CartF td ti tm w F r c) (hn : ∀ x ∈ c.2, x.1.length ≤ K) : ∃ ps, Stn td ti tm w F r.1.1 r.1.2 r.2 ps K := by
 obtain ⟨a1, a2, a3, ps, e1, e2, e3, hs⟩ := Stn.of h.1 h.2.1 h.2.2 hn;rw [slv_inj e1, slv_inj e2, slv_inj e3];exact ⟨ps, hs⟩
theorem CartF.len (h : CartF td ti tm w F r c) : r.2.2.1 = c.2.length := by
 obtain ⟨raw, h1, h2⟩ := h.2.2;rw [h1.len, h2.1]
def RestE (td ti tm : TypeId) (w : World) (G : Nat → Prop) (b : Nat → Nat) (i : Nat) (raw : List EntR) (l : List EntT) : Prop :=
 ∀ j, ∀ h : j < raw.length, ∀ h' : j < l.length, i ≤ j → CartF td ti tm w (fun q => G q ∧ b j ≤ q ∧ q < b (j + 1)) raw[j].2 l[j].2
variable {raw : List EntR} {l : List EntT} {b : Nat → Nat} {i : Nat}
theorem RestE.keepM (h : RestE td ti tm w G b i raw l) (e : Ext M w w') (hM : ∀ k, (G k ∧ ∃ j, j < l.length ∧ i ≤ j ∧ b j ≤ k ∧ k < b (j + 1)) → ¬ M k) : RestE td ti tm w' G b i raw l := fun j h1 h2 h3 => (h j h1 h2 h3).keepM e fun k hk => hM k ⟨hk.1, j, h2, h3, hk.2⟩
theorem RestE.next (h : RestE td ti tm w G b i raw l) : RestE td ti tm w G b (i + 1) raw l := fun j h1 h2 h3 => h j h1 h2 (by omega)
end
end Go.Pn
end
section
namespace Go.Pn
section
variable
 {d : Nat} {x : Operand} {t tr e : TypeId} {pos : String} {after : Array Edge}
end
theorem Clip.ptr {u v : Value} {g n cap : Nat} (h : Clip u v) (hu : u = .slice (some ⟨g, 0, none⟩) n cap) : ∃ cap2, v = .slice (some ⟨g, 0, none⟩) n cap2 := by
 rcases h with rfl | ⟨g', n', cap', h1, h2⟩
 ·exact ⟨cap, hu⟩
 ·rw [h1] at hu
  cases hu;exact ⟨n, h2⟩
end Go.Pn
end
