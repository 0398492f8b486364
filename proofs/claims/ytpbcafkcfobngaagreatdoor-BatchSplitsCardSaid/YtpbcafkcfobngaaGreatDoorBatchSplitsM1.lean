/-
 Plain operations on numbers, Bools and strings, a rule each. No condition beyond what each rule asks.
-/
import Derived.WalkKit
import Derived.WalkSpells
import Derived.WalkLawsBesides
import Derived.Laws.AppendOwnNone
import Derived.Great.BuildSlice
import Derived.OrdersHeld
import Derived.Laws.Externs
import Derived.Laws.Cells
import Derived.Laws.Tables
import Derived.Laws.StructEq
import Derived.Deep.Draws
import Derived.Sort.Grow
import Derived.Lib.IndexMore
import Derived.Lib.TrimByte
import Derived.Shelf.SlSortCmp.WholeK
import Derived.Maps.RangeRun
import Derived.MapKept
import Derived.ProofKit
import Derived.OpenShut
import Derived.WideKeyArgs
import Derived.LaidLaws
import Derived.Deep.DeepHandedRow
import Derived.Deep.DeepWitnessRowRef
import Derived.Lib.LaidTab
import Derived.Deep.Slices
import Derived.Shelf.SlSortCmp.Whole1
import Derived.Lib.AppendZeros
import Derived.Lib.AppendStr
import Derived.Defers
import Derived.Recover
import Derived.RangeFuncLeaves
import Derived.RangeFuncSeq
import Derived.Lib.Bytealg
import Derived.Scope
import Derived.Test.YtpbcafkcfobngaaGreatDoorBatchM5
variable {P : Go.Program} {n : Nat} {ops rest : List Go.Oper} {N : Go.Pn.Val → Go.World → Prop} {Z : List Go.PanicEntry → Go.World → Prop} {f : Go.Pn.Val} {w : Go.World}
section
namespace Go.Pn
open Go.RowKit
section
variable
 {d : Nat} {x y : Operand} {t t' ty : TypeId} {pos : String} {after : Array Edge}
section
variable {a b : Int}
theorem tdiv_nn {a b : Int} (ha : 0 ≤ a) (_ : 0 < b) : a.tdiv b = a / b := Int.tdiv_eq_ediv_of_nonneg ha
theorem O.quoI (hx : ev n f x = i64 a) (hy : ev n f y = i64 b) (hb : 0 ≤ a ∧ 0 < b ∧ a ≤ 9223372036854775807) (h : O P n ops rest N Z (upd f d (i64 (a / b))) w) :
 O P n ops (ZO d (.binOp .quo t x y t') ty pos after :: rest) N Z f w :=
 O.val rfl rfl (by
  have h1 : b ≠ 0 := by omega
  have h2 : InI (a / b) := by
   have e1 := Int.ediv_nonneg hb.1 (Int.le_of_lt hb.2.1)
   have e2 := Int.ediv_le_self b hb.1
   unfold InI; omega
  simp [execOp, hx, hy, eqGuard, binOp, Op.intDiv, h1, tdiv_nn hb.1 hb.2.1, wrap_in h2]) h
theorem O.remI (hx : ev n f x = i64 a) (hy : ev n f y = i64 b) (hb : 0 ≤ a ∧ 0 < b) (h : O P n ops rest N Z (upd f d (i64 (a % b))) w) :
 O P n ops (ZO d (.binOp .rem t x y t') ty pos after :: rest) N Z f w :=
 O.val rfl rfl (by
  have h1 : b ≠ 0 := by omega
  simp [execOp, hx, hy, eqGuard, binOp, Op.intDiv, h1, Int.tmod_eq_emod_of_nonneg hb.1]) h
end
section
variable {k : IntKind} {m : Nat} {a b : BitVec m}
theorem O.quoU (hk : k.bits = m) (hs : k.signed = false) (hx : ev n f x = .int k (a.toNat : Int)) (hy : ev n f y = .int k (b.toNat : Int)) (hb : b.toNat ≠ 0) (h : O P n ops rest N Z (upd f d (.int k ((a / b).toNat : Int))) w) :
 O P n ops (ZO d (.binOp .quo t x y t') ty pos after :: rest) N Z f w :=
 O.val rfl rfl (by
  have h1 : ¬ ((b.toNat : Int) = 0) := by omega
  have e : k.wrap ((a.toNat : Int).tdiv (b.toNat : Int)) = ((a / b).toNat : Int) := by
   rw [Int.tdiv_eq_ediv_of_nonneg (by omega), ← Int.natCast_ediv, ← BitVec.toNat_udiv, wrap_u_nat hk hs]
  simp only [execOp, hx, hy, eqGuard, binOp, Op.intDiv, if_neg h1, e, ne_eq, not_true_eq_false, ↓reduceIte]
  rfl) h
theorem O.remU (hk : k.bits = m) (hs : k.signed = false) (hx : ev n f x = .int k (a.toNat : Int)) (hy : ev n f y = .int k (b.toNat : Int)) (hb : b.toNat ≠ 0) (h : O P n ops rest N Z (upd f d (.int k ((a % b).toNat : Int))) w) :
 O P n ops (ZO d (.binOp .rem t x y t') ty pos after :: rest) N Z f w :=
 O.val rfl rfl (by
  have h1 : ¬ ((b.toNat : Int) = 0) := by omega
  have e : ((a.toNat : Int).tmod (b.toNat : Int)) = ((a % b).toNat : Int) := by
   rw [Int.tmod_eq_emod_of_nonneg (by omega), ← Int.natCast_emod, ← BitVec.toNat_umod]
  have _ := hk
  have _ := hs
  simp only [execOp, hx, hy, eqGuard, binOp, Op.intDiv, if_neg h1, e, ne_eq, not_true_eq_false, ↓reduceIte]
  rfl) h
end
section
variable {k k' : IntKind} {m m' : Nat}
theorem O.convUI {a : BitVec m} (ht : P.underlying t = some (.int k)) (ht' : P.underlying t' = some (.int .i64)) (hx : ev n f x = .int k (a.toNat : Int)) (hm : m < 64)
 (h : O P n ops rest N Z (upd f d (i64 (a.toNat : Int))) w) :
 O P n ops (ZO d (.convert t t' x) ty pos after :: rest) N Z f w :=
 O.val rfl rfl (by
  have e : IntKind.i64.wrap (a.toNat : Int) = (a.toNat : Int) := by
   apply wrap_in
   have h1 := a.isLt
   have h2 : 2 ^ m ≤ 2 ^ 63 := Nat.pow_le_pow_right (by decide) (by omega)
   unfold InI; omega
  simp [execOp, hx, convert, run_underlying ht, run_underlying ht', Conv.intToInt, e]) h
end
section
variable {a b : List UInt8}
end
end
end Go.Pn
end
section
namespace Go.Pn
open Go.RowKit
section
variable {w w' : World} {b : Nat} {ty : TypeId} {cs : List Value}
end
section
variable {α : Type} {E : Enc α} {G : Flat α} {w w' : World} {F F' : Nat → Prop} {v : Value} {xs : List α} {b off : Nat} {ty : TypeId} {cs : List Value}
end
section
variable {α : Type} {G : Flat α} {w w' : World} {F : Nat → Prop} {v : Value} {xs ys : List α} {b B : Nat} {ty : TypeId} {cs : List Value}
end
section
variable
 {d : Nat} {x y : Operand} {t t' ty tr e : TypeId} {pos : String} {after : Array Edge} {α : Type} {E : Enc α} {G : Flat α} {F : Nat → Prop}
theorem O.mkF {i : TypeInfo} {z : Value} {zx : α} {m B : Nat} {k : IntKind} (ht : P.underlying t = some (.slice e)) (hi : P.info? e = some i) (hz : i.zero = some z) (hsz : i.size = G.sz) (hzx : z.cells.toList = G.e zx)
 (hx : ev n f x = .int k (m : Int)) (hy : ev n f y = .int k (m : Int)) (hb : i.bytes * m ≤ 281474976710656) (hm : m ≤ maxLen) (hB : B ≤ w.heap.size)
 (h : ∀ b w', w.heap.size ≤ b → Own0 w' b e ((List.replicate m zx).flatMap G.e) → OwnF G e B w' (.slice (some ⟨b, 0, none⟩) m m) (List.replicate m zx) → Le w w' → O P n ops rest N Z (upd f d (.slice (some ⟨b, 0, none⟩) m m)) w') :
 O P n ops (ZO d (.makeSlice t x y) tr pos after :: rest) N Z f w := by
 have hcells : (madeCells z.cells (m * G.sz)).toList = (List.replicate m zx).flatMap G.e := by
  apply List.ext_getElem?
  intro j
  have hzsz : z.cells.size = G.sz := by rw [← Array.length_toList, hzx, G.len]
  by_cases hj : j < m * G.sz
  ·have h1 : ((List.replicate m zx).flatMap G.e)[j]? = (G.e zx)[j % G.sz]? := by
    have hlt : j < ((List.replicate m zx).flatMap G.e).length := by rw [G.length]; simpa using hj
    obtain ⟨hi, hu⟩ := G.get (List.replicate m zx) (List.getElem?_eq_getElem hlt)
    rw [List.getElem?_eq_getElem hlt, ← hu]
    simp
   have hjm : j % G.sz < z.cells.size := by rw [hzsz]; exact Nat.mod_lt _ G.pos
   rw [h1, ← hzx]
   simp only [madeCells, Array.toList_map, Array.toList_range, List.getElem?_map, List.getElem?_range hj, Option.map_some, Array.getElem?_toList]
   rw [hzsz, getElem!_pos z.cells _ hjm, Array.getElem?_eq_getElem hjm]
  ·rw [List.getElem?_eq_none (by simp [size_madeCells]; omega), List.getElem?_eq_none (by rw [G.length]; simp; omega)]
 have hown : Own0 (w.alloc (.cells (madeCells z.cells (m * G.sz)) e)) w.heap.size e ((List.replicate m zx).flatMap G.e) := by
  have := Own0.new w e (madeCells z.cells (m * G.sz)).toList
  rwa [Array.toArray_toList, hcells] at this
 have hl : ((List.replicate m zx).flatMap G.e).length = m * G.sz := by rw [G.length]; simp
 refine O.val rfl rfl ?_ (h w.heap.size (w.alloc (.cells (madeCells z.cells (m * G.sz)) e)) (Nat.le_refl _) hown ?_ (Le.alloc _ _))
 ·have h3 : execOp (ev n f) (ZO d (.makeSlice t x y) tr pos after) = (do pure (.value (← Instr.makeSlice t (ev n f x) (ev n f y)))) := rfl
  have h63 : (m : Int) ≤ 9223372036854775807 := by have := hm; unfold maxLen at this; omega
  have hb' : (i.bytes : Int) * (m : Int) ≤ 281474976710656 := by
   have h : ((i.bytes * m : Nat) : Int) ≤ 281474976710656 := by omega
   rwa [Int.natCast_mul] at h
  rw [h3, Sem.run_bind, hx, hy, run_make (P := P) w t e i z ht hi hz k k m m (by omega) (Int.le_refl _) hb' h63]
  simp [hsz]
 ·refine ⟨⟨by simpa using G.length (List.replicate m zx), .inr ⟨w.heap.size, m, _, by simp, hB, hown, by simp, hm, ?_, ?_⟩⟩, by simpa using hm⟩
  ·simp [hl]
  ·show List.take ((List.replicate m zx).length * G.sz) _ = _
   rw [List.length_replicate, ← hl]
   exact List.take_length
end
def u64F : Flat (BitVec 64) := ⟨1, fun x => [.int .u64 (x.toNat : Int)], fun _ => rfl, by simp [Value.oneCell'], by decide⟩
end Go.Pn
end
section
namespace Go.Pn
section
variable {P : Program} {n : Nat} {ops rest l : List Oper} {N : Val → World → Prop} {Z : List PanicEntry → World → Prop} {f : Val} {w wB : World}
 {d : Nat} {x y : Operand} {t t' e tr ty : TypeId} {pos : String} {after : Array Edge} {α : Type} {E : Enc α} {F : Nat → Prop}
def u64E : Enc (BitVec 64) := Enc.flat 1 (fun x => [.int .u64 (x.toNat : Int)]) (fun _ => rfl) (by simp [Value.oneCell'])
theorem u64E.inv {v : Value} {x : BitVec 64} (h : u64E.rep w F [v] x) : v = .int .u64 (x.toNat : Int) := by
 have : [v] = [Value.int .u64 (x.toNat : Int)] := h
 simpa using this
theorem O.loadU64 {a : Addr} {z : BitVec 64} (hag : ∀ w, (isAgg t).run P w = .ok false w) (hx : ev n f x = .pointer (some a)) (ha : At u64E w F a z)
 (h : O P n ops rest N Z (upd f d (.int .u64 (z.toNat : Int))) w) :
 O P n ops (ZO d (.load t x) ty pos after :: rest) N Z f w :=
 O.load1 hag rfl hx ha fun v hv => by rw [u64E.inv hv]; exact h
variable {a b : BitVec 64}
end
end Go.Pn
end
section
namespace Go.Pn
open Go.RowKit
section
variable
 {d : Nat} {x : Operand} {t t' e tr : TypeId} {pos : String} {after : Array Edge} {α : Type} {E : Enc α} {F : Nat → Prop}
end
section
variable
 {d : Nat} {t e tr : TypeId} {pos : String} {after : Array Edge}
end
section
variable
 {d : Nat} {x : Operand} {t tr : TypeId} {pos : String} {after : Array Edge}
end
theorem OwnF.set {α : Type} {G : Flat α} {ty : TypeId} {B : Nat} {w : World} {g cap i : Nat} {xs : List α} {x : α} {u : Value} (hG : ∀ x, (G.e x).length = 1) (hu : G.e x = [u]) (h : OwnF G ty B w (.slice (some ⟨g, 0, none⟩) xs.length cap) xs) (hi : i < xs.length) :
 OwnF G ty B (w.setCell ⟨g, i, none⟩ u) (.slice (some ⟨g, 0, none⟩) xs.length cap) (xs.set i x) := by
 obtain ⟨h0, hm⟩ := h
 refine ⟨⟨by rw [G.length], ?_⟩, by rw [List.length_set]; exact hm⟩
 rcases h0.2 with ⟨h1, _⟩ | ⟨g', cap', cur, h1, hb, hg, hn, hc, hsz, ht⟩
 ·cases h1
 ·have e1 : g = g' := by cases h1; rfl
  have e2 : cap = cap' := by cases h1; rfl
  subst e1; subst e2
  have hset : ∀ (ys : List α) (j : Nat), j < ys.length → (ys.set j x).flatMap G.e = (ys.flatMap G.e).set j u := by
   intro ys
   induction ys with
   | nil => intro j hj; simp at hj
   | cons y ys ih =>
     intro j hj
     obtain ⟨c, hc⟩ : ∃ c, G.e y = [c] := by
      have := hG y
      match hq : G.e y, this with
      | [c], _ => exact ⟨c, rfl⟩
     cases j with
     | zero => simp [hu, hc]
     | succ j => simp [hc, ih j (by simpa using hj)]
  refine .inr ⟨g, cap, (cur.toList.set i u).toArray, by rw [List.length_set], hb, ?_, by rw [List.length_set]; exact hn, hc, by simpa using hsz, ?_⟩
  ·have h5 := heap_set w g i u (cs := cur.toList) (ty := ty) (fr := (0, 0)) (by simpa using hg)
   exact h5
  ·rw [List.length_set, hset xs i hi, ← ht]
   simp only [List.take_set]
section
variable
 {x y : Operand} {t tr : TypeId} {pos : String} {after : Array Edge}
theorem O.storeF {α : Type} {G : Flat α} {ty : TypeId} {B g cap i : Nat} {xs : List α} (z : α) {u : Value} (hsz : ∀ w, (sizeOf t).run P w = .ok 1 w) (hs : G.sz = 1) (hG : ∀ x, (G.e x).length = 1) (hu : G.e z = [u]) (hx : ev n f x = .pointer (some ⟨g, i, none⟩)) (hy : ev n f y = u)
 (ho : OwnF G ty B w (.slice (some ⟨g, 0, none⟩) xs.length cap) xs) (hi : i < xs.length)
 (h : ∀ w', OwnF G ty B w' (.slice (some ⟨g, 0, none⟩) xs.length cap) (xs.set i z) → Ext (fun k => k = g) w w' → w'.heap.size = w.heap.size → O P n ops rest N Z f w') :
 O P n ops ({ dst := .none, op := .store t x y, type := tr, pos := pos, after := after, guard := .none } :: rest) N Z f w := by
 have h1 : u.oneCell' = true := G.one z u (by rw [hu]; simp)
 obtain ⟨g', cap', cs, hv, hown, hcs, hn, _, hc3, _⟩ := ho.block (by omega)
 have e1 : g = g' := by cases hv; rfl
 have e2 : cap = cap' := by cases hv; rfl
 subst e1; subst e2
 refine O.act rfl rfl ?_ (h (w.setCell ⟨g, i, none⟩ u) (ho.set hG hu hi) (Ext.set w ⟨g, i, none⟩ u) (by simp))
 have h3 : execOp (ev n f) { dst := .none, op := .store t x y, type := tr, pos := pos, after := after, guard := .none } = (do Instr.storeAt t (ev n f x) (ev n f y); pure .skip) := rfl
 rw [h3, Sem.run_bind, hx, hy]
 have hcells : u.cells = #[u] := by cases u <;> first | rfl | simp [Value.oneCell'] at h1
 have hlt : i < cs.length := by rw [hs, Nat.mul_one] at hc3; omega
 have hc := hown.cell (i := i) (v := cs[i]) (by simp)
 have hf := hown.free hlt
 have h4 : (Instr.storeAt t (.pointer (some ⟨g, i, none⟩)) u).run P w = .ok () (w.setCell ⟨g, i, none⟩ u) := by
  simp [Instr.storeAt, Instr.sureAddr, storeVar, hsz, hcells, storeCells, Addr.add, run_store P w ⟨g, i, none⟩ u .plain h1, hc, hf]
 rw [h4]
 rfl
end
section
variable
 {d : Nat} {x y : Operand} {t t' tr : TypeId} {pos : String} {after : Array Edge} {α : Type} {G : Flat α} {F : Nat → Prop}
end
section
variable
 {x y : Operand} {t ty tr : TypeId} {pos : String} {after : Array Edge}
end
end Go.Pn
end
section
namespace Go.Pn
open Go.RowKit
section
variable {α : Type} {G : Flat α} {w w' : World} {F : Nat → Prop} {v v' y : Value} {xs ys : List α} {B : Nat} {ty : TypeId}
end
section
variable
 {d : Nat} {x y : Operand} {t t' ty tr e : TypeId} {pos : String} {after : Array Edge} {α : Type} {G : Flat α} {F : Nat → Prop}
end
theorem Items.nil {w : World} {F : Nat → Prop} : Items w F [] [] := ⟨rfl, fun i h => by simp at h⟩
theorem Items.snoc {w : World} {F : Nat → Prop} {raw : List (List UInt8 × (Option Addr × Nat × Nat))} {xs : List ItemT} {a : List UInt8 × (Option Addr × Nat × Nat)} {x : ItemT} (h : Items w F raw xs) (hn : a.1 = x.1) (hm : Sl markF.enc w F (slv a.2) x.2) : Items w F (raw ++ [a]) (xs ++ [x]) := by
 refine ⟨by simp [h.1], fun i h1 h2 => ?_⟩
 have hl := h.1
 simp only [List.length_append, List.length_cons, List.length_nil] at h1
 by_cases hi : i < raw.length
 ·rw [List.getElem_append_left hi, List.getElem_append_left (by omega)]
  exact h.2 i hi (by omega)
 ·have e1 : i = raw.length := by omega
  subst e1
  rw [List.getElem_append_right (by omega), List.getElem_append_right (by omega)]
  simp only [Nat.sub_self, hl, List.getElem_cons_zero]
  exact ⟨hn, hm⟩
section
variable
 {d : Nat} {x : Operand} {t tr : TypeId} {pos : String} {after : Array Edge}
theorem O.loadMarks {F : Nat → Prop} {a : Addr} {z : ItemT} (hag : ∀ w, (isAgg t).run P w = .ok false w) (hx : ev n f x = .pointer (some (a.add 1))) (ha : At itemE w F a z)
 (h : ∀ v, Sl markF.enc w F v z.2 → O P n ops rest N Z (upd f d v) w) : O P n ops (ZO d (.load t x) tr pos after :: rest) N Z f w :=
 O.loadAtC hag (by decide) hx ha fun cs u hr hu => by
  obtain ⟨v, rfl, hm⟩ := hr
  cases hu
  exact h _ hm
end
section
variable
 {d : Nat} {x y : Operand} {t t' tr : TypeId} {pos : String} {after : Array Edge}
end
section
variable
 {d : Nat} {x y : Operand} {t t' tr : TypeId} {pos : String} {after : Array Edge}
end
end Go.Pn
end
section
namespace Go.Pn.Cn
open Go Go.Pn
section
variable {α : Type} {p : α → Bool} {l : List α}
end
section
variable {α : Type} {r : α → α → Bool}
end
theorem num_step2 {m : BitVec 64} (h : ¬ m.toNat < 128) : num m.toNat = UInt8.ofBitVec ((128#64 + m % 128#64).setWidth 8) :: num (m / 128#64).toNat := by
 have e1 : (m / 128#64).toNat = m.toNat / 128 := by rw [BitVec.toNat_udiv]; rfl
 have e2 : UInt8.ofNat (128 + m.toNat % 128) = UInt8.ofBitVec ((128#64 + m % 128#64).setWidth 8) := by
  apply UInt8.toNat_inj.1
  have h1 : (UInt8.ofBitVec ((128#64 + m % 128#64).setWidth 8)).toNat = ((128#64 + m % 128#64).setWidth 8).toNat := rfl
  have h2 : (128#64 + m % 128#64).toNat = 128 + m.toNat % 128 := by
   rw [BitVec.toNat_add, BitVec.toNat_umod]
   simp
   omega
  rw [h1, UInt8.toNat_ofNat', BitVec.toNat_setWidth, h2]
 rw [num_ge h, e1, e2]
theorem smallI_yes {x : Item} (h : x.2.length ≤ 20) (k : x.1.length ≤ 100) : smallI x = true := by unfold smallI; rw [decide_eq_true h, decide_eq_true k]; rfl
theorem smallI_no {x : Item} (h : 20 < x.2.length ∨ 100 < x.1.length) : smallI x = false := by
 unfold smallI
 rcases h with h | h
 ·rw [decide_eq_false (by omega)]; rfl
 ·rw [decide_eq_false (p := x.1.length ≤ 100) (by omega), Bool.and_false]
theorem small_of {a : Cart} (h : a.2.length ≤ 20 → ∀ i, ∀ hi : i < a.2.length, smallI a.2[i] = true) : decide ((((a.1.1.length : Nat) : Int) ≤ 40 ∧ ((a.1.2.length : Nat) : Int) ≤ 40) ∧ ((a.2.length : Nat) : Int) ≤ 20) = small a := by
 unfold small
 by_cases hs : (a.1.1.length ≤ 40 ∧ a.1.2.length ≤ 40) ∧ a.2.length ≤ 20
 ·rw [decide_eq_true hs, all_yes (h hs.2), decide_eq_true (by omega)]
  rfl
 ·rw [decide_eq_false hs, decide_eq_false (by omega)]
  rfl
end Go.Pn.Cn
end
section
namespace Go.Pn
open Go.ChangeShapes Go.WideShapes Go.ChangeAt Go.RowKit
section
variable {H : Type} {enc : TypeId × Value → H} {P : Program} {W W' : World}
theorem kept_of_le (e : Le W W') (may : MemPlace → Prop) : W.keptBut W' may := by
 refine ⟨e.os, e.output, fun i hi => ?_⟩
 rw [e.block i hi not_false]
 cases h : W.heap[i]? with
 | none => rfl
 | some o => cases o <;> first | exact ⟨rfl, rfl, rfl, fun _ _ => rfl⟩ | exact .inr ⟨rfl, rfl⟩ | rfl
theorem frozen_of_le (e : Le W W') {a : Addr} (h : a.block < W.heap.size) : W'.frozen? a = W.frozen? a := by
 unfold World.frozen?
 rw [e.block _ h not_false]
theorem same_of_le (e : Le W W') {p : MemPlace} (h : p.block < W.heap.size) : W.sameAt W' p := by
 cases p with
 | cell b off => show W'.cell? _ = W.cell? _; unfold World.cell?; rw [e.block b h not_false]
 | map b => exact e.block b h not_false
theorem args_of_le (hl : laidOutB P = true) (e : Le W W') {sp : Nat → Bool} : ∀ {ts : List TypeId} {vs : List Value} {ds : List (DataW H)} {ps : List MemPlace},
 (ts.all fun t => P.readableRec t && decide (t < P.types.size)) = true → DataW.TrodAll enc P W 0 (fun _ => true) true ts vs ds ps → (∀ p ∈ ps, p.block < W.heap.size ∧ sp p.block = true) → DataW.TrodAll enc P W' 0 sp true ts vs ds ps
 | [], [], [], _, _, h, _ => h
 | [], [], _ :: _, _, _, h, _ => h.elim
 | [], _ :: _, [], _, _, h, _ => h.elim
 | [], _ :: _, _ :: _, _, _, h, _ => h.elim
 | _ :: _, [], [], _, _, h, _ => h.elim
 | _ :: _, [], _ :: _, _, _, h, _ => h.elim
 | _ :: _, _ :: _, [], _, _, h, _ => h.elim
 | _ :: _, _ :: _, _ :: _, _, ht, ⟨p, q, h1, h2, e1⟩, hs => by
   simp only [List.all_cons, Bool.and_eq_true, decide_eq_true_eq] at ht
   subst e1
   refine ⟨p, q, WideElems.Trod_stays hl ht.1.1 ht.1.2 h1 (fun x hx => same_of_le e (hs x (List.mem_append_left _ hx)).1) (fun x hx => (hs x (List.mem_append_left _ hx)).2), args_of_le hl e ?_ h2 (fun x hx => hs x (List.mem_append_right _ hx)), rfl⟩
   simpa using ht.2
theorem post_of_le {f : Func} {s : ChangeSpec} {fresh handsOn again : Bool} {args : Array Value} {ds gs : List (DataW H)} {before : List MemPlace} {tb : TypeId}
 (hl : laidOutB P = true) (hp : (f.params.toList.all fun t => P.readableRec t && decide (t < P.types.size)) = true) (hv : s.vars = []) (hr : f.resultTypes = #[tb]) (hb : P.underlying tb = some .bool)
 (hW : DataW.Whole enc P f.params.toList s.vars false W args.toList ds gs before) (e : Le W W')
 (hs : s.fn H (ds ++ gs) = { results := [.lit (.bool true)], args := ds }) : s.post enc P f false fresh handsOn again W args (.bool true) W' := by
 have hlt := hW.lt
 have hW0 := hW
 obtain ⟨p, q, hA, hV, rfl, hz, _⟩ := hW
 rw [hv] at hV
 obtain ⟨rfl, rfl⟩ := trodVars_none hV
 have hres : ∀ (b : Nat) (sp : Nat → Bool) (hd : Bool), DataW.TrodAll enc P W' b sp hd f.resultTypes.toList ((Value.bool true).resultList f.resultTypes.size) (s.fn H (ds ++ [])).results [] := by
  intro b sp hd
  rw [hs, hr]
  exact trodAll_cons_mk (shut_bool hb _) trodAll_mk0
 have hargs : ∀ sp : Nat → Bool, (∀ x ∈ p, sp x.block = true) → DataW.TrodAll enc P W' 0 sp true f.params.toList args.toList (s.fn H (ds ++ [])).args p := by
  intro sp hsp
  rw [hs]
  exact args_of_le hl e hp hA fun x hx => ⟨hlt x (by simpa using hx), hsp x hx⟩
 have hvars : ∀ sp : Nat → Bool, DataW.TrodVars enc P W' sp s.vars (s.fn H (ds ++ [])).vars [] := by
  intro sp
  rw [hs, hv]
  rfl
 have hold : ∀ x ∈ p, (fun b => decide (b < W.heap.size)) x.block = true := fun x hx => by simpa using hlt x (by simpa using hx)
 refine ⟨ds, [], p ++ [], [], p, [], hW0, hres _ _ _, hargs _ hold, hvars _, World.keptBut_mono (fun x hx => ⟨hx, .inr (by simpa using hx)⟩) (kept_of_le e _), fun _ => ?_⟩
 refine ⟨ok_one hr rfl (okWide_bool_mk hb _), _, _, ([] ++ p) ++ [], ⟨[] ++ p, [], trodAll_append (hargs _ (fun _ _ => rfl)) (hres _ _ _), hvars _, rfl, ?_, ?_⟩, ?_⟩
 ·intro b off hx
  have hx2 : MemPlace.cell b off ∈ p := by simpa using hx
  rw [frozen_of_le e (hlt _ (by simpa using hx2))]
  exact hz b off (by simpa using hx2)
 ·intro ha; cases ha
 ·intro x hx _
  simpa using hx
theorem sl_bytes {t e : TypeId} {base : Nat} {v : Value} {d : DataW H} {p : List MemPlace} (ht : P.underlying t = some (.slice e)) (he : P.underlying e = some (.int .u8)) (hc : P.cellsOf e = 1)
 (hval : Value.okWide P W .any base t v) (h : DataW.Trod enc P W 0 (fun _ => true) true t v d p) : ∃ l : List UInt8, Sl byteE W (fun k => k < W.heap.size) v l := by
 obtain ⟨a1, len1, cap1, rfl⟩ := okWide_slice ht hval
 obtain ⟨fuel, hf⟩ := h
 rcases open_ints ht he hc hf with ⟨hcs, _⟩ | ⟨a, len, cap, zs, hcs, _, hl, hm, hz, _, hcell, hw⟩
 ·simp [Value.cells] at hcs
  obtain ⟨rfl, rfl, rfl⟩ := hcs
  exact ⟨[], Sl.nil _ _ _⟩
 ·simp [Value.cells] at hcs
  obtain ⟨rfl, rfl, rfl⟩ := hcs
  simp only [Value.okWide, ht, Cell.okWide, Cell.ok] at hval
  obtain ⟨_, _, _, hsp, row, cells, hsh, _⟩ := hval
  obtain ⟨b, off, spot⟩ := a
  simp only at hsp
  subst hsp
  simp only [if_true] at hz
  have hblk : ∃ cur ty fr, W.heap[b]? = some (.cells cur ty fr) := by
   unfold World.shape? at hsh
   split at hsh
   ·rename_i c el fr hh; exact ⟨c, el, fr, hh⟩
   ·cases hsh
  obtain ⟨cur, ty, fr, hb⟩ := hblk
  have hcur : ∀ i, i < zs.length → cur[off + i]? = some (.int .u8 (zs.getD i 0)) := by
   intro i hi
   have := hcell i hi
   rw [Addr.add_none] at this
   unfold World.cell? at this
   simpa [hb] using this
  refine ⟨(zs.take len1).map fun z => UInt8.ofNat z.toNat, ?_⟩
  have hlen : ((zs.take len1).map fun z => UInt8.ofNat z.toNat).length = len1 := by simp; omega
  refine ⟨by omega, .inr ⟨b, off, cap1, cur, ty, fr, by rw [hlen], lt_of_some hb, hb, by omega, hm, ?_, ?_⟩⟩
  ·intro h0
   have h1 := hcur (cap1 - 1) (by omega)
   have h2 : off + (cap1 - 1) < cur.size := by
    rcases Nat.lt_or_ge (off + (cap1 - 1)) cur.size with h | h
    ·exact h
    ·rw [Array.getElem?_eq_none h] at h1; cases h1
   show off + cap1 * 1 ≤ _
   omega
  ·intro i hi
   have hi2 : i < len1 := by omega
   have h1 := hcur i (by omega)
   have h3 := hw (zs.getD i 0) (by rw [List.getD_eq_getElem?_getD, List.getElem?_eq_getElem (by omega)]; exact List.getElem_mem _)
   have h4 : (0 : Int) ≤ zs.getD i 0 ∧ zs.getD i 0 < 256 := by
    simp only [Lit.wf, Bool.and_eq_true, decide_eq_true_eq] at h3
    have e1 : IntKind.u8.min = 0 := rfl
    have e2 : IntKind.u8.max = 255 := rfl
    omega
   show (cur.toList.drop (off + i * 1)).take 1 = [Value.int .u8 _]
   have hlt : off + i < cur.toList.length := by
    rcases Nat.lt_or_ge (off + i) cur.size with h | h
    ·simpa using h
    ·rw [Array.getElem?_eq_none h] at h1; cases h1
   rw [Nat.mul_one, List.drop_eq_getElem_cons hlt, List.take_succ_cons, List.take_zero]
   have h5 : cur.toList[off + i] = .int .u8 (zs.getD i 0) := by
    have : cur.toList[off + i]? = some (.int .u8 (zs.getD i 0)) := by simpa using h1
    rw [List.getElem?_eq_getElem hlt] at this
    exact Option.some.inj this
   rw [h5]
   congr 2
   have h6 : zs.getD i 0 = zs[i]'(by omega) := by simp [List.getD_eq_getElem?_getD, show i < zs.length from by omega]
   simp only [List.getElem_map, List.getElem_take]
   rw [← h6]
   generalize zs.getD i 0 = z at h4 ⊢
   obtain ⟨n, rfl⟩ := Int.eq_ofNat_of_zero_le h4.1
   have h7 : n < 256 := by omega
   simp
   omega
theorem u_of {t : TypeId} {base m : Nat} {k : IntKind} {v : Value} {d : DataW H} {p : List MemPlace} (ht : P.underlying t = some (.int k)) (hk : k.min = 0) (hk2 : k.max = 2 ^ m - 1) (hval : Value.okWide P W .any base t v) (h : DataW.Trod enc P W 0 (fun _ => true) true t v d p) :
 ∃ x : BitVec m, v = .int k (x.toNat : Int) := by
 obtain ⟨z, rfl, _, _, hw⟩ := open_int ht hval h
 simp only [Lit.wf, Bool.and_eq_true, decide_eq_true_eq] at hw
 refine ⟨BitVec.ofInt m z, ?_⟩
 congr 1
 rw [BitVec.toNat_ofInt]
 have h1 : (2 ^ m : Int) = ((2 ^ m : Nat) : Int) := by norm_cast
 have hp : 0 < 2 ^ m := Nat.pow_pos (by decide)
 rw [Int.emod_eq_of_lt (by omega) (by omega)]
 omega
end
theorem calls_of {P : Program} {k : FuncId} {args : Array Value} {W : World} {Q : Value → World → Prop} (h : Ret P k args W fun v w' => v = .bool true ∧ Le W w') (hq : ∀ w', Le W w' → Q (.bool true) w') :
 Calls P k args W fun e W' => ∃ v, e = .returned v ∧ Q v W' := by
 refine Calls.mono h fun e W' hh => ?_
 cases e with
 | returned v => obtain ⟨rfl, e⟩ := hh; exact ⟨_, rfl, hq _ e⟩
 | _ => exact hh.elim
end Go.Pn
end
section
namespace Go.Pn
open Go.RowKit
section
variable
 {d : Nat} {x y : Operand} {t t' tn ty tr e : TypeId} {pos : String} {after : Array Edge} {α : Type} {G : Flat α} {F : Nat → Prop}
end
open Go.Lib in
theorem strCells_flat (l : List UInt8) : strCells ⟨l.toArray⟩ = l.flatMap byteF.e := by
 rw [byteF_map]
 simp [strCells]
open Go.Lib
section
variable
 {d : Nat} {x y : Operand} {t t' tn ty tr e : TypeId} {pos : String} {after : Array Edge} {α : Type} {F : Nat → Prop}
theorem O.appS {i : TypeInfo} {v : Value} {xs ys : List UInt8} {B : Nat} (ht : P.underlying t = some (.slice e)) (hu : P.underlying t' = some .string) (hi : P.info? e = some i) (hz : i.zero = some (.int .u8 0)) (hsz : i.size = 1) (hby : i.bytes = 1)
 (hx : ev n f x = v) (hy : ev n f y = str ys) (hown : OwnF byteF e B w v xs) (hb : xs.length + ys.length ≤ 140737488355328) (hl : xs.length + ys.length ≤ maxLen) (hB : B ≤ w.heap.size)
 (h : ∀ v' w', OwnF byteF e B w' v' (xs ++ ys) → Ext (bk v) w w' → O P n ops rest N Z (upd f d v') w') :
 O P n ops (ZO d (.call { callee := .builtin .append, args := [x, y].toArray, argTypes := [t, t'].toArray }) tr pos after :: rest) N Z f w := by
 have hsz2 : ByteArray.size ⟨ys.toArray⟩ = ys.length := by simp [ByteArray.size]
 obtain ⟨v', w', hr, ho, hg, _⟩ := run_append_own_string (P := P) (w := w) B t t' tr e i ht hu hi hz hsz hby v xs.length _ hown.1 ⟨ys.toArray⟩ (by rw [hsz2]; exact hl) (by rw [hsz2]; exact hb) hB
 rw [strCells_flat, hsz2] at ho
 refine O.val rfl rfl ?_ (h v' w' ⟨?_, by simpa using hl⟩ ((ext_of_grown hg).mono fun k _ hk => ?_))
 ·have h3 : (execOp (ev n f) (ZO d (.call { callee := .builtin .append, args := [x, y].toArray, argTypes := [t, t'].toArray }) tr pos after)).run P w = ((Builtin.append_ #[t, t'] tr #[ev n f x, ev n f y]).run P w).andThen (fun v w => .ok (.value v) w) := by
   simp [execOp, resolve, invoke, builtin]
  have e1 : str ys = .string ⟨ys.toArray⟩ := rfl
  rw [h3, hx, hy, e1, hr]
  rfl
 ·rw [List.flatMap_append, List.length_append]; exact ho
 ·cases v with
  | slice a n c =>
    cases a with
    | none => simp [Value.ownBlock] at hk
    | some a => simp only [Value.ownBlock, Option.some.injEq] at hk; exact hk.symm
  | _ => simp [Value.ownBlock] at hk
end
section
variable
 {d : Nat} {x y : Operand} {t tr e : TypeId} {pos : String} {after : Array Edge} {α : Type} {E : Enc α} {F : Nat → Prop}
end
theorem OwnF.lit1 {α : Type} {G : Flat α} {ty : TypeId} {B : Nat} {w : World} {b : Nat} {u : Value} {x : α} (hs : G.sz = 1) (h : Own0 w b ty [u]) (hu : G.e x = [u]) (hB : B ≤ b) : OwnF G ty B w (.slice (some ⟨b, 0, none⟩) 1 1) [x] := by
 refine ⟨⟨by rw [G.length], .inr ⟨b, 1, #[u], rfl, hB, h, by simp, by unfold maxLen; omega, by simp [hs], ?_⟩⟩, by unfold maxLen; simp⟩
 simp [hs, hu]
end Go.Pn
end
section
namespace Go.Pn
open Go.RowKit
section
variable {α : Type} {G : Flat α} {ty : TypeId} {w w' : World} {v : Value} {g B : Nat} {xs ys : List α}
theorem OG.lst (h : OG G ty w v g xs) (e : xs = ys) : OG G ty w v g ys := e ▸ h
theorem OG.of (h : OwnF G ty B w v xs) (hne : 0 < xs.length) : ∃ g, OG G ty w v g xs ∧ B ≤ g := by
 obtain ⟨g, cap, cs, rfl, _, _, _, _, _, hB⟩ := h.block hne
 exact ⟨g, ⟨h.low (Nat.zero_le _), fun k hk => hk, (h.bk_ge g rfl).2⟩, hB⟩
theorem OG.sl (h : OG G ty w v g xs) : Sl G.enc w (fun k => k = g) v xs := h.1.sl.weak h.2.1
theorem OG.own (h : OG G ty w v g xs) (hB : B ≤ g) : OwnF G ty B w v xs := by
 refine ⟨⟨h.1.1.1, ?_⟩, h.1.2⟩
 rcases h.1.1.2 with hn | ⟨g', cap, cur, rfl, _, rest⟩
 ·exact .inl hn
 ·have e : g' = g := h.2.1 g' rfl
  exact .inr ⟨g', cap, cur, rfl, by omega, rest⟩
end
section
variable
 {d : Nat} {x y : Operand} {t t' ty tr e : TypeId} {pos : String} {after : Array Edge} {α : Type} {G : Flat α} {F : Nat → Prop}
end
end Go.Pn
end
section
namespace Go.Pn.Cn
open Go Go.Pn
end Go.Pn.Cn
namespace Go.Pn.Cn
theorem flat_bound {α : Type} {f : α → List UInt8} {b n : Nat} {l : List α} (h : ∀ x ∈ l, (f x).length ≤ b) (hn : l.length ≤ n) : (l.flatMap f).length ≤ b * n := Nat.le_trans (flatMap_le h) (Nat.mul_le_mul_left b hn)
theorem bytes_small {a : Cart} (h : small a = true) : (bytes a).length ≤ 25000 := by
 obtain ⟨h1, h2, h3, h4⟩ := small_iff h
 have g1 := flat_bound (f := dotB) (b := 20) (n := 40) (l := a.1.1) (fun x _ => dotB_le x) h1
 have g2 := flat_bound (f := dotB) (b := 20) (n := 40) (l := a.1.2) (fun x _ => dotB_le x) h2
 have g3 : ∀ x ∈ a.2, (itemB x).length ≤ 1000 := by
  intro x hx
  obtain ⟨i1, i2⟩ := h4 x hx
  have g := flat_bound (f := markB) (b := 40) (n := 20) (l := x.2) (fun m _ => markB_le m) i1
  have n1 := num_le x.1.length (by omega)
  have n2 := num_le x.2.length (by omega)
  unfold itemB strB
  simp only [List.length_append]
  omega
 have g4 := flat_bound (f := itemB) (b := 1000) (n := 20) (l := a.2) g3 h3
 have n1 := num_le a.1.1.length (by omega)
 have n2 := num_le a.1.2.length (by omega)
 have n3 := num_le a.2.length (by omega)
 unfold bytes ctxB dotsB itemsB
 simp only [List.length_append]
 omega
end Go.Pn.Cn
end
section
namespace Go.Pn.Bt
open Go Go.Pn Go.Pn.Jn
theorem rises_yes {l : List Ent} (h2 : ∀ i, ∀ h : i + 1 < l.length, Op.bytesLess l[i].1 l[i + 1].1 = true) : rises l = true := Cn.adj_yes h2
theorem rises_no {l : List Ent} {i j : Nat} (hi : i < l.length) (hj : j < l.length) (hij : i = j + 1) (h : Op.bytesLess l[j].1 l[i].1 = false) : rises l = false := Cn.adj_no hi hj hij h
theorem ordered_of {l : List Ent} (h1 : ∀ i, ∀ h : i < l.length, okE l[i] = true) : ordered l = rises l := by
 unfold ordered
 rw [Cn.all_yes h1]
 rfl
theorem small_big {x : Cart} (h : Cn.small x = true) : Cn.big x := by
 obtain ⟨h1, h2, h3, h4⟩ := Cn.small_iff h
 exact ⟨by omega, by omega, by omega, fun y hy => by have := h4 y hy; omega⟩
theorem small_Big {l : List Ent} {most : Int} (h : small l most = true) : Big l := fun x hx => by
 have := (small_iff h).2 x hx
 exact ⟨by omega, small_big this.2⟩
theorem ent_small {x : Ent} (h1 : x.1.length ≤ 100) (h2 : Cn.small x.2 = true) : (entB x).length ≤ 25110 := by
 unfold entB Cn.strB
 have := Cn.bytes_small h2
 have := Cn.num_le x.1.length (by omega)
 simp only [List.length_append]
 omega
end Go.Pn.Bt
end
section
namespace Go.Pn
section
variable {w w' : World} {F F' M : Nat → Prop} {r : (Raw × Raw) × Raw} {c : CartT}
end
section
variable {w w' : World} {F F' M : Nat → Prop} {raw : List EntR} {l : List EntT} {v : Value}
theorem Sl.ents (h : Sl entE w F v l) : ∃ raw, Sl entF.enc w F v raw ∧ EntL w F raw l := by
 obtain ⟨rs, h1, h2, h3⟩ := Sl.raws (G := entF) (R := fun r x => r.1 = x.1 ∧ CartAt w F r.2 x.2) rfl (fun cs x hr => by
  obtain ⟨_, _, rfl, hs, _, _, rfl, ⟨_, _, rfl, ⟨va, rfl, hx⟩, vb, rfl, hy⟩, vc, rfl, hz⟩ := hr
  obtain ⟨a1, rfl⟩ := hx.slv
  obtain ⟨a2, rfl⟩ := hy.slv
  obtain ⟨a3, rfl⟩ := hz.slv
  have hs2 : _ = [str x.1] := hs
  subst hs2
  exact ⟨(x.1, (a1, a2), a3), rfl, rfl, hx, hy, hz⟩) h
 exact ⟨rs, h1, h2, h3⟩
theorem EntL.sl (h : EntL w F raw l) (hv : Sl entF.enc w F v raw) : Sl entE w F v l := by
 refine Sl.ofRaws rfl h.1 (fun i h1 h2 => ?_) hv
 obtain ⟨e, hx, hy, hz⟩ := h.2 i h1 h2
 refine ⟨[str raw[i].1], [slv raw[i].2.1.1, slv raw[i].2.1.2, slv raw[i].2.2], rfl, by rw [e]; rfl, [slv raw[i].2.1.1, slv raw[i].2.1.2], [slv raw[i].2.2], rfl, ⟨[slv raw[i].2.1.1], [slv raw[i].2.1.2], rfl, ⟨_, rfl, hx⟩, _, rfl, hy⟩, _, rfl, hz⟩
end
end Go.Pn
end
section
namespace Go.Pn
section
variable {td ti tm te : TypeId} {w w' : World} {F F' M G G' : Nat → Prop} {r : (Raw × Raw) × Raw} {c : CartT}
variable {raw : List EntR} {l : List EntT} {lo hi : Nat} {v : Value}
def SlS (te : TypeId) (w : World) (F F2 : Nat → Prop) (v : Value) (l : List EntT) : Prop := ∃ raw, Fre entF te w F v raw ∧ EntL w F2 raw l
end
end Go.Pn
end
section
namespace Go.Pn.Bt
open Go Go.Pn Go.Pn.Jn
theorem smallE_of {x : Ent} (h1 : x.1.length ≤ 100) (h2 : Cn.small x.2 = true) : smallE x = true := by unfold smallE; rw [decide_eq_true h1, h2]; rfl
theorem smallE_no1 {x : Ent} (h1 : ¬ x.1.length ≤ 100) : smallE x = false := by unfold smallE; rw [decide_eq_false h1]; rfl
theorem smallE_no2 {x : Ent} (h2 : Cn.small x.2 = false) : smallE x = false := by unfold smallE; rw [h2, Bool.and_false]
theorem small_no {l : List Ent} {most : Int} {i : Nat} (hi : i < l.length) (h : smallE l[i] = false) : small l most = false := by unfold small; rw [Cn.all_no hi h, Bool.and_false]
theorem small_end {l : List Ent} {most : Int} {n : Nat} (hn : n = l.length) (h : (n : Int) ≤ most → ∀ i, ∀ hi : i < l.length, smallE l[i] = true) (_ : True) : decide ((n : Int) ≤ most) = small l most := by
 subst hn
 unfold small
 by_cases hm : (l.length : Int) ≤ most
 ·rw [Cn.all_yes (h hm), Bool.and_true]
 ·rw [decide_eq_false hm, Bool.false_and]
end Go.Pn.Bt
end
section
namespace Go.Pn
section
variable {α : Type} {E : Enc α} {w w' : World} {F F' M : Nat → Prop} {ro : List Raw} {xs : List (List α)} {v : Value}
theorem SlsL.set {a : Raw} {x : List α} {k : Nat} (h : SlsL E w F ro xs) (hm : Sl E w F (slv a) x) : SlsL E w F (ro.set k a) (xs.set k x) := by
 refine ⟨by rw [List.length_set, List.length_set]; exact h.1, fun i h1 h2 => ?_⟩
 rw [List.length_set] at h1 h2
 rw [List.getElem_set, List.getElem_set]
 split
 ·exact hm
 ·exact h.2 i h1 h2
theorem Sl.raws1 (h : Sl (sliE E) w F v xs) : ∃ ro, Sl slF.enc w F v ro ∧ SlsL E w F ro xs := by
 obtain ⟨rs, h1, h2, h3⟩ := Sl.raws (G := slF) (R := fun r x => Sl E w F (Go.Pn.slv r) x) rfl (fun cs x hr => by
  obtain ⟨u, rfl, hu⟩ := hr
  obtain ⟨a, rfl⟩ := hu.slv
  exact ⟨a, rfl, hu⟩) h
 exact ⟨rs, h1, h2, h3⟩
end
end Go.Pn
end
section
namespace Go.Pn.Bt
open Go Go.Pn Go.Pn.Jn
def end4L (n : BitVec 32) : List UInt8 := [UInt8.ofBitVec ((n / 16777216#32).setWidth 8), UInt8.ofBitVec ((n / 65536#32 % 256#32).setWidth 8), UInt8.ofBitVec ((n / 256#32 % 256#32).setWidth 8), UInt8.ofBitVec ((n % 256#32).setWidth 8)]
theorem end4L_eq (n : BitVec 32) : end4L n = sum4 n := by
 have e : ∀ x : BitVec 32, UInt8.ofBitVec (x.setWidth 8) = UInt8.ofNat (x.toNat % 256) := fun x => by
  apply UInt8.toNat_inj.1
  show (x.setWidth 8).toNat = _
  rw [BitVec.toNat_setWidth, UInt8.toNat_ofNat']
  omega
 have hn := n.isLt
 rw [sum4_nat]
 unfold end4L
 rw [e, e, e, e]
 have d1 : (n / 16777216#32).toNat = n.toNat / 16777216 := by rw [BitVec.toNat_udiv]; rfl
 have d2 : (n / 65536#32 % 256#32).toNat = n.toNat / 65536 % 256 := by rw [BitVec.toNat_umod, BitVec.toNat_udiv]; rfl
 have d3 : (n / 256#32 % 256#32).toNat = n.toNat / 256 % 256 := by rw [BitVec.toNat_umod, BitVec.toNat_udiv]; rfl
 have d4 : (n % 256#32).toNat = n.toNat % 256 := by rw [BitVec.toNat_umod]; rfl
 rw [d1, d2, d3, d4]
 simp only [Nat.mod_mod]
theorem body_le {l : List Ent} {b : Nat} (h : (l.flatMap entB).length ≤ b) (hn : l.length ≤ 1000000) : (body l).length ≤ b + 10 := by
 rw [body_len]
 have := Cn.num_le l.length (by omega)
 omega
section
open Go.Pn.Cn
variable {p : List UInt8} {i : Nat} {q : BitVec 64}
variable {es : List Ent} {k k0 k1 : Nat} {n : BitVec 64} {x : List Ent}
end
end Go.Pn.Bt
end
section
namespace Go.Pn.Bt
open Go Go.Pn Go.Pn.Jn
def Gs (l : List Ent) (k : Nat) (gs : List (List Ent)) : Prop := (k = 0 ∧ gs = []) ∨ ∃ done fr, fr < k ∧ gs = done ++ [(l.take k).drop fr] ∧ Done l done ((l.take k).drop fr) (l.drop k)
section
variable {l : List Ent} {k : Nat} {gs : List (List Ent)}
theorem Gs.start (l : List Ent) : Gs l 0 [] := .inl ⟨rfl, rfl⟩
theorem Gs.nil (h : Gs l k gs) (hk : k < l.length) (hn : gs.length = 0) : Gs l (k + 1) [[l[k]]] := by
 rcases h with ⟨rfl, rfl⟩ | ⟨done, fr, _, rfl, _⟩
 ·refine .inr ⟨[], 0, by omega, by rw [cur_new hk]; rfl, ?_⟩
  have := Done.nextYes (fr := 0) hk (Nat.le_refl _) (Done.start l) (.inl rfl)
  exact this
 ·simp at hn
theorem Gs.yes (h : Gs l k gs) (hk : k < l.length) (hn : 0 < gs.length) (hf : fits (gs[gs.length - 1] ++ [l[k]])) : Gs l (k + 1) (gs.set (gs.length - 1) (gs[gs.length - 1] ++ [l[k]])) := by
 rcases h with ⟨rfl, rfl⟩ | ⟨done, fr, h1, rfl, hd⟩
 ·simp at hn
 ·have e : (done ++ [(l.take k).drop fr])[(done ++ [(l.take k).drop fr]).length - 1]'(by omega) = (l.take k).drop fr := by simp
  rw [e] at hf ⊢
  rw [← cur_next hk (by omega)] at hf ⊢
  refine .inr ⟨done, fr, by omega, ?_, Done.nextYes hk (by omega) hd (.inr hf)⟩
  rw [List.length_append, List.length_singleton, Nat.add_sub_cancel, List.set_append_right _ _ (Nat.le_refl _), Nat.sub_self]
  rfl
theorem Gs.no (h : Gs l k gs) (hk : k < l.length) (hn : 0 < gs.length) (hf : ¬ fits (gs[gs.length - 1] ++ [l[k]])) : Gs l (k + 1) (gs ++ [[l[k]]]) := by
 rcases h with ⟨rfl, rfl⟩ | ⟨done, fr, h1, rfl, hd⟩
 ·simp at hn
 ·have e : (done ++ [(l.take k).drop fr])[(done ++ [(l.take k).drop fr]).length - 1]'(by omega) = (l.take k).drop fr := by simp
  rw [e] at hf
  rw [← cur_next hk (by omega)] at hf
  exact .inr ⟨done ++ [(l.take k).drop fr], k, by omega, by rw [cur_new hk], Done.nextNo hk h1 hd hf⟩
theorem Gs.fin (h : Gs l k gs) (hk : k = l.length) : gs = split l := by
 rcases h with ⟨rfl, rfl⟩ | ⟨done, fr, h1, rfl, hd⟩
 ·have : l = [] := List.eq_nil_of_length_eq_zero hk.symm
  subst this
  rfl
 ·have := (Done.last hk h1 hd).1
  rw [this, hk, List.take_length]
theorem Gs.sub2 (h : Gs l k gs) (hk : k < l.length) (hn : 0 < gs.length) : (gs[gs.length - 1] ++ [l[k]]).Sublist l := by
 rcases h with ⟨rfl, rfl⟩ | ⟨done, fr, h1, rfl, hd⟩
 ·simp at hn
 ·have e : (done ++ [(l.take k).drop fr])[(done ++ [(l.take k).drop fr]).length - 1]'(by omega) = (l.take k).drop fr := by simp
  rw [e, ← cur_next hk (by omega)]
  exact (List.drop_sublist _ _).trans (List.take_sublist _ _)
theorem flat_sub {a : List Ent} (h : a.Sublist l) : (a.flatMap entB).length ≤ (l.flatMap entB).length := by
 induction h with
 | slnil => exact Nat.le_refl _
 | cons x _ ih => rw [List.flatMap_cons, List.length_append]; omega
 | cons_cons x _ ih => rw [List.flatMap_cons, List.flatMap_cons, List.length_append, List.length_append]; omega
end
end Go.Pn.Bt
end
