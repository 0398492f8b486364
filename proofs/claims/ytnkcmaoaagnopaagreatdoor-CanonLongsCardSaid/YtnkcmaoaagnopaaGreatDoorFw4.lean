/-
  Memory that a call makes: blocks of its own, rows, what is appended. No condition beyond what each rule asks.
-/
import Derived.Test.YtnkcmaoaagnopaaGreatDoorFw3
import Derived.Laws.AppendOwnNone
import Derived.Great.BuildSlice
namespace Go.Pn
open Go.RowKit

/-- A block of cells without a mark. -/
def Own0 (w : World) (b : Nat) (ty : TypeId) (cs : List Value) : Prop := w.heap[b]? = some (.cells cs.toArray ty (0, 0))
/-- A block of cells, none of them frozen. -/
def Own (w : World) (b : Nat) (ty : TypeId) (cs : List Value) : Prop := ∃ fr : Nat × Nat, w.heap[b]? = some (.cells cs.toArray ty fr) ∧ (fr = (0, 0) ∨ fr = (cs.length, cs.length + 1))

section
variable {w w' : World} {b : Nat} {ty : TypeId} {cs : List Value}
theorem Own0.own (h : Own0 w b ty cs) : Own w b ty cs := ⟨_, h, .inl rfl⟩
theorem Own0.lt (h : Own0 w b ty cs) : b < w.heap.size := lt_of_some h
theorem Own0.keepM {M : Nat → Prop} (h : Own0 w b ty cs) (e : Ext M w w') (hM : ¬ M b) : Own0 w' b ty cs := (e.block b (lt_of_some h) hM).trans h
theorem Own0.keep (h : Own0 w b ty cs) (e : Le w w') : Own0 w' b ty cs := h.keepM e not_false
theorem Own.lt (h : Own w b ty cs) : b < w.heap.size := by obtain ⟨fr, h, _⟩ := h; exact lt_of_some h
theorem Own.keepM {M : Nat → Prop} (h : Own w b ty cs) (e : Ext M w w') (hM : ¬ M b) : Own w' b ty cs := by
  obtain ⟨fr, h, h2⟩ := h; exact ⟨fr, (e.block b (lt_of_some h) hM).trans h, h2⟩
theorem Own.keep (h : Own w b ty cs) (e : Le w w') : Own w' b ty cs := h.keepM e not_false
theorem Own.cell (h : Own w b ty cs) {i : Nat} {v : Value} (hi : cs[i]? = some v) : w.cell? ⟨b, i, none⟩ = some v := by
  obtain ⟨fr, h, _⟩ := h
  unfold World.cell?
  rw [h]
  simpa using hi
theorem Own.free (h : Own w b ty cs) {i : Nat} (hi : i < cs.length) : w.frozen? ⟨b, i, none⟩ = false := by
  obtain ⟨fr, h, h2⟩ := h
  unfold World.frozen?
  rw [h]
  rcases h2 with rfl | rfl
  · simp
  · simp; omega
theorem heap_set (w : World) (b i : Nat) (v : Value) {cs : List Value} {ty : TypeId} {fr : Nat × Nat} (h : w.heap[b]? = some (.cells cs.toArray ty fr)) : (w.setCell ⟨b, i, none⟩ v).heap[b]? = some (.cells (cs.set i v).toArray ty fr) := by
  unfold World.setCell
  rw [Array.getElem?_modify, if_pos rfl, h]
  simp
theorem Own.set (h : Own w b ty cs) (i : Nat) (v : Value) : Own (w.setCell ⟨b, i, none⟩ v) b ty (cs.set i v) := by
  obtain ⟨fr, h, h2⟩ := h
  exact ⟨fr, heap_set w b i v h, by simpa using h2⟩
theorem Own0.set (h : Own0 w b ty cs) (i : Nat) (v : Value) : Own0 (w.setCell ⟨b, i, none⟩ v) b ty (cs.set i v) := heap_set w b i v h
theorem Own0.new (w : World) (ty : TypeId) (cs : List Value) : Own0 (w.alloc (.cells cs.toArray ty)) w.heap.size ty cs := by
  unfold Own0 World.alloc
  simp
end

/-- Data that lie flat, in some cells each. -/
structure Flat (α : Type) where
  sz : Nat
  e : α → List Value
  len : ∀ x, (e x).length = sz
  one : ∀ x, ∀ c ∈ e x, c.oneCell' = true
  pos : 0 < sz
def Flat.enc {α : Type} (E : Flat α) : Enc α := Enc.flat E.sz E.e E.len E.one
theorem Flat.length {α : Type} (E : Flat α) (xs : List α) : (xs.flatMap E.e).length = xs.length * E.sz := by
  induction xs with
  | nil => simp
  | cons x xs ih => simp [ih, E.len, Nat.add_mul, Nat.add_comm]
theorem Flat.seg {α : Type} (E : Flat α) (xs : List α) {i : Nat} (hi : i < xs.length) : ((xs.flatMap E.e).drop (i * E.sz)).take E.sz = E.e xs[i] := by
  induction xs generalizing i with
  | nil => simp at hi
  | cons x xs ih =>
    cases i with
    | zero =>
      simp only [Nat.zero_mul, List.drop_zero, List.flatMap_cons, List.getElem_cons_zero]
      rw [List.take_left' (E.len x)]
    | succ i =>
      have e1 : (i + 1) * E.sz = (E.e x).length + i * E.sz := by rw [E.len, Nat.add_mul]; omega
      rw [List.flatMap_cons, e1, List.drop_append, List.drop_eq_nil_of_le (by omega)]
      simp only [List.nil_append, Nat.add_sub_cancel_left, List.getElem_cons_succ]
      exact ih (by simpa using hi)
theorem Flat.ones {α : Type} (E : Flat α) (xs : List α) : ∀ c ∈ xs.flatMap E.e, c.oneCell' = true := by
  intro c hc
  obtain ⟨x, _, hx⟩ := List.mem_flatMap.1 hc
  exact E.one x c hx
/-- The cell of a flat list. -/
theorem Flat.get {α : Type} (E : Flat α) (xs : List α) {j : Nat} {u : Value} (h : (xs.flatMap E.e)[j]? = some u) : ∃ (hi : j / E.sz < xs.length), (E.e (xs[j / E.sz]))[j % E.sz]? = some u := by
  have hj : j < (xs.flatMap E.e).length := by
    rcases Nat.lt_or_ge j (xs.flatMap E.e).length with h' | h'
    · exact h'
    · rw [List.getElem?_eq_none h'] at h; cases h
  rw [E.length] at hj
  have hi : j / E.sz < xs.length := Nat.div_lt_of_lt_mul (by rw [Nat.mul_comm]; exact hj)
  refine ⟨hi, ?_⟩
  rw [← E.seg xs hi, List.getElem?_take, if_pos (Nat.mod_lt _ E.pos), List.getElem?_drop, Nat.mul_comm, Nat.div_add_mod]
  exact h

/-- Cells in a row hold data. -/
def Row {α : Type} (E : Enc α) (w : World) (F : Nat → Prop) (b off : Nat) (xs : List α) : Prop :=
  ∃ cur ty fr, F b ∧ w.heap[b]? = some (.cells cur ty fr) ∧ off + xs.length * E.sz ≤ cur.size ∧ ∀ i (h : i < xs.length), E.rep w F ((cur.toList.drop (off + i * E.sz)).take E.sz) xs[i]
section
variable {α : Type} {E : Enc α} {G : Flat α} {w w' : World} {F F' : Nat → Prop} {v : Value} {xs : List α} {b off : Nat} {ty : TypeId} {cs : List Value}
theorem Row.keep (h : Row E w F b off xs) (e : Le w w') : Row E w' F b off xs := by
  obtain ⟨cur, ty, fr, hF, hb, hs, hr⟩ := h
  exact ⟨cur, ty, fr, hF, (e.block b (lt_of_some hb) not_false).trans hb, hs, fun i hi => E.ext (hr i hi) fun k _ hk => e.block k hk not_false⟩
theorem Row.keepM {M : Nat → Prop} (h : Row E w F b off xs) (e : Ext M w w') (hM : ∀ k, F k → ¬ M k) : Row E w' F b off xs := by
  obtain ⟨cur, ty, fr, hF, hb, hs, hr⟩ := h
  exact ⟨cur, ty, fr, hF, (e.block b (lt_of_some hb) (hM b hF)).trans hb, hs, fun i hi => E.ext (hr i hi) fun k hF hk => e.block k hk (hM k hF)⟩
theorem Row.at (h : Row E w F b off xs) {i : Nat} (hi : i < xs.length) : At E w F ⟨b, off + i * E.sz, none⟩ xs[i] := by
  obtain ⟨cur, ty, fr, hF, hb, hs, hr⟩ := h
  refine ⟨b, off + i * E.sz, cur, ty, fr, rfl, hF, hb, ?_, hr i hi⟩
  have : (i + 1) * E.sz ≤ xs.length * E.sz := Nat.mul_le_mul_right _ (by omega)
  rw [Nat.add_mul, Nat.one_mul] at this
  omega
theorem Row.of_own (h : Own w b ty cs) (hcs : cs = xs.flatMap G.e) : Row G.enc w (fun k => k = b) b 0 xs := by
  obtain ⟨fr, hb, _⟩ := h
  refine ⟨_, ty, fr, rfl, hb, ?_, fun i hi => ?_⟩
  · simp [hcs, G.length, Flat.enc, Enc.flat]
  · show (_ : List Value) = G.e xs[i]
    simp only [hcs, Nat.zero_add]
    exact G.seg xs hi
theorem Sl.of_own {cap : Nat} (h : Own w b ty cs) (hcs : cs.take (xs.length * G.sz) = xs.flatMap G.e) (h1 : xs.length ≤ cap) (h2 : cap ≤ maxLen) (h3 : cap * G.sz ≤ cs.length) :
    Sl G.enc w (fun k => k = b) (.slice (some ⟨b, 0, none⟩) xs.length cap) xs := by
  obtain ⟨fr, hb, _⟩ := h
  refine ⟨by omega, .inr ⟨b, 0, cap, _, ty, fr, rfl, rfl, hb, h1, h2, ?_, fun i hi => ?_⟩⟩
  · intro _
    show 0 + cap * G.sz ≤ _
    simpa using h3
  · show (_ : List Value) = G.e xs[i]
    rw [← G.seg xs hi, ← hcs]
    show ((cs.drop (0 + i * G.sz)).take G.sz) = ((cs.take (xs.length * G.sz)).drop (i * G.sz)).take G.sz
    rw [Nat.zero_add, List.drop_take, List.take_take, Nat.min_eq_left]
    have : (i + 1) * G.sz ≤ xs.length * G.sz := Nat.mul_le_mul_right _ (by omega)
    rw [Nat.add_mul, Nat.one_mul] at this
    omega
/-- The cells of a slice of flat data. -/
theorem Sl.flat (h : Sl G.enc w F v xs) : (∃ a, v = .slice a 0 0 ∧ xs = []) ∨ ∃ b off cap, F b ∧ v = .slice (some ⟨b, off, none⟩) xs.length cap ∧ xs.length ≤ cap ∧ b < w.heap.size ∧ ∀ j u, (xs.flatMap G.e)[j]? = some u → w.cell? ⟨b, off + j, none⟩ = some u := by
  rcases h.2 with h | ⟨b, off, cap, cur, ty, fr, rfl, hF, hb, h1, h2, h3, hr⟩
  · exact .inl h
  · refine .inr ⟨b, off, cap, hF, rfl, h1, lt_of_some hb, fun j u hu => ?_⟩
    obtain ⟨hi, hu⟩ := G.get xs hu
    have hseg : (cur.toList.drop (off + (j / G.sz) * G.sz)).take G.sz = G.e (xs[j / G.sz]) := hr _ hi
    rw [← hseg, List.getElem?_take, if_pos (Nat.mod_lt _ G.pos), List.getElem?_drop, Nat.add_assoc, Nat.mul_comm, Nat.div_add_mod] at hu
    simp only [World.cell?, hb, Option.isSome_none, Bool.false_eq_true, if_false]
    simpa using hu
end

/-- A slice that the call owns: nobody else writes behind its elements. -/
def OwnF {α : Type} (G : Flat α) (ty : TypeId) (B : Nat) (w : World) (v : Value) (xs : List α) : Prop := w.ownsRow B ty G.sz v xs.length (xs.flatMap G.e) ∧ xs.length ≤ maxLen
/-- The block of a slice. -/
def bk : Value → Nat → Prop
  | .slice (some a) _ _, k => k = a.block
  | _, _ => False
section
variable {α : Type} {G : Flat α} {w w' : World} {F : Nat → Prop} {v : Value} {xs ys : List α} {b B : Nat} {ty : TypeId} {cs : List Value}
theorem OwnF.nil (G : Flat α) (ty : TypeId) (B : Nat) (w : World) : OwnF G ty B w (.slice none 0 0) [] := ⟨World.ownsRow_nil _ _ _ _, by simp⟩
theorem OwnF.bk_ge (h : OwnF G ty B w v xs) : ∀ k, bk v k → B ≤ k ∧ k < w.heap.size := by
  intro k hk
  cases v with
  | slice a n c =>
    cases a with
    | none => exact hk.elim
    | some a => simp only [bk] at hk; subst hk; exact h.1.lt _ rfl
  | _ => exact hk.elim
theorem OwnF.sl (h : OwnF G ty B w v xs) : Sl G.enc w (bk v) v xs := by
  refine ⟨h.2, ?_⟩
  rcases h.1.2 with ⟨rfl, h0⟩ | ⟨g, cap, cur, rfl, hb, hg, hn, hm, hs, ht⟩
  · exact .inl ⟨_, rfl, List.eq_nil_of_length_eq_zero h0⟩
  · refine .inr ⟨g, 0, cap, cur, ty, (0, 0), rfl, rfl, hg, hn, hm, ?_, fun i hi => ?_⟩
    · intro _
      show 0 + cap * G.sz ≤ _
      omega
    · show (_ : List Value) = G.e xs[i]
      rw [← G.seg xs hi, ← ht]
      show ((cur.toList.drop (0 + i * G.sz)).take G.sz) = ((cur.toList.take (xs.length * G.sz)).drop (i * G.sz)).take G.sz
      rw [Nat.zero_add, List.drop_take, List.take_take, Nat.min_eq_left]
      have : (i + 1) * G.sz ≤ xs.length * G.sz := Nat.mul_le_mul_right _ (by omega)
      rw [Nat.add_mul, Nat.one_mul] at this
      omega
theorem OwnF.keepM {M : Nat → Prop} (h : OwnF G ty B w v xs) (e : Ext M w w') (hM : ∀ k, bk v k → ¬ M k) : OwnF G ty B w' v xs := by
  refine ⟨⟨h.1.1, ?_⟩, h.2⟩
  rcases h.1.2 with hn | ⟨g, cap, cur, rfl, hb, hg, rest⟩
  · exact .inl hn
  · exact .inr ⟨g, cap, cur, rfl, hb, (e.block g (lt_of_some hg) (hM g rfl)).trans hg, rest⟩
theorem OwnF.keep (h : OwnF G ty B w v xs) (e : Le w w') : OwnF G ty B w' v xs := h.keepM e fun _ _ => not_false
theorem OwnF.low {B' : Nat} (h : OwnF G ty B w v xs) (hB : B' ≤ B) : OwnF G ty B' w v xs := by
  refine ⟨⟨h.1.1, ?_⟩, h.2⟩
  rcases h.1.2 with hn | ⟨g, cap, cur, rfl, hb, rest⟩
  · exact .inl hn
  · exact .inr ⟨g, cap, cur, rfl, Nat.le_trans hB hb, rest⟩
theorem ext_of_grown {row : Option Nat} (h : w.grownBy w' row) : Ext (fun k => row = some k) w w' :=
  ⟨h.os, h.tape, h.output, h.size, fun k hk hn => h.block k hk fun e => hn e.symm⟩

theorem run_append_flat {P : Program} {t tr : TypeId} {i : TypeInfo} {z y : Value} (ht : P.underlying t = some (.slice ty)) (hi : P.info? ty = some i) (hz : i.zero = some z) (hsz : i.size = G.sz) (hzs : z.cells.size = G.sz)
    (hown : OwnF G ty B w v xs) (hy : Sl G.enc w F y ys) (hb : (xs.length + ys.length) * i.bytes ≤ 140737488355328) (hl : xs.length + ys.length ≤ maxLen) (hB : B ≤ w.heap.size) :
    ∃ v' w', (Builtin.append_ #[t, t] tr #[v, y]).run P w = .ok v' w' ∧ OwnF G ty B w' v' (xs ++ ys) ∧ Ext (bk v) w w' := by
  have hsome : (∃ a0, y = .slice a0 0 0 ∧ ys = [] ∧ a0 = none) ∨ ∃ a cap, y = .slice (some a) ys.length cap ∧ ∀ j u, (ys.flatMap G.e)[j]? = some u → w.cell? (a.add j) = some u := by
    rcases hy.flat with ⟨a0, rfl, rfl⟩ | ⟨b, off, cap, hF, rfl, hc, hlt, hcell⟩
    · cases a0 with
      | none => exact .inl ⟨none, rfl, rfl, rfl⟩
      | some a => exact .inr ⟨a, 0, rfl, fun j u hu => by simp at hu⟩
    · exact .inr ⟨⟨b, off, none⟩, cap, rfl, fun j u hu => by rw [Addr.add_none]; exact hcell j u hu⟩
  rcases hsome with ⟨a0, rfl, rfl, rfl⟩ | ⟨a, cap, rfl, hcell⟩
  · refine ⟨v, w, run_append_owned_none (P := P) (w := w) B t tr ty i G.sz ht hi v xs.length _ hown.1, by simpa using hown, Ext.refl _ _⟩
  · obtain ⟨v', w', hr, ho, hg, _⟩ := run_append_own (P := P) w B t tr ty i z G.sz i.bytes ht hi hz hsz rfl hzs G.pos v xs.length _ hown.1 a ys.length cap (ys.flatMap G.e) (G.length ys)
      hcell (G.ones ys) hl hb hB
    refine ⟨v', w', hr, ⟨?_, by simpa using hl⟩, (ext_of_grown hg).mono fun k _ hk => ?_⟩
    · rw [List.flatMap_append, List.length_append]; exact ho
    · cases v with
      | slice a n c =>
        cases a with
        | none => simp [Value.ownBlock] at hk
        | some a => simp only [Value.ownBlock, Option.some.injEq] at hk; exact hk.symm
      | _ => simp [Value.ownBlock] at hk
end

def byteF : Flat UInt8 := ⟨1, fun x => [.int .u8 (x.toNat : Int)], fun _ => rfl, by simp [Value.oneCell'], by decide⟩
theorem byteF_enc : byteF.enc = byteE := rfl
theorem byteF_map (l : List UInt8) : l.flatMap byteF.e = l.map fun x => Value.int .u8 (x.toNat : Int) := by
  induction l with
  | nil => rfl
  | cons a l ih => rw [List.flatMap_cons, ih]; rfl
def u32F : Flat (BitVec 32) := ⟨1, fun x => [.int .u32 (x.toNat : Int)], fun _ => rfl, by simp [Value.oneCell'], by decide⟩
theorem u32F_enc : u32F.enc = u32E := rfl

section
variable {P : Program} {n : Nat} {ops rest : List Oper} {N : Val → World → Prop} {Z : List PanicEntry → World → Prop} {f : Val} {w : World}
  {d : Nat} {x y : Operand} {t t' ty tr e : TypeId} {pos : String} {after : Array Edge} {α : Type} {E : Enc α} {G : Flat α} {F : Nat → Prop}

/-- A new variable, with its zero value. -/
theorem O.alloc {z : Value} (hz : ∀ w, (zeroValue e).run P w = .ok z w)
    (h : ∀ b w', w.heap.size ≤ b → Own0 w' b e z.cells.toList → Le w w' → O P n ops rest N Z (upd f d (.pointer (some ⟨b, 0, none⟩))) w') :
    O P n ops ({ dst := some d, op := .alloc e, type := tr, pos := pos, after := after, guard := .none } :: rest) N Z f w := by
  refine O.val rfl rfl ?_ (h w.heap.size (w.alloc (.cells z.cells e)) (Nat.le_refl _) (by simpa using Own0.new w e z.cells.toList) (Le.alloc _ _))
  have h3 : execOp (ev n f) { dst := some d, op := .alloc e, type := tr, pos := pos, after := after, guard := .none } = (do pure (.value (← Instr.alloc e true (.tuple #[])))) := rfl
  rw [h3, Sem.run_bind]
  have h4 : (Instr.alloc e true (.tuple #[])).run P w = .ok (.pointer (some ⟨w.heap.size, 0, none⟩)) (w.alloc (.cells z.cells e)) := by
    unfold Instr.alloc
    rw [Sem.run_bind, hz]
    rfl
  rw [h4]
  rfl
/-- A new variable with a value. -/
theorem O.box {v : Value} (hx : ev n f x = v)
    (h : ∀ b w', w.heap.size ≤ b → Own0 w' b e v.cells.toList → Le w w' → O P n ops rest N Z (upd f d (.pointer (some ⟨b, 0, none⟩))) w') :
    O P n ops ({ dst := some d, op := .box e x, type := tr, pos := pos, after := after, guard := .none } :: rest) N Z f w := by
  refine O.val rfl rfl ?_ (h w.heap.size (w.alloc (.cells v.cells e)) (Nat.le_refl _) (by simpa using Own0.new w e v.cells.toList) (Le.alloc _ _))
  have h3 : execOp (ev n f) { dst := some d, op := .box e x, type := tr, pos := pos, after := after, guard := .none } = (do pure (.value (← Instr.box e (ev n f x)))) := rfl
  rw [h3, Sem.run_bind, hx]
  rfl
theorem O.nilChk {a : Addr} (hx : ev n f x = .pointer (some a)) (h : O P n ops rest N Z (upd f d (.pointer (some a))) w) :
    O P n ops ({ dst := some d, op := .nilCheck x, type := tr, pos := pos, after := after, guard := .none } :: rest) N Z f w :=
  O.val rfl rfl (by simp [execOp, hx]) h
/-- The address of an element of an array that lies in memory. -/
theorem O.idxA {k : IntKind} {len s b o : Nat} {i : Int} (ht : P.underlying t = some (.array len e)) (hsz : ∀ w, (sizeOf e).run P w = .ok s w) (hx : ev n f x = .pointer (some ⟨b, o, none⟩)) (hy : ev n f y = .int k i) (hi : 0 ≤ i ∧ i < len)
    (h : O P n ops rest N Z (upd f d (.pointer (some ⟨b, o + i.toNat * s, none⟩))) w) :
    O P n ops ({ dst := some d, op := .indexAddr t x y, type := tr, pos := pos, after := after, guard := .none } :: rest) N Z f w := by
  refine O.val rfl rfl ?_ h
  have h3 : execOp (ev n f) { dst := some d, op := .indexAddr t x y, type := tr, pos := pos, after := after, guard := .none } = (do pure (.value (← Instr.indexAt t (ev n f x) (ev n f y)))) := rfl
  rw [h3, Sem.run_bind, hx, hy]
  have h4 : (Instr.indexAt t (.pointer (some ⟨b, o, none⟩)) (.int k i)).run P w = .ok (.pointer (some ⟨b, o + i.toNat * s, none⟩)) w := by
    simp [Instr.indexAt, Instr.sureAddr, asIntOf, run_underlying ht, hi.1, hi.2, hsz, Addr.add_none]
  rw [h4]
  rfl
/-- A store into one cell of a block of the call's own. -/
theorem O.store {b o : Nat} {cs : List Value} {v : Value} (hsz : ∀ w, (sizeOf t).run P w = .ok 1 w) (hx : ev n f x = .pointer (some ⟨b, o, none⟩)) (hy : ev n f y = v) (h1 : v.oneCell' = true) (ho : Own w b ty cs) (hlt : o < cs.length)
    (h : ∀ w', Own w' b ty (cs.set o v) → Ext (fun k => k = b) w w' → w'.heap.size = w.heap.size → O P n ops rest N Z f w') :
    O P n ops ({ dst := .none, op := .store t x y, type := tr, pos := pos, after := after, guard := .none } :: rest) N Z f w := by
  refine O.act rfl rfl ?_ (h (w.setCell ⟨b, o, none⟩ v) (ho.set o v) (Ext.set w ⟨b, o, none⟩ v) (by simp))
  have h3 : execOp (ev n f) { dst := .none, op := .store t x y, type := tr, pos := pos, after := after, guard := .none } = (do Instr.storeAt t (ev n f x) (ev n f y); pure .skip) := rfl
  rw [h3, Sem.run_bind, hx, hy]
  have hcells : v.cells = #[v] := by cases v <;> first | rfl | simp [Value.oneCell'] at h1
  have hc := ho.cell (i := o) (v := cs[o]) (by simp)
  have hf := ho.free hlt
  have h4 : (Instr.storeAt t (.pointer (some ⟨b, o, none⟩)) v).run P w = .ok () (w.setCell ⟨b, o, none⟩ v) := by
    simp [Instr.storeAt, Instr.sureAddr, storeVar, hsz, hcells, storeCells, Addr.add, run_store P w ⟨b, o, none⟩ v .plain h1, hc, hf]
  rw [h4]
  rfl
/-- A load of one cell of a block of the call's own. -/
theorem O.loadO {b o : Nat} {cs : List Value} {v : Value} (hag : ∀ w, (isAgg t).run P w = .ok false w) (hx : ev n f x = .pointer (some ⟨b, o, none⟩)) (ho : Own w b ty cs) (hv : cs[o]? = some v) (h : O P n ops rest N Z (upd f d v) w) :
    O P n ops ({ dst := some d, op := .load t x, type := tr, pos := pos, after := after, guard := .none } :: rest) N Z f w := by
  refine O.val rfl rfl ?_ h
  have h3 : execOp (ev n f) { dst := some d, op := .load t x, type := tr, pos := pos, after := after, guard := .none } = (do pure (.value (← Instr.loadAt t (ev n f x)))) := rfl
  rw [h3, Sem.run_bind, hx]
  have h4 : (Instr.loadAt t (.pointer (some ⟨b, o, none⟩))).run P w = .ok v w := by
    simp [Instr.loadAt, Instr.sureAddr, loadVar, hag, ho.cell hv]
  rw [h4]
  rfl
/-- A load of one number of a row. -/
theorem O.loadR {b o : Nat} {xs : List α} {i : Nat} (hag : ∀ w, (isAgg t).run P w = .ok false w) (h1 : E.sz = 1) (hx : ev n f x = .pointer (some ⟨b, o + i, none⟩)) (hr : Row E w F b o xs) (hi : i < xs.length)
    (h : ∀ v, E.rep w F [v] xs[i] → O P n ops rest N Z (upd f d v) w) :
    O P n ops ({ dst := some d, op := .load t x, type := tr, pos := pos, after := after, guard := .none } :: rest) N Z f w :=
  O.load1 hag h1 hx (by have := hr.at hi; rwa [h1, Nat.mul_one] at this) h

/-- A slice literal. -/
theorem O.lit {len : Nat} {parts : List (Nat × Operand)} {vs : List (Nat × Value)} {cells : Array Value} {ie : TypeInfo} {z : Value} (hu : P.underlying t = some (.slice e)) (hie : P.info? e = some ie) (hz : ie.zero = some z) (hsmall : ¬ len * ie.size > 2 ^ 24) (hpos : ¬ len * ie.size = 0)
    (hvs : parts.map (fun x => (x.1, ev n f x.2)) = vs)
    (hf : Instr.fill (fun i => some (i * ie.size, ie.size)) ((Array.range (len * ie.size)).map (z.cells[· % z.cells.size]!)) vs = some cells)
    (h : ∀ b w', w.heap.size ≤ b → Own0 w' b e cells.toList → Le w w' → O P n ops rest N Z (upd f d (.slice (some ⟨b, 0, none⟩) len len)) w') :
    O P n ops ({ dst := some d, op := .buildSlice t len parts.toArray, type := tr, pos := pos, after := after, guard := .none } :: rest) N Z f w := by
  refine O.val rfl rfl ?_ (h w.heap.size (w.alloc (.cells cells e)) (Nat.le_refl _) (by simpa using Own0.new w e cells.toList) (Le.alloc _ _))
  have h3 : execOp (ev n f) { dst := some d, op := .buildSlice t len parts.toArray, type := tr, pos := pos, after := after, guard := .none } = (do pure (.value (← Instr.buildSlice t len (parts.toArray.map fun x => (x.1, ev n f x.2))))) := rfl
  rw [h3, Sem.run_bind, run_buildSlice w t e len _ cells ie z hu hie hz hsmall hpos (by simpa [hvs] using hf)]
  rfl
/-- An empty slice literal. -/
theorem O.lit0 {ie : TypeInfo} (hu : P.underlying t = some (.slice e)) (hie : P.info? e = some ie)
    (h : ∀ b w', w.heap.size ≤ b → Own0 w' b e [] → Le w w' → O P n ops rest N Z (upd f d (.slice (some ⟨b, 0, none⟩) 0 0)) w') :
    O P n ops ({ dst := some d, op := .buildSlice t 0 #[], type := tr, pos := pos, after := after, guard := .none } :: rest) N Z f w := by
  refine O.val rfl rfl ?_ (h w.heap.size (w.alloc (.cells #[] e)) (Nat.le_refl _) (Own0.new w e []) (Le.alloc _ _))
  have h3 : execOp (ev n f) { dst := some d, op := .buildSlice t 0 #[], type := tr, pos := pos, after := after, guard := .none } = (do pure (.value (← Instr.buildSlice t 0 #[]))) := by simp [execOp]
  rw [h3, Sem.run_bind]
  have h4 : (Instr.buildSlice t 0 #[]).run P w = .ok (.slice (some ⟨w.heap.size, 0, none⟩) 0 0) (w.alloc (.cells #[] e)) := by
    unfold Instr.buildSlice
    rw [Sem.run_bind, run_underlying hu, Result.andThen_ok]
    simp only [Sem.run_bind, run_sizeOf hie, Result.andThen_ok, Nat.zero_mul]
    rw [if_neg (by decide), if_pos trivial]
    have e0 : ∀ z : Array Value, (Array.range 0).map (fun x => z[x % z.size]!) = #[] := fun z => by simp
    simp only [Sem.run_bind, Sem.run_pure, Result.andThen_ok, e0]
    rfl
  rw [h4]
  rfl

/-- []byte("..") of a constant: the mark behind the row. -/
theorem O.convBB {b c m : Nat} {cs : List Value} (ht : P.underlying t = some (.slice e)) (he : P.underlying e = some (.int .u8)) (hx : ev n f x = .slice (some ⟨b, 0, none⟩) m c) (ho : Own w b ty cs)
    (h : ∀ w', Own w' b ty cs → Ext (fun k => k = b) w w' → O P n ops rest N Z (upd f d (.slice (some ⟨b, 0, none⟩) m c)) w') :
    O P n ops ({ dst := some d, op := .convert t t x, type := tr, pos := pos, after := after, guard := .none } :: rest) N Z f w := by
  obtain ⟨fr, hb, hfr⟩ := ho
  have hsh : w.shape? b = some (ty, cs.length) := by simp [World.shape?, hb]
  have hrun : (convert t t (.slice (some ⟨b, 0, none⟩) m c)).run P w = .ok (.slice (some ⟨b, 0, none⟩) m c) (w.freeze ⟨b, cs.length, none⟩ 1) := by
    simp [convert, run_underlying ht, run_underlying he, markStringish, hsh]
  have hblk : (w.freeze ⟨b, cs.length, none⟩ 1).heap[b]? = some (.cells cs.toArray ty (cs.length, cs.length + 1)) := by
    unfold World.freeze
    rw [if_neg (by decide)]
    show (w.heap.modify b _)[b]? = _
    rw [Array.getElem?_modify, if_pos rfl, hb]
    rcases hfr with rfl | rfl
    · simp
    · have hne : (cs.length == cs.length + 1) = false := by simp
      simp
  refine O.val rfl rfl (w' := w.freeze ⟨b, cs.length, none⟩ 1) ?_ (h _ ⟨_, hblk, .inr rfl⟩ ?_)
  · have h3 : execOp (ev n f) { dst := some d, op := .convert t t x, type := tr, pos := pos, after := after, guard := .none } = (do pure (.value (← convert t t (ev n f x)))) := rfl
    rw [h3, Sem.run_bind, hx, hrun]; rfl
  · refine ⟨rfl, rfl, rfl, by simp [World.freeze], fun k _ hk => ?_⟩
    simp only [World.freeze]
    rw [if_neg (by decide)]
    simp only [Array.getElem?_modify]
    rw [if_neg (fun e => hk e.symm)]
/-- string(b) of bytes. -/
theorem O.bytesS {v : Value} {l : List UInt8} (ht : P.underlying t = some (.slice e)) (he : P.underlying e = some (.int .u8)) (ht' : P.underlying t' = some .string) (hx : ev n f x = v) (hv : Sl byteE w F v l)
    (h : O P n ops rest N Z (upd f d (str l)) w) :
    O P n ops ({ dst := some d, op := .convert t t' x, type := tr, pos := pos, after := after, guard := .none } :: rest) N Z f w := by
  refine O.val rfl rfl ?_ h
  have h3 : execOp (ev n f) { dst := some d, op := .convert t t' x, type := tr, pos := pos, after := after, guard := .none } = (do pure (.value (← convert t t' (ev n f x)))) := rfl
  rw [h3, Sem.run_bind, hx]
  have h4 : (convert t t' v).run P w = .ok (str l) w := by
    rcases (show Sl byteF.enc w F v l from hv).flat with ⟨a0, rfl, rfl⟩ | ⟨b, off, cap, hF, rfl, hc, hlt, hcell⟩
    · cases a0 with
      | none => exact run_convert_bytes_nil w t e ht he 0 0 t' ht'
      | some a =>
        rw [run_convert_bytes_string w t t' e _ 0 0 ht he ht', run_bytesToString w _ 0 0 [] (run_loadCells_list w a [] (fun j v hj => by simp at hj))]
        rfl
    · rw [run_convert_bytes_arg w t e ht he b off l.length cap (l.map fun x => (x.toNat : Int)) (by simp) (fun i hi => ?_) t' ht']
      · have : strOfNums (l.map fun x => (x.toNat : Int)) = ⟨l.toArray⟩ := by
          unfold strOfNums
          congr 2
          rw [List.map_map]
          conv => rhs; rw [← List.map_id l]
          apply List.map_congr_left
          intro a _
          simp
        rw [this]; rfl
      · have := hcell i (.int .u8 (((l.map fun x => (x.toNat : Int)).getD i 0))) ?_
        · exact this
        · rw [byteF_map]
          simp [List.getD_eq_getElem?_getD, hi]
  rw [h4]
  rfl
/-- []byte(s). -/
theorem O.strB {l : List UInt8} (ht : P.underlying t = some .string) (ht' : P.underlying t' = some (.slice e)) (he : P.underlying e = some (.int .u8)) (hx : ev n f x = str l) (hl : l.length ≤ maxLen)
    (h : ∀ b cap w', w.heap.size ≤ b → l.length ≤ cap → Own w' b e (l.flatMap byteF.e ++ List.replicate (cap - l.length) (.int .u8 0)) → Sl byteE w' (fun k => k = b) (.slice (some ⟨b, 0, none⟩) l.length cap) l → Le w w' →
      O P n ops rest N Z (upd f d (.slice (some ⟨b, 0, none⟩) l.length cap)) w') :
    O P n ops ({ dst := some d, op := .convert t t' x, type := tr, pos := pos, after := after, guard := .none } :: rest) N Z f w := by
  have hsz : ByteArray.size ⟨l.toArray⟩ = l.length := by simp [ByteArray.size]
  obtain ⟨cap, hcap⟩ : ∃ cap, cap = (Question.appendCap l.length 0 e).cut (w.tape w.drawn (.appendCap l.length 0 e)) := ⟨_, rfl⟩
  have hc1 : l.length ≤ cap := by rw [hcap]; exact Nat.le_add_right _ _
  have hc2 : cap ≤ maxLen := by
    rw [hcap]
    have hlt := Nat.mod_lt (w.tape w.drawn (.appendCap l.length 0 e)) (show 0 < 2 ^ 63 - l.length by simp only [maxLen] at hl; omega)
    simp only [Question.cut, maxLen] at hl ⊢
    omega
  let cs : List Value := l.flatMap byteF.e ++ List.replicate (cap - l.length) (.int .u8 0)
  have hcs : cs.length = cap := by
    show (l.flatMap byteF.e ++ List.replicate (cap - l.length) (Value.int .u8 0)).length = cap
    rw [List.length_append, byteF.length, List.length_replicate]
    show l.length * 1 + _ = _
    omega
  let w1 : World := { w with drawn := w.drawn + 1 }
  let w2 : World := w1.alloc (.cells cs.toArray e)
  have hb2 : w2.heap[w.heap.size]? = some (.cells cs.toArray e) := by show (w.heap.push _)[w.heap.size]? = _; simp
  have hsh : w2.shape? w.heap.size = some (e, cs.length) := by simp [World.shape?, hb2]
  have harr : (Array.map (fun b : UInt8 => Value.int .u8 (b.toNat : Int)) l.toArray ++ Array.replicate (cap - l.length) (Value.int .u8 0)) = cs.toArray := by
    apply Array.toList_inj.1
    simp only [Array.toList_append, Array.toList_map, Array.toList_replicate]
    show _ = l.flatMap byteF.e ++ List.replicate (cap - l.length) (.int .u8 0)
    rw [byteF_map]
  have hconv : (Conv.stringToBytes e ⟨l.toArray⟩).run P w = .ok (.slice (some ⟨w.heap.size, 0, none⟩) l.length cap) (w2.freeze ⟨w.heap.size, cs.length, none⟩ 1) := by
    unfold Conv.stringToBytes
    rw [Sem.run_bind, run_choose, if_neg (by simp [Question.forced]), hsz, Result.andThen_ok, ← hcap]
    show Sem.run P (do let a ← newRow e (Array.map (fun b : UInt8 => Value.int .u8 (b.toNat : Int)) l.toArray ++ Array.replicate (cap - l.length) (.int .u8 0)); markStringish a; pure (Value.slice (some a) l.length cap)) w1 = _
    rw [harr, Sem.run_bind]
    have hn : (newRow e cs.toArray).run P w1 = .ok ⟨w.heap.size, 0, none⟩ w2 := rfl
    rw [hn, Result.andThen_ok, Sem.run_bind]
    have hm : (markStringish ⟨w.heap.size, 0, none⟩).run P w2 = .ok () (w2.freeze ⟨w.heap.size, cs.length, none⟩ 1) := by
      simp [markStringish, hsh]
    rw [hm, Result.andThen_ok]
    rfl
  have hblk : (w2.freeze ⟨w.heap.size, cs.length, none⟩ 1).heap[w.heap.size]? = some (.cells cs.toArray e (cs.length, cs.length + 1)) := by
    unfold World.freeze
    rw [if_neg (by decide)]
    show (w2.heap.modify w.heap.size _)[w.heap.size]? = _
    rw [Array.getElem?_modify, if_pos rfl, hb2]
    simp
  have hown : Own (w2.freeze ⟨w.heap.size, cs.length, none⟩ 1) w.heap.size e cs := ⟨_, hblk, .inr rfl⟩
  have hle : Le w (w2.freeze ⟨w.heap.size, cs.length, none⟩ 1) := by
    refine ⟨rfl, rfl, rfl, ?_, fun k hk _ => ?_⟩
    · simp [World.freeze, w2, w1]
    · unfold World.freeze
      rw [if_neg (by decide)]
      show (w2.heap.modify w.heap.size _)[k]? = _
      rw [Array.getElem?_modify, if_neg (by omega)]
      show (w.heap.push _)[k]? = _
      rw [Array.getElem?_push, if_neg (by omega)]
  refine O.val rfl rfl (w' := w2.freeze ⟨w.heap.size, cs.length, none⟩ 1) ?_ (h w.heap.size cap _ (Nat.le_refl _) hc1 hown ?_ hle)
  · have h3 : execOp (ev n f) { dst := some d, op := .convert t t' x, type := tr, pos := pos, after := after, guard := .none } = (do pure (.value (← convert t t' (ev n f x)))) := rfl
    have h4 : (convert t t' (str l)).run P w = (Conv.stringToBytes e ⟨l.toArray⟩).run P w := by
      unfold convert
      rw [Sem.run_bind, run_underlying ht, Result.andThen_ok, Sem.run_bind, run_underlying ht', Result.andThen_ok]
      simp only [str]
      rw [Sem.run_bind, run_underlying he, Result.andThen_ok]
    rw [h3, Sem.run_bind, hx, h4, hconv]
    rfl
  · refine Sl.of_own (G := byteF) hown ?_ hc1 hc2 ?_
    · rw [← byteF.length l]
      exact List.take_left
    · show cap * 1 ≤ cs.length
      omega
/-- append, onto a slice of the call's own, of flat data. -/
theorem O.appF {i : TypeInfo} {z v v2 : Value} {xs ys : List α} {B : Nat} (ht : P.underlying t = some (.slice e)) (hi : P.info? e = some i) (hz : i.zero = some z) (hsz : i.size = G.sz) (hzs : z.cells.size = G.sz)
    (hx : ev n f x = v) (hy : ev n f y = v2) (hown : OwnF G e B w v xs) (hv2 : Sl G.enc w F v2 ys) (hb : (xs.length + ys.length) * i.bytes ≤ 140737488355328) (hl : xs.length + ys.length ≤ maxLen) (hB : B ≤ w.heap.size)
    (h : ∀ v' w', OwnF G e B w' v' (xs ++ ys) → Ext (bk v) w w' → O P n ops rest N Z (upd f d v') w') :
    O P n ops ({ dst := some d, op := .call { callee := .builtin .append, args := [x, y].toArray, argTypes := [t, t].toArray }, type := tr, pos := pos, after := after, guard := .none } :: rest) N Z f w := by
  obtain ⟨v', w', hr, ho, he⟩ := run_append_flat (P := P) (tr := tr) ht hi hz hsz hzs hown hv2 hb hl hB
  refine O.val rfl rfl ?_ (h v' w' ho he)
  have h3 : (execOp (ev n f) { dst := some d, op := .call { callee := .builtin .append, args := [x, y].toArray, argTypes := [t, t].toArray }, type := tr, pos := pos, after := after, guard := .none }).run P w = ((Builtin.append_ #[t, t] tr #[ev n f x, ev n f y]).run P w).andThen (fun v w => .ok (.value v) w) := by
    simp [execOp, resolve, invoke, builtin]
  rw [h3, hx, hy, hr]
  rfl
/-- s[lo:hi] of a string. -/
theorem O.subS {l : List UInt8} {lo hi : Int} {ol oh : Option Operand} (ht : P.underlying t = some .string) (hx : ev n f x = str l)
    (hlo : (ol = .none ∧ lo = 0) ∨ ∃ o k, ol = some o ∧ ev n f o = .int k lo) (hhi : (oh = .none ∧ hi = l.length) ∨ ∃ o k, oh = some o ∧ ev n f o = .int k hi) (hb : 0 ≤ lo ∧ lo ≤ hi ∧ hi ≤ l.length)
    (h : O P n ops rest N Z (upd f d (str ((l.take hi.toNat).drop lo.toNat))) w) :
    O P n ops ({ dst := some d, op := .slice t x ol oh .none, type := tr, pos := pos, after := after, guard := .none } :: rest) N Z f w := by
  refine O.val rfl rfl ?_ h
  have h3 : execOp (ev n f) { dst := some d, op := .slice t x ol oh .none, type := tr, pos := pos, after := after, guard := .none } = (do pure (.value (← Instr.sliceAt t (ev n f x) (ol.map (ev n f)) (oh.map (ev n f)) .none))) := rfl
  have hsz : ByteArray.size ⟨l.toArray⟩ = l.length := by simp [ByteArray.size]
  have hbl : ∀ (k : IntKind) (x : Int) (y : Nat) (c : BoundsCode), 0 ≤ x → x ≤ y → (Instr.sliceBound (.int k x) y c).run P w = .ok x.toNat w := by
    intro k x y c h0 h1
    simp [Instr.sliceBound, asIntOf, h0, h1]
  have h4 : (Instr.sliceAt t (str l) (ol.map (ev n f)) (oh.map (ev n f)) .none).run P w = .ok (str ((l.take hi.toNat).drop lo.toNat)) w := by
    have hh2 : ∀ r : Nat, r = hi.toNat → (match (oh.map (ev n f)) with | some v => Instr.sliceBound v l.length .sliceAlen | .none => pure l.length : Sem Nat).run P w = .ok hi.toNat w := by
      intro r _
      rcases hhi with ⟨rfl, rfl⟩ | ⟨o, k, rfl, ho⟩
      · simp
      · simp only [Option.map_some, ho]; exact hbl _ hi l.length _ (by omega) hb.2.2
    have hl2 : (match (ol.map (ev n f)) with | some v => Instr.sliceBound v hi.toNat .sliceB | .none => pure 0 : Sem Nat).run P w = .ok lo.toNat w := by
      rcases hlo with ⟨rfl, rfl⟩ | ⟨o, k, rfl, ho⟩
      · simp
      · simp only [Option.map_some, ho]; exact hbl _ lo hi.toNat _ hb.1 (by omega)
    unfold Instr.sliceAt
    rw [Sem.run_bind, run_underlying ht, Result.andThen_ok]
    simp only [Instr.slice]
    rw [Sem.run_bind, run_underlying ht, Result.andThen_ok]
    simp only [str, hsz, Option.isSome_none, Bool.false_eq_true, if_false, Instr.sliceBounds]
    rcases hhi with ⟨rfl, rfl⟩ | ⟨o, k, rfl, ho⟩ <;> rcases hlo with ⟨rfl, rfl⟩ | ⟨o', k', rfl, ho'⟩ <;>
      simp_all [extract_mk]
  rw [h3, Sem.run_bind, hx, h4]
  rfl
/-- make([]T, n), of data whose zero value is known. -/
theorem O.mkF {i : TypeInfo} {z : Value} {zx : α} {m B : Nat} {k : IntKind} (ht : P.underlying t = some (.slice e)) (hi : P.info? e = some i) (hz : i.zero = some z) (hsz : i.size = G.sz) (hzx : z.cells.toList = G.e zx)
    (hx : ev n f x = .int k (m : Int)) (hy : ev n f y = .int k (m : Int)) (hb : i.bytes * m ≤ 281474976710656) (hm : m ≤ maxLen) (hB : B ≤ w.heap.size)
    (h : ∀ b w', w.heap.size ≤ b → Own0 w' b e ((List.replicate m zx).flatMap G.e) → OwnF G e B w' (.slice (some ⟨b, 0, none⟩) m m) (List.replicate m zx) → Le w w' → O P n ops rest N Z (upd f d (.slice (some ⟨b, 0, none⟩) m m)) w') :
    O P n ops ({ dst := some d, op := .makeSlice t x y, type := tr, pos := pos, after := after, guard := .none } :: rest) N Z f w := by
  have hcells : (madeCells z.cells (m * G.sz)).toList = (List.replicate m zx).flatMap G.e := by
    apply List.ext_getElem?
    intro j
    have hzsz : z.cells.size = G.sz := by rw [← Array.length_toList, hzx, G.len]
    by_cases hj : j < m * G.sz
    · have h1 : ((List.replicate m zx).flatMap G.e)[j]? = (G.e zx)[j % G.sz]? := by
        have hlt : j < ((List.replicate m zx).flatMap G.e).length := by rw [G.length]; simpa using hj
        obtain ⟨hi, hu⟩ := G.get (List.replicate m zx) (List.getElem?_eq_getElem hlt)
        rw [List.getElem?_eq_getElem hlt, ← hu]
        simp
      have hjm : j % G.sz < z.cells.size := by rw [hzsz]; exact Nat.mod_lt _ G.pos
      rw [h1, ← hzx]
      simp only [madeCells, Array.toList_map, Array.toList_range, List.getElem?_map, List.getElem?_range hj, Option.map_some, Array.getElem?_toList]
      rw [hzsz, getElem!_pos z.cells _ hjm, Array.getElem?_eq_getElem hjm]
    · rw [List.getElem?_eq_none (by simp [size_madeCells]; omega), List.getElem?_eq_none (by rw [G.length]; simp; omega)]
  have hown : Own0 (w.alloc (.cells (madeCells z.cells (m * G.sz)) e)) w.heap.size e ((List.replicate m zx).flatMap G.e) := by
    have := Own0.new w e (madeCells z.cells (m * G.sz)).toList
    rwa [Array.toArray_toList, hcells] at this
  have hl : ((List.replicate m zx).flatMap G.e).length = m * G.sz := by rw [G.length]; simp
  refine O.val rfl rfl ?_ (h w.heap.size (w.alloc (.cells (madeCells z.cells (m * G.sz)) e)) (Nat.le_refl _) hown ?_ (Le.alloc _ _))
  · have h3 : execOp (ev n f) { dst := some d, op := .makeSlice t x y, type := tr, pos := pos, after := after, guard := .none } = (do pure (.value (← Instr.makeSlice t (ev n f x) (ev n f y)))) := rfl
    have h63 : (m : Int) ≤ 9223372036854775807 := by have := hm; unfold maxLen at this; omega
    have hb' : (i.bytes : Int) * (m : Int) ≤ 281474976710656 := by
      have h : ((i.bytes * m : Nat) : Int) ≤ 281474976710656 := by omega
      rwa [Int.natCast_mul] at h
    rw [h3, Sem.run_bind, hx, hy, run_make (P := P) w t e i z ht hi hz k k m m (by omega) (Int.le_refl _) hb' h63]
    simp [hsz]
  · refine ⟨⟨by simpa using G.length (List.replicate m zx), .inr ⟨w.heap.size, m, _, by simp, hB, hown, by simp, hm, ?_, ?_⟩⟩, by simpa using hm⟩
    · simp [hl]
    · show List.take ((List.replicate m zx).length * G.sz) _ = _
      rw [List.length_replicate, ← hl]
      exact List.take_length
/-- a[lo:hi] of an array that lies in memory. -/
theorem O.subA {len s b o : Nat} {lo hi : Int} {ol oh : Option Operand} (ht : P.underlying t = some (.array len e)) (hsz : ∀ w, (sizeOf e).run P w = .ok s w) (hx : ev n f x = .pointer (some ⟨b, o, none⟩))
    (hlo : (ol = .none ∧ lo = 0) ∨ ∃ z k, ol = some z ∧ ev n f z = .int k lo) (hhi : (oh = .none ∧ hi = len) ∨ ∃ z k, oh = some z ∧ ev n f z = .int k hi) (hb : 0 ≤ lo ∧ lo ≤ hi ∧ hi ≤ len ∧ lo < len)
    (h : O P n ops rest N Z (upd f d (.slice (some ⟨b, o + lo.toNat * s, none⟩) (hi.toNat - lo.toNat) (len - lo.toNat))) w) :
    O P n ops ({ dst := some d, op := .slice t x ol oh .none, type := tr, pos := pos, after := after, guard := .none } :: rest) N Z f w := by
  refine O.val rfl rfl ?_ h
  have h3 : execOp (ev n f) { dst := some d, op := .slice t x ol oh .none, type := tr, pos := pos, after := after, guard := .none } = (do pure (.value (← Instr.sliceAt t (ev n f x) (ol.map (ev n f)) (oh.map (ev n f)) .none))) := rfl
  have hbl : ∀ (k : IntKind) (x : Int) (y : Nat) (c : BoundsCode), 0 ≤ x → x ≤ y → (Instr.sliceBound (.int k x) y c).run P w = .ok x.toNat w := by
    intro k x y c h0 h1
    simp [Instr.sliceBound, asIntOf, h0, h1]
  have hm : ¬ len = lo.toNat := by omega
  have h4 : (Instr.sliceAt t (.pointer (some ⟨b, o, none⟩)) (ol.map (ev n f)) (oh.map (ev n f)) .none).run P w = .ok (.slice (some ⟨b, o + lo.toNat * s, none⟩) (hi.toNat - lo.toNat) (len - lo.toNat)) w := by
    unfold Instr.sliceAt
    rw [Sem.run_bind, run_underlying ht, Result.andThen_ok]
    simp only [Instr.sliceBounds, Instr.sureAddr]
    rcases hhi with ⟨rfl, rfl⟩ | ⟨z, k, rfl, ho⟩ <;> rcases hlo with ⟨rfl, rfl⟩ | ⟨z', k', rfl, ho'⟩
    · simp [hsz, Addr.add_none]
    · have h6 := hbl k' lo len .sliceB hb.1 (by omega)
      simp [hsz, Addr.add_none, ho', h6, hm]
    · have h5 := hbl k hi len .sliceAlen (by omega) (by omega)
      simp [hsz, Addr.add_none, ho, h5]
    · have h5 := hbl k hi len .sliceAlen (by omega) (by omega)
      have h6 := hbl k' lo hi.toNat .sliceB hb.1 (by omega)
      simp [hsz, Addr.add_none, ho, ho', h5, h6, hm]
  rw [h3, Sem.run_bind, hx, h4]
  rfl
end
/-- A part of a block, as a slice. -/
theorem Own.part {α : Type} {G : Flat α} {w : World} {b : Nat} {ty : TypeId} {cs : List Value} {xs : List α} {off cap : Nat} (h : Own w b ty cs) (hcs : (cs.drop off).take (xs.length * G.sz) = xs.flatMap G.e) (h1 : xs.length ≤ cap) (h2 : cap ≤ maxLen) (h3 : off + cap * G.sz ≤ cs.length) :
    Sl G.enc w (fun k => k = b) (.slice (some ⟨b, off, none⟩) xs.length cap) xs := by
  obtain ⟨fr, hb, _⟩ := h
  refine ⟨by omega, .inr ⟨b, off, cap, _, ty, fr, rfl, rfl, hb, h1, h2, ?_, fun i hi => ?_⟩⟩
  · intro _
    show off + cap * G.sz ≤ _
    simpa using h3
  · show (_ : List Value) = G.e xs[i]
    rw [← G.seg xs hi, ← hcs]
    show ((cs.drop (off + i * G.sz)).take G.sz) = (((cs.drop off).take (xs.length * G.sz)).drop (i * G.sz)).take G.sz
    rw [List.drop_take, List.take_take, List.drop_drop, Nat.min_eq_left]
    have : (i + 1) * G.sz ≤ xs.length * G.sz := Nat.mul_le_mul_right _ (by omega)
    rw [Nat.add_mul, Nat.one_mul] at this
    omega
def u64F : Flat (BitVec 64) := ⟨1, fun x => [.int .u64 (x.toNat : Int)], fun _ => rfl, by simp [Value.oneCell'], by decide⟩
end Go.Pn
