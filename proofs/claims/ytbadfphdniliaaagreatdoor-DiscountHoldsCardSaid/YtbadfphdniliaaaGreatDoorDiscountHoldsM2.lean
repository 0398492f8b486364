/-
  Rows of one cell each, sorted in place. No condition.
-/
import Derived.Test.YtbadfphdniliaaaGreatDoorDiscountHoldsM1
import Derived.Shelf.SlSortCmp.Whole1
import Derived.Maps.RangeRun
import Derived.MapKept
section
namespace Go.Pn
open Go.RowKit Go.Sort
section
open Go.Proofs
variable {α : Type} [Inhabited α] {enc : α → Value} {G : Flat α} {ty : TypeId} {B : Nat} {w : World} {l : List α} {g cap : Nat}
theorem getElemB_list (l : List α) {i : Nat} (h : i < l.length) : l.toArray[i]! = l[i] := by
  rw [getElem!_pos l.toArray i (by simpa using h)]
  simp
theorem flat1_get {α : Type} {enc : α → Value} {G : Flat α} (hG : ∀ x, G.e x = [enc x]) (l : List α) : l.flatMap G.e = l.map enc := by
  induction l with
  | nil => rfl
  | cons a l ih => rw [List.flatMap_cons, ih, hG]; rfl
theorem OwnF.holds (hs : G.sz = 1) (hG : ∀ x, G.e x = [enc x]) (h : OwnF G ty B w (.slice (some ⟨g, 0, none⟩) l.length cap) l) : Holds enc w g 0 l.toArray ∧ g < w.heap.size := by
  obtain ⟨h0, hm⟩ := h
  rcases h0.2 with ⟨h1, _⟩ | ⟨g', cap', cur, h1, hb, hg, hn, hc, hsz, ht⟩
  · cases h1
  · have e1 : g = g' := by cases h1; rfl
    subst e1
    refine ⟨?_, lt_of_some hg⟩
    intro j hj
    have hj2 : j < l.length := by simpa using hj
    rw [hs, Nat.mul_one] at ht hsz
    have hjc : j < cur.size := by omega
    have hcell : cur[j]? = some (enc l.toArray[j]!) := by
      rw [getElemB_list l hj2]
      have h3 : (cur.toList.take l.length)[j]? = some (enc l[j]) := by
        rw [ht, flat1_get hG, List.getElem?_map, List.getElem?_eq_getElem hj2]
        rfl
      rw [List.getElem?_take, if_pos hj2] at h3
      simpa using h3
    constructor
    · simp only [World.cell?, hg, Nat.zero_add]
      simpa using hcell
    · simp [World.frozen?, hg]
/-- Behind the sort. -/
theorem OwnF.sorted (hs : G.sz = 1) (hG : ∀ x, G.e x = [enc x]) (h : OwnF G ty B w (.slice (some ⟨g, 0, none⟩) l.length cap) l) {d : Array α} (hd : d.size = l.length) (m : Nat) (os : Array Obj) :
    OwnF G ty B (sortWorld enc w g 0 m d os) (.slice (some ⟨g, 0, none⟩) l.length cap) d.toList ∧ Ext (fun k => k = g) w (sortWorld enc w g 0 m d os) := by
  obtain ⟨h0, hm⟩ := h
  have hsize : (sortWorld enc w g 0 m d os).heap.size = w.heap.size + os.size := by
    show (w.heap.modify g _ ++ os).size = _
    rw [Array.size_append, Array.size_modify]
  rcases h0.2 with ⟨h1, _⟩ | ⟨g', cap', cur, h1, hb, hg, hn, hc, hsz, ht⟩
  · cases h1
  · have e1 : g = g' := by cases h1; rfl
    have e2 : cap = cap' := by cases h1; rfl
    subst e1; subst e2
    have hlt : g < w.heap.size := lt_of_some hg
    rw [hs, Nat.mul_one] at ht hsz
    constructor
    · have hd2 : d.toList.length = l.length := by simpa using hd
      refine ⟨⟨?_, .inr ⟨g, cap, putCells enc 0 d cur, by rw [hd2], hb, ?_, by rw [hd2]; exact hn, hc, ?_, ?_⟩⟩, by rw [hd2]; exact hm⟩
      · rw [G.length]
      · show (w.heap.modify g _ ++ os)[g]? = _
        rw [Array.getElem?_append_left (by rw [Array.size_modify]; exact hlt), Array.getElem?_modify, if_pos rfl, hg]
        rfl
      · rw [hs, Nat.mul_one]
        unfold putCells
        rw [Array.size_mapIdx]
        exact hsz
      · rw [hs, Nat.mul_one, flat1_get hG, hd2]
        apply List.ext_getElem?
        intro j
        unfold putCells
        by_cases hj : j < l.length
        · have hjd : j < d.size := by omega
          rw [List.getElem?_take, if_pos hj, List.getElem?_map, Array.getElem?_toList, Array.getElem?_mapIdx, Array.getElem?_eq_getElem (show j < cur.size by omega)]
          simp only [Option.map_some, Nat.zero_le, true_and, Nat.zero_add, if_pos hjd, Nat.sub_zero, Array.getElem?_toList, Array.getElem?_eq_getElem hjd]
          rw [getElem!_pos d j hjd]
        · rw [List.getElem?_eq_none (by simp; omega), List.getElem?_eq_none (by simp; omega)]
    · refine ⟨rfl, rfl, rfl, by rw [hsize]; omega, fun k hk hn => ?_⟩
      show (w.heap.modify g _ ++ os)[k]? = _
      rw [Array.getElem?_append_left (by rw [Array.size_modify]; exact hk), Array.getElem?_modify, if_neg (fun h => hn h.symm)]
end
end Go.Pn
end
section
/-
  FLOATS: min, max, the other sign. Of no program.
-/
namespace Go.Pn
section
variable {P : Program} {n : Nat} {ops rest : List Oper} {N : Val → World → Prop} {Z : List PanicEntry → World → Prop} {f : Val} {w : World}
variable {d : Nat} {t t' tr ty : TypeId} {pos : String} {after : Array Edge} {x y : Operand} {a b : BitVec 64}
def fmin (a b : BitVec 64) : BitVec 64 := if ford a b = some .lt then a else if ford a b = some .gt then b else if (FloatKind.f64.decode a.toNat).neg then a else b
def fmax (a b : BitVec 64) : BitVec 64 := if ford a b = some .lt then b else if ford a b = some .gt then a else if (FloatKind.f64.decode a.toNat).neg then b else a
theorem O.minF (hx : ev n f x = fl a) (hy : ev n f y = fl b) (hn : ford a b ≠ none) (h : O P n ops rest N Z (upd f d (fl (fmin a b))) w) :
    O P n ops ({ dst := some d, op := .call { callee := .builtin .min, args := [x, y].toArray, argTypes := [t, t'].toArray }, type := tr, pos := pos, after := after, guard := .none } :: rest) N Z f w := by
  refine O.val rfl rfl ?_ h
  have h3 : (execOp (ev n f) { dst := some d, op := .call { callee := .builtin .min, args := [x, y].toArray, argTypes := [t, t'].toArray }, type := tr, pos := pos, after := after, guard := .none }).run P w = ((Builtin.min_ #[t, t'] tr #[ev n f x, ev n f y]).run P w).andThen (fun v w => .ok (.value v) w) := by
    simp [execOp, resolve, invoke, builtin]
  rw [h3, hx, hy]
  have h4 : (Builtin.min_ #[t, t'] tr #[fl a, fl b]).run P w = .ok (fl (fmin a b)) w := by
    unfold fmin
    cases ho : ford a b with
    | none => exact absurd ho hn
    | some o =>
      have ho' : FloatKind.f64.format.order a.toNat b.toNat = some o := ho
      cases o
      · simp [Builtin.min_, Builtin.min2, fl, ho']
      · simp only [Builtin.min_, Builtin.min2, fl, List.foldlM_cons, List.foldlM_nil, ho']
        by_cases hq : (FloatKind.f64.decode a.toNat).neg = true
        · simp [hq]
        · simp [hq]
      · simp [Builtin.min_, Builtin.min2, fl, ho']
  rw [h4]
  rfl
theorem O.maxF (hx : ev n f x = fl a) (hy : ev n f y = fl b) (hn : ford a b ≠ none) (h : O P n ops rest N Z (upd f d (fl (fmax a b))) w) :
    O P n ops ({ dst := some d, op := .call { callee := .builtin .max, args := [x, y].toArray, argTypes := [t, t'].toArray }, type := tr, pos := pos, after := after, guard := .none } :: rest) N Z f w := by
  refine O.val rfl rfl ?_ h
  have h3 : (execOp (ev n f) { dst := some d, op := .call { callee := .builtin .max, args := [x, y].toArray, argTypes := [t, t'].toArray }, type := tr, pos := pos, after := after, guard := .none }).run P w = ((Builtin.max_ #[t, t'] tr #[ev n f x, ev n f y]).run P w).andThen (fun v w => .ok (.value v) w) := by
    simp [execOp, resolve, invoke, builtin]
  rw [h3, hx, hy]
  have h4 : (Builtin.max_ #[t, t'] tr #[fl a, fl b]).run P w = .ok (fl (fmax a b)) w := by
    unfold fmax
    cases ho : ford a b with
    | none => exact absurd ho hn
    | some o =>
      have ho' : FloatKind.f64.format.order a.toNat b.toNat = some o := ho
      cases o
      · simp [Builtin.max_, Builtin.max2, fl, ho']
      · simp only [Builtin.max_, Builtin.max2, fl, List.foldlM_cons, List.foldlM_nil, ho']
        by_cases hq : (FloatKind.f64.decode a.toNat).neg = true
        · simp [hq]
        · simp [hq]
      · simp [Builtin.max_, Builtin.max2, fl, ho']
  rw [h4]
  rfl
def fneg (a : BitVec 64) : BitVec 64 := a ^^^ 9223372036854775808#64
theorem O.negF (hx : ev n f x = fl a) (h : O P n ops rest N Z (upd f d (fl (fneg a))) w) :
    O P n ops ({ dst := some d, op := .unOp .neg t x, type := tr, pos := pos, after := after, guard := .none } :: rest) N Z f w :=
  O.val rfl rfl (by
    have e : Op.negFloat .f64 a.toNat = (fneg a).toNat := by
      unfold Op.negFloat fneg
      rw [BitVec.toNat_xor]
      rfl
    simp only [execOp, hx, fl, Op.unary, e]
    rfl) h
end
end Go.Pn
end
section
/-
  PLAIN LAWS OF DISCOUNTS: rules in another order, zeros and NaNs of another kind. Of no program.
-/
namespace Go.Pn.Ds
open Go.Pn.Fl Go.Pn.Rnd
theorem fgt_canon (x y : BitVec 64) : fgt (canon x) (canon y) ↔ fgt x y := by
  rw [fgt_iff, fgt_iff, num_canon, num_canon]
  constructor
  · rintro ⟨a, b, c⟩
    rw [iv_canon a, iv_canon b] at c
    exact ⟨a, b, c⟩
  · rintro ⟨a, b, c⟩
    rw [iv_canon a, iv_canon b]
    exact ⟨a, b, c⟩
theorem fgt_unit {x y : BitVec 64} (hx : Unit x) (hy : Unit y) : fgt x y ↔ y.toNat < x.toNat := by
  rw [fgt_iff, iv_pos hx.pos, iv_pos hy.pos]
  constructor
  · rintro ⟨_, _, h⟩
    exact mag_le (by omega)
  · intro h
    have := mag_mono h
    exact ⟨num_pos hx.pos, num_pos hy.pos, by omega⟩
theorem num_of_unit {x : BitVec 64} (h : Unit (canon x)) : Num x := num_canon.1 (num_pos h.pos)
theorem ford_some {x y : BitVec 64} (hx : Unit (canon x)) (hy : Unit (canon y)) : ford x y ≠ none := by
  rw [ford_num (num_of_unit hx) (num_of_unit hy)]
  exact fun h => by cases h
theorem min_max {a b : BitVec 64} (ha : Unit (canon a)) (hb : Unit (canon b)) : Unit (canon (fmin a b)) ∧ Unit (canon (fmax a b)) ∧ (canon (fmin a b)).toNat ≤ (canon (fmax a b)).toNat := by
  unfold fmin fmax
  by_cases h1 : ford a b = some .lt
  · rw [if_pos h1, if_pos h1]
    have := (flt_unit ha hb).1 ((flt_canon a b).2 h1)
    exact ⟨ha, hb, by omega⟩
  · rw [if_neg h1, if_neg h1]
    have n1 : ¬ (canon a).toNat < (canon b).toNat := fun h => h1 ((flt_canon a b).1 ((flt_unit ha hb).2 h))
    by_cases h2 : ford a b = some .gt
    · rw [if_pos h2, if_pos h2]
      exact ⟨hb, ha, by omega⟩
    · rw [if_neg h2, if_neg h2]
      have n2 : ¬ (canon b).toNat < (canon a).toNat := fun h => h2 ((fgt_canon a b).1 ((fgt_unit ha hb).2 h))
      split
      · exact ⟨ha, hb, by omega⟩
      · exact ⟨hb, ha, by omega⟩
/-! rules turned -/
def zeroed (r : Rule) : Rule := ⟨r.name, r.lo, 9223372036854775808#64, r.hn⟩
def fixR (r : Rule) : Rule := if feq r.fac 0#64 then zeroed r else r
theorem canon_minus : canon 9223372036854775808#64 = 0#64 := by decide
theorem canon_fix (r : Rule) : canon (fixR r).fac = canon r.fac := by
  unfold fixR
  split
  · rename_i h
    show canon 9223372036854775808#64 = _
    rw [canon_minus]
    have hz := (feq_zero r.fac).1 h
    have hn : Num r.fac := by unfold Num; omega
    rw [canon_num hn, if_pos hz]
  · rfl
theorem lo_fix (r : Rule) : (fixR r).lo = r.lo := by unfold fixR; split <;> rfl
theorem name_fix (r : Rule) : (fixR r).name = r.name := by unfold fixR; split <;> rfl
theorem bad_fix (r : Rule) : badR (fixR r) = badR r := by unfold badR okR; rw [canon_fix, lo_fix, name_fix]
def turn (l : List Rule) (k : Nat) : List Rule := (List.range l.length).map fun i => fixR (at' l (((i + k) % l.length : Nat) : Int))
theorem turn_length (l : List Rule) (k : Nat) : (turn l k).length = l.length := by unfold turn; simp
theorem turn_take {l : List Rule} {k i : Nat} (h : i < l.length) : (turn l k).take (i + 1) = (turn l k).take i ++ [fixR (l[(i + k) % l.length]'(Nat.mod_lt _ (by omega)))] := by
  rw [List.take_succ_eq_append_getElem (by rw [turn_length]; exact h)]
  congr 2
  unfold turn
  rw [List.getElem_map, List.getElem_range, at_eq (Nat.mod_lt _ (by omega))]
theorem turn_eq {l : List Rule} {k : Nat} (hk : k ≤ l.length) : turn l k = (l.drop k ++ l.take k).map fixR := by
  unfold turn
  apply List.ext_getElem
  · simp; omega
  · intro i h1 h2
    simp only [List.length_map, List.length_range] at h1
    rw [List.getElem_map, List.getElem_range, List.getElem_map, at_eq (Nat.mod_lt _ (by omega))]
    congr 1
    by_cases hi : i < l.length - k
    · rw [List.getElem_append_left (by rw [List.length_drop]; exact hi), List.getElem_drop]
      congr 1
      rw [Nat.mod_eq_of_lt (by omega)]
      omega
    · rw [List.getElem_append_right (by rw [List.length_drop]; omega), List.getElem_take]
      congr 1
      rw [List.length_drop]
      have : i + k = (i - (l.length - k)) + l.length := by omega
      rw [this, Nat.add_mod_right, Nat.mod_eq_of_lt (by omega)]
theorem turn_perm {l : List Rule} {k : Nat} (hk : k ≤ l.length) : (turn l k).Perm (l.map fixR) := by
  rw [turn_eq hk]
  refine List.Perm.map _ ?_
  have := (List.perm_append_comm (l₁ := l.drop k) (l₂ := l.take k))
  rwa [List.take_append_drop] at this
theorem any_fix (l : List Rule) : (l.map fixR).any badR = l.any badR := by
  rw [List.any_map]
  congr 1
  funext r
  exact bad_fix r
theorem err_turn {c q : Int} {l : List Rule} {k : Nat} (hk : k ≤ l.length) : errOf c q (turn l k) = errOf c q l := by
  have h1 : (turn l k).any badR = l.any badR := by
    rw [← any_fix l, Bool.eq_iff_iff, List.any_eq_true, List.any_eq_true]
    exact ⟨fun ⟨x, hx, hb⟩ => ⟨x, (turn_perm hk).mem_iff.1 hx, hb⟩, fun ⟨x, hx, hb⟩ => ⟨x, (turn_perm hk).mem_iff.2 hx, hb⟩⟩
  unfold errOf
  rw [turn_length, h1]
theorem facs_fix (q : Int) (l : List Rule) : facs q (l.map fixR) = facs q l := by
  unfold facs
  rw [List.filter_map, List.map_map]
  have e1 : ((fun r : Rule => decide (r.lo ≤ q)) ∘ fixR) = fun r => decide (r.lo ≤ q) := by funext r; simp only [Function.comp, lo_fix]
  have e2 : ((fun r : Rule => canon r.fac) ∘ fixR) = fun r => canon r.fac := by funext r; simp only [Function.comp, canon_fix]
  rw [e1, e2]
theorem whole_turn {q : Int} {l : List Rule} {k : Nat} (hk : k ≤ l.length) : whole q (turn l k) = whole q l := by
  unfold whole
  have hp : (facs q (turn l k)).Perm (facs q l) := by
    rw [← facs_fix q l]
    unfold facs
    exact ((turn_perm hk).filter _).map _
  rw [sorted_of_perm hp]
theorem tog_turn {c q : Int} {l : List Rule} {k : Nat} (hk : k ≤ l.length) : togP c q (turn l k) = togP c q l ∧ togF c q (turn l k) = togF c q l := by
  have hw := whole_turn (q := q) hk
  constructor
  · show (if errOf c q (turn l k) = 0 then (price _ (whole q (turn l k)) : Int) else 0) = (if errOf c q l = 0 then (price _ (whole q l) : Int) else 0)
    rw [err_turn hk, hw]
  · show (if errOf c q (turn l k) = 0 then whole q (turn l k) else 0#64) = (if errOf c q l = 0 then whole q l else 0#64)
    rw [err_turn hk, hw]
/-! numbers backwards -/
def nanv (x : BitVec 8) : BitVec 64 := 18444492273895866369#64 + x.setWidth 64
def fixf (x : BitVec 8) (y : BitVec 64) : BitVec 64 := let z := if feq y 0#64 then fneg y else y; if ¬ feq z z then nanv x else z
theorem fixf1 {x : BitVec 8} {y : BitVec 64} (h : feq y 0#64) (h2 : ¬ feq (fneg y) (fneg y)) : fixf x y = nanv x := by unfold fixf; simp only [if_pos h]; rw [if_pos h2]
theorem fixf2 {x : BitVec 8} {y : BitVec 64} (h : feq y 0#64) (h2 : ¬ ¬ feq (fneg y) (fneg y)) : fixf x y = fneg y := by unfold fixf; simp only [if_pos h]; rw [if_neg h2]
theorem fixf3 {x : BitVec 8} {y : BitVec 64} (h : ¬ feq y 0#64) (h2 : ¬ feq y y) : fixf x y = nanv x := by unfold fixf; simp only [if_neg h]; rw [if_pos h2]
theorem fixf4 {x : BitVec 8} {y : BitVec 64} (h : ¬ feq y 0#64) (h2 : ¬ ¬ feq y y) : fixf x y = y := by unfold fixf; simp only [if_neg h]; rw [if_neg h2]
theorem nanv_nan (x : BitVec 8) : nanB (nanv x) := by
  unfold nanB nanv
  have hx := x.isLt
  rw [BitVec.toNat_add, BitVec.toNat_setWidth, show (18444492273895866369#64).toNat = 18444492273895866369 from rfl]
  omega
theorem rung_neg (y : BitVec 64) : rung (fneg y) = rung y := by
  unfold rung fneg
  rw [BitVec.toNat_xor, show (9223372036854775808#64).toNat = 2 ^ 63 from rfl]
  rw [show 9223372036854775808 = 2 ^ 63 from rfl, Nat.xor_mod_two_pow]
  rw [Nat.mod_self, Nat.xor_zero]
theorem canon_fixf (x : BitVec 8) (y : BitVec 64) : canon (fixf x y) = canon y := by
  by_cases h : feq y 0#64
  · have hz := (feq_zero y).1 h
    have hn : Num y := by unfold Num; omega
    have hz2 : rung (fneg y) = 0 := by rw [rung_neg]; exact hz
    have hn2 : Num (fneg y) := by unfold Num; omega
    have h2 : feq (fneg y) (fneg y) := (feq_self _).2 (by unfold Num at hn2; omega)
    rw [fixf2 h (fun q => q h2), canon_num hn2, canon_num hn, if_pos hz, if_pos hz2]
  · by_cases h2 : feq y y
    · rw [fixf4 h (fun q => q h2)]
    · rw [fixf3 h h2, canon_of_nan (nanv_nan x), canon_nan h2]
def bk2 (x : BitVec 8) (l : List (BitVec 64)) : List (BitVec 64) := l.reverse.map (fixf x)
theorem bk2_length (x : BitVec 8) (l : List (BitVec 64)) : (bk2 x l).length = l.length := by unfold bk2; simp
theorem bk2_take {x : BitVec 8} {l : List (BitVec 64)} {i : Nat} (h : i < l.length) : (bk2 x l).take (i + 1) = (bk2 x l).take i ++ [fixf x (l[l.length - 1 - i]'(by omega))] := by
  rw [List.take_succ_eq_append_getElem (by rw [bk2_length]; exact h)]
  congr 2
  unfold bk2
  rw [List.getElem_map, List.getElem_reverse]
theorem mean_bk2 (x : BitVec 8) (l : List (BitVec 64)) : meanV (bk2 x l) = meanV l := by
  refine mean_perm ?_
  unfold bk2
  rw [List.map_map]
  have e : (canon ∘ fixf x) = canon := by funext y; exact canon_fixf x y
  rw [e]
  exact (List.reverse_perm l).map _
end Go.Pn.Ds
end
section
/-
  Slices that may be written, of which nobody else knows; a cell of one of them written, whatever lies in it. No condition.
-/
namespace Go.Pn
open Go.RowKit
/-- A slice that may be written. -/
def Fre {α : Type} (G : Flat α) (ty : TypeId) (w : World) (F : Nat → Prop) (v : Value) (xs : List α) : Prop := OwnF G ty 0 w v xs ∧ ∀ k, bk v k → F k
abbrev Raw := Option Addr × Nat × Nat
section
variable {α : Type} {G : Flat α} {ty : TypeId} {B : Nat} {w w' : World} {F F' M : Nat → Prop} {v : Value} {xs : List α}
theorem Fre.nil (G : Flat α) (ty : TypeId) (w : World) (F : Nat → Prop) : Fre G ty w F (.slice none 0 0) [] := ⟨OwnF.nil _ _ _ _, fun _ h => h.elim⟩
theorem Fre.keepM (h : Fre G ty w F v xs) (e : Ext M w w') (hM : ∀ k, F k → ¬ M k) : Fre G ty w' F v xs := ⟨h.1.keepM e fun k hk => hM k (h.2 k hk), h.2⟩
theorem Fre.keep (h : Fre G ty w F v xs) (e : Le w w') : Fre G ty w' F v xs := h.keepM e fun _ _ => not_false
theorem Fre.weak (h : Fre G ty w F v xs) (hF : ∀ k, F k → F' k) : Fre G ty w F' v xs := ⟨h.1, fun k hk => hF k (h.2 k hk)⟩
theorem Fre.sl (h : Fre G ty w F v xs) : Sl G.enc w F v xs := h.1.sl.weak h.2
theorem Fre.len {q : Raw} (h : Fre G ty w F (Go.Pn.slv q) xs) : q.2.1 = xs.length := by
  rcases h.1.1.2 with ⟨hv, h0⟩ | ⟨g, cap, cur, hv, _⟩
  · rw [h0]; simp only [Go.Pn.slv, Value.slice.injEq] at hv; exact hv.2.1
  · simp only [Go.Pn.slv, Value.slice.injEq] at hv; exact hv.2.1
theorem Fre.slv (h : Fre G ty w F v xs) : ∃ a, v = Go.Pn.slv a := h.sl.slv
end
/-- Items whose marks may be written. -/
def ItemsF (tm : TypeId) (w : World) (F : Nat → Prop) (raw : List (List UInt8 × Raw)) (xs : List ItemT) : Prop :=
  raw.length = xs.length ∧ ∀ i, ∀ h : i < raw.length, ∀ h' : i < xs.length, raw[i].1 = xs[i].1 ∧ Fre markF tm w F (slv raw[i].2) xs[i].2
section
variable {tm ti : TypeId} {w w' : World} {F F' M : Nat → Prop} {raw : List (List UInt8 × Raw)} {xs : List ItemT} {v : Value}
theorem ItemsF.nil : ItemsF tm w F [] [] := ⟨rfl, fun i h => by simp at h⟩
theorem ItemsF.keepM (h : ItemsF tm w F raw xs) (e : Ext M w w') (hM : ∀ k, F k → ¬ M k) : ItemsF tm w' F raw xs := ⟨h.1, fun i h1 h2 => ⟨(h.2 i h1 h2).1, (h.2 i h1 h2).2.keepM e hM⟩⟩
theorem ItemsF.keep (h : ItemsF tm w F raw xs) (e : Le w w') : ItemsF tm w' F raw xs := h.keepM e fun _ _ => not_false
theorem ItemsF.weak (h : ItemsF tm w F raw xs) (hF : ∀ k, F k → F' k) : ItemsF tm w F' raw xs := ⟨h.1, fun i h1 h2 => ⟨(h.2 i h1 h2).1, (h.2 i h1 h2).2.weak hF⟩⟩
theorem ItemsF.items (h : ItemsF tm w F raw xs) : Items w F raw xs := ⟨h.1, fun i h1 h2 => ⟨(h.2 i h1 h2).1, (h.2 i h1 h2).2.sl⟩⟩
theorem ItemsF.snoc {a : List UInt8 × Raw} {x : ItemT} (h : ItemsF tm w F raw xs) (hn : a.1 = x.1) (hm : Fre markF tm w F (slv a.2) x.2) : ItemsF tm w F (raw ++ [a]) (xs ++ [x]) := by
  refine ⟨by simp [h.1], fun i h1 h2 => ?_⟩
  have hl := h.1
  simp only [List.length_append, List.length_cons, List.length_nil] at h1
  by_cases hi : i < raw.length
  · rw [List.getElem_append_left hi, List.getElem_append_left (by omega)]
    exact h.2 i hi (by omega)
  · have e1 : i = raw.length := by omega
    subst e1
    rw [List.getElem_append_right (by omega), List.getElem_append_right (by omega)]
    simp only [Nat.sub_self, hl, List.getElem_cons_zero]
    exact ⟨hn, hm⟩
/-- A list of items that may be written. -/
def SlI (ti tm : TypeId) (w : World) (F : Nat → Prop) (v : Value) (xs : List ItemT) : Prop := ∃ raw, Fre itemF ti w F v raw ∧ ItemsF tm w F raw xs
theorem SlI.nil (ti tm : TypeId) (w : World) (F : Nat → Prop) : SlI ti tm w F (.slice none 0 0) [] := ⟨[], Fre.nil _ _ _ _, ItemsF.nil⟩
theorem SlI.keepM (h : SlI ti tm w F v xs) (e : Ext M w w') (hM : ∀ k, F k → ¬ M k) : SlI ti tm w' F v xs := by obtain ⟨raw, h1, h2⟩ := h; exact ⟨raw, h1.keepM e hM, h2.keepM e hM⟩
theorem SlI.keep (h : SlI ti tm w F v xs) (e : Le w w') : SlI ti tm w' F v xs := h.keepM e fun _ _ => not_false
theorem SlI.weak (h : SlI ti tm w F v xs) (hF : ∀ k, F k → F' k) : SlI ti tm w F' v xs := by obtain ⟨raw, h1, h2⟩ := h; exact ⟨raw, h1.weak hF, h2.weak hF⟩
theorem SlI.sl (h : SlI ti tm w F v xs) : Sl itemE w F v xs := by obtain ⟨raw, h1, h2⟩ := h; exact h2.items.sl h1.sl
end
/-- A cell is written: what lies in a slice of this type is others of its type. -/
theorem Fre.put {α : Type} {G : Flat α} {ty : TypeId} {w : World} {F : Nat → Prop} {v : Value} {xs : List α} (h : Fre G ty w F v xs) {g i off : Nat} {cur : Array Value} {u : Value} (hg : w.heap[g]? = some (.cells cur ty (0, 0))) (ho : off < G.sz) (hset : ∀ x, ∃ z, G.e z = (G.e x).set off u) :
    ∃ xs' : List α, Fre G ty (w.setCell ⟨g, i * G.sz + off, none⟩ u) F v xs' ∧ xs'.length = xs.length ∧ (∀ {β : Type} (p : α → β), (∀ x z, G.e z = (G.e x).set off u → p z = p x) → xs'.map p = xs.map p) ∧ ∀ Q : α → Prop, (∀ x ∈ xs, Q x) → (∀ x z, G.e z = (G.e x).set off u → Q z) → ∀ z ∈ xs', Q z := by
  have same : ∀ hh : Fre G ty (w.setCell ⟨g, i * G.sz + off, none⟩ u) F v xs, _ := fun hh => (⟨xs, hh, rfl, fun _ _ => rfl, fun _ h _ => h⟩ : ∃ xs' : List α, Fre G ty (w.setCell ⟨g, i * G.sz + off, none⟩ u) F v xs' ∧ xs'.length = xs.length ∧ (∀ {β : Type} (p : α → β), (∀ x z, G.e z = (G.e x).set off u → p z = p x) → xs'.map p = xs.map p) ∧ ∀ Q : α → Prop, (∀ x ∈ xs, Q x) → (∀ x z, G.e z = (G.e x).set off u → Q z) → ∀ z ∈ xs', Q z)
  rcases h.1.1.2 with ⟨rfl, h0⟩ | ⟨g', cap, cur', rfl, hb, hg', hn, hc, hsz, ht⟩
  · obtain rfl := List.eq_nil_of_length_eq_zero h0
    exact same (Fre.nil _ _ _ _)
  by_cases hgg : g' = g
  · subst hgg
    by_cases hi : i < xs.length
    · obtain ⟨z, hz⟩ := hset xs[i]
      refine ⟨xs.set i z, ⟨h.1.put1 hi ho hz, h.2⟩, by simp, fun p hp => ?_, fun Q h1 h2 y hy => ?_⟩
      rotate_left
      · rcases List.mem_or_eq_of_mem_set hy with q | rfl
        · exact h1 _ q
        · exact h2 _ _ hz
      rw [List.map_set, hp _ _ hz]
      apply List.ext_getElem (by simp)
      intro j h1 h2
      rw [List.getElem_set]
      split
      · rename_i hij
        subst hij
        simp
      · rfl
    · refine same ⟨⟨⟨h.1.1.1, .inr ⟨g', cap, (cur'.toList.set (i * G.sz + off) u).toArray, rfl, hb, heap_set w g' (i * G.sz + off) u (cs := cur'.toList) (ty := ty) (fr := (0, 0)) (by simpa using hg'), hn, hc, by simpa using hsz, ?_⟩⟩, h.1.2⟩, h.2⟩
      have h1 : xs.length * G.sz ≤ i * G.sz := Nat.mul_le_mul_right _ (by omega)
      rw [List.take_set_of_le (by omega)]
      exact ht
  · exact same (h.keepM (Ext.set w ⟨g, i * G.sz + off, none⟩ u) (M := fun k => k = g) (w' := w.setCell ⟨g, i * G.sz + off, none⟩ u) |> fun _ => ⟨⟨⟨h.1.1.1, .inr ⟨g', cap, cur', rfl, hb, ((Ext.set w ⟨g, i * G.sz + off, none⟩ u).block g' (lt_of_some hg') hgg).trans hg', hn, hc, hsz, ht⟩⟩, h.1.2⟩, h.2⟩)
/-- A cell of another type is written. -/
theorem Fre.off {α : Type} {G : Flat α} {ty ty' : TypeId} {w : World} {F : Nat → Prop} {v : Value} {xs : List α} (h : Fre G ty w F v xs) {g k : Nat} {cur : Array Value} {u : Value} (hg : w.heap[g]? = some (.cells cur ty' (0, 0))) (hne : ty ≠ ty') : Fre G ty (w.setCell ⟨g, k, none⟩ u) F v xs := by
  rcases h.1.1.2 with ⟨rfl, h0⟩ | ⟨g', cap, cur', rfl, hb, hg', hn, hc, hsz, ht⟩
  · obtain rfl := List.eq_nil_of_length_eq_zero h0
    exact Fre.nil _ _ _ _
  have hgg : g' ≠ g := by
    rintro rfl
    rw [hg] at hg'
    cases hg'
    exact hne rfl
  exact ⟨⟨⟨h.1.1.1, .inr ⟨g', cap, cur', rfl, hb, ((Ext.set w ⟨g, k, none⟩ u).block g' (lt_of_some hg') hgg).trans hg', hn, hc, hsz, ht⟩⟩, h.1.2⟩, h.2⟩
/-- What may be written of a cart: two lists of dots, items with their marks; what they hold is open, but for names' lengths. -/
structure Stn (td ti tm : TypeId) (w : World) (F : Nat → Prop) (a1 a2 a3 : Raw) (ps : List Raw) (K : Nat) : Prop where
  d1 : ∃ xs, Fre Dt.dotF td w F (slv a1) xs
  d2 : ∃ xs, Fre Dt.dotF td w F (slv a2) xs
  d3 : ∃ raw, Fre itemF ti w F (slv a3) raw ∧ raw.map (·.2) = ps ∧ ∀ r ∈ raw, r.1.length ≤ K
  m : ∀ p ∈ ps, ∃ ms, Fre markF tm w F (slv p) ms
section
variable {td ti tm : TypeId} {w w' : World} {F M : Nat → Prop} {a1 a2 a3 : Raw} {ps : List Raw} {K : Nat}
theorem Stn.keepM (h : Stn td ti tm w F a1 a2 a3 ps K) (e : Ext M w w') (hM : ∀ k, F k → ¬ M k) : Stn td ti tm w' F a1 a2 a3 ps K := by
  obtain ⟨⟨x1, h1⟩, ⟨x2, h2⟩, ⟨x3, h3, h4, h5⟩, h6⟩ := h
  refine ⟨⟨x1, h1.keepM e hM⟩, ⟨x2, h2.keepM e hM⟩, ⟨x3, h3.keepM e hM, h4, h5⟩, fun p hp => ?_⟩
  obtain ⟨ms, h7⟩ := h6 p hp
  exact ⟨ms, h7.keepM e hM⟩
theorem Stn.keep (h : Stn td ti tm w F a1 a2 a3 ps K) (e : Le w w') : Stn td ti tm w' F a1 a2 a3 ps K := h.keepM e fun _ _ => not_false
/-- What is read of a cart that may be written. -/
theorem Stn.of {v1 v2 v3 : Value} {xs ys : List Dt.Dot} {its : List ItemT} (h1 : Fre Dt.dotF td w F v1 xs) (h2 : Fre Dt.dotF td w F v2 ys) (h3 : SlI ti tm w F v3 its) (hn : ∀ x ∈ its, x.1.length ≤ K) : ∃ a1 a2 a3 ps, v1 = slv a1 ∧ v2 = slv a2 ∧ v3 = slv a3 ∧ Stn td ti tm w F a1 a2 a3 ps K := by
  obtain ⟨a1, rfl⟩ := h1.slv
  obtain ⟨a2, rfl⟩ := h2.slv
  obtain ⟨raw, h4, h5⟩ := h3
  obtain ⟨a3, rfl⟩ := h4.slv
  refine ⟨a1, a2, a3, raw.map (·.2), rfl, rfl, rfl, ⟨_, h1⟩, ⟨_, h2⟩, ⟨raw, h4, rfl, fun r hr => ?_⟩, fun p hp => ?_⟩
  · obtain ⟨i, hi, rfl⟩ := List.getElem_of_mem hr
    rw [(h5.2 i hi (by rw [← h5.1]; exact hi)).1]
    exact hn _ (List.getElem_mem _)
  · obtain ⟨r, hr, rfl⟩ := List.mem_map.1 hp
    obtain ⟨i, hi, rfl⟩ := List.getElem_of_mem hr
    exact ⟨_, (h5.2 i hi (by rw [← h5.1]; exact hi)).2⟩
end
section
variable {P : Program} {n : Nat} {ops rest : List Oper} {N : Val → World → Prop} {Z : List PanicEntry → World → Prop} {f : Val} {w : World}
  {x y : Operand} {t tr ty : TypeId} {pos : String} {after : Array Edge} {α : Type}
end
end Go.Pn
end
section
/-
  An element's address by an index of any kind. No condition.
-/
namespace Go.Pn
open Go.RowKit
section
variable {P : Program} {n : Nat} {ops rest : List Oper} {N : Val → World → Prop} {Z : List PanicEntry → World → Prop} {f : Val} {w : World}
  {x y : Operand} {t ty : TypeId} {d : Nat} {pos : String} {after : Array Edge} {α : Type} {E : Enc α} {F : Nat → Prop}
end
end Go.Pn
end
section
/-
  Maps of integers by integers in a block of the call's own; a range over one, in whatever order. No condition.
-/
namespace Go.Pn
open Go.RowKit
def keyI : Value → Int | .int _ a => a | _ => 0
def pairOf (e : MapEntry) : Int × Int := (keyI e.key, keyI e.val)
def IntE (e : MapEntry) : Prop := e.key = .int .i64 (keyI e.key) ∧ e.val = .int .i64 (keyI e.val)
/-- What the entries of a block are. -/
structure Ents (ens : List MapEntry) (clock : Nat) (es : List (Int × Int)) : Prop where
  ints : ∀ e ∈ ens, IntE e
  pairs : ens.map pairOf = es
  old : ∀ e ∈ ens, e.born < clock
  born : (ens.map (·.born)).Nodup
  keys : (es.map (·.1)).Nodup
def MapO (w : World) (b : Nat) (es : List (Int × Int)) : Prop := ∃ (ens : Array MapEntry) (clock : Nat), w.heap[b]? = some (.map ens clock) ∧ Ents ens.toList clock es
/-- A range over the map of block b, in block r: what has come. -/
def IterO (w : World) (r b : Nat) (es done : List (Int × Int)) : Prop := r ≠ b ∧ ∃ (ens : Array MapEntry) (clock : Nat) (seen : Array Nat) (ds : List MapEntry),
  w.heap[b]? = some (.map ens clock) ∧ Ents ens.toList clock es ∧ w.heap[r]? = some (.mapIter (some b) clock seen clock) ∧ seen.toList = ds.map (·.born) ∧ (∀ e ∈ ds, e ∈ ens.toList) ∧ (ds.map (·.born)).Nodup ∧ done = ds.map pairOf
section
variable {w w' : World} {b r : Nat} {es done : List (Int × Int)} {M : Nat → Prop}
theorem MapO.lt (h : MapO w b es) : b < w.heap.size := by obtain ⟨ens, clock, h1, _⟩ := h; exact lt_of_some h1
theorem MapO.keepM (h : MapO w b es) (e : Ext M w w') (hM : ¬ M b) : MapO w' b es := by
  have hl := h.lt
  obtain ⟨ens, clock, h1, h2⟩ := h
  exact ⟨ens, clock, (e.block b hl hM).trans h1, h2⟩
theorem MapO.keep (h : MapO w b es) (e : Le w w') : MapO w' b es := h.keepM e not_false
theorem MapO.keys (h : MapO w b es) : (es.map (·.1)).Nodup := by obtain ⟨ens, clock, _, h2⟩ := h; exact h2.keys
theorem IterO.lt (h : IterO w r b es done) : r < w.heap.size ∧ b < w.heap.size := by
  obtain ⟨_, ens, clock, seen, ds, h1, _, h3, _⟩ := h
  exact ⟨lt_of_some h3, lt_of_some h1⟩
theorem IterO.keepM (h : IterO w r b es done) (e : Ext M w w') (hM : ∀ k, (k = r ∨ k = b) → ¬ M k) : IterO w' r b es done := by
  have hl := h.lt
  obtain ⟨hn, ens, clock, seen, ds, h1, h2, h3, h4⟩ := h
  exact ⟨hn, ens, clock, seen, ds, (e.block b hl.2 (hM b (.inr rfl))).trans h1, h2, (e.block r hl.1 (hM r (.inl rfl))).trans h3, h4⟩
theorem IterO.keep (h : IterO w r b es done) (e : Le w w') : IterO w' r b es done := h.keepM e fun _ _ => not_false
theorem IterO.map (h : IterO w r b es done) : MapO w b es := by
  obtain ⟨hn, ens, clock, seen, ds, h1, h2, _⟩ := h
  exact ⟨ens, clock, h1, h2⟩
end
section
variable {P : Program} {n : Nat} {ops rest : List Oper} {N : Val → World → Prop} {Z : List PanicEntry → World → Prop} {f : Val} {w : World}
  {x y z : Operand} {t tr kt et : TypeId} {d : Nat} {pos : String} {after : Array Edge} {b r : Nat} {es done : List (Int × Int)} {k v : Int}
end
section
variable {P : Program} {n : Nat} {ops rest : List Oper} {N : Val → World → Prop} {Z : List PanicEntry → World → Prop} {f : Val} {w : World}
  {d : Nat} {x y : Operand} {t t' tr : TypeId} {pos : String} {after : Array Edge}
theorem O.maxI {a b : Int} (hx : ev n f x = i64 a) (hy : ev n f y = i64 b) (h : O P n ops rest N Z (upd f d (i64 (max a b))) w) :
    O P n ops ({ dst := some d, op := .call { callee := .builtin .max, args := [x, y].toArray, argTypes := [t, t'].toArray }, type := tr, pos := pos, after := after, guard := .none } :: rest) N Z f w := by
  refine O.val rfl rfl ?_ h
  have e : (if a < b then b else a) = max a b := by rw [Int.max_def]; split <;> split <;> omega
  have h3 : (execOp (ev n f) { dst := some d, op := .call { callee := .builtin .max, args := [x, y].toArray, argTypes := [t, t'].toArray }, type := tr, pos := pos, after := after, guard := .none }).run P w = ((Builtin.max_ #[t, t'] tr #[ev n f x, ev n f y]).run P w).andThen (fun v w => .ok (.value v) w) := by
    simp [execOp, resolve, invoke, builtin]
  rw [h3, hx, hy]
  have h4 : (Builtin.max_ #[t, t'] tr #[i64 a, i64 b]).run P w = .ok (i64 (max a b)) w := by
    simp [Builtin.max_, Builtin.max2, i64, e]
  rw [h4]
  rfl
end
end Go.Pn
end
