/-
  Plain laws of sorted lists of floats: no program in sight. No condition.
-/
import Derived.Test.YtbadfphdniliaaaDoorOrd
namespace Go.Pn.Fl
def ins (o : List (BitVec 64)) (x : BitVec 64) : List (BitVec 64) := o.takeWhile (fun y => decide (key y ≤ key x)) ++ x :: o.dropWhile (fun y => decide (key y ≤ key x))
/-- A list in the order of keys. -/
def sorted (l : List (BitVec 64)) : List (BitVec 64) := l.foldl ins []
theorem ins_length (o : List (BitVec 64)) (x : BitVec 64) : (ins o x).length = o.length + 1 := by
  unfold ins
  have h := congrArg List.length (List.takeWhile_append_dropWhile (p := fun y => decide (key y ≤ key x)) (l := o))
  rw [List.length_append] at h
  rw [List.length_append, List.length_cons]
  omega
theorem sorted_length (l : List (BitVec 64)) : (sorted l).length = l.length := by
  unfold sorted
  suffices h : ∀ o, (l.foldl ins o).length = o.length + l.length by simpa using h []
  induction l with
  | nil => simp
  | cons x l ih => intro o; rw [List.foldl_cons, ih, ins_length, List.length_cons]; omega
theorem sorted_take {l : List (BitVec 64)} {k : Nat} (h : k < l.length) : sorted (l.take (k + 1)) = ins (sorted (l.take k)) l[k] := by
  unfold sorted
  rw [List.take_succ_eq_append_getElem h, List.foldl_append]
  rfl
theorem ins_at {o : List (BitVec 64)} {x : BitVec 64} {j : Nat} (hj : j ≤ o.length) (hall : ∀ y ∈ o.take j, key y ≤ key x) (hend : j = o.length ∨ ∃ h : j < o.length, ¬ key o[j] ≤ key x) :
    o.take j ++ x :: o.drop j = ins o x := by
  have h1 : o.takeWhile (fun y => decide (key y ≤ key x)) = o.take j ∧ o.dropWhile (fun y => decide (key y ≤ key x)) = o.drop j := by
    induction o generalizing j with
    | nil => simp at hj; subst hj; simp
    | cons y o ih =>
      cases j with
      | zero =>
        rcases hend with h | ⟨_, h⟩
        · simp at h
        · simp only [List.getElem_cons_zero] at h
          simp [h]
      | succ j =>
        have hy : key y ≤ key x := hall y (by simp)
        have := ih (j := j) (by simpa using hj) (fun z hz => hall z (by simp [hz])) (by
          rcases hend with h | ⟨h, h2⟩
          · left; simpa using h
          · right; exact ⟨by simpa using h, by simpa using h2⟩)
        simp [hy, this.1, this.2]
  unfold ins
  rw [h1.1, h1.2]
/-- What a sum of floats, one behind the other, may be. -/
inductive Sum : List (BitVec 64) → BitVec 64 → Prop
  | nil : Sum [] 0#64
  | snoc {l : List (BitVec 64)} {s x r : BitVec 64} : Sum l s → FAdd s x r → Sum (l ++ [x]) r
theorem add_nan {s x r : BitVec 64} (h : nanB s) (ha : FAdd s x r) : nanB r := by
  unfold FAdd at ha
  have e : FloatKind.f64.format.add s.toNat x.toNat = none := by
    unfold Ieee.Format.add
    rw [read_nan (x := s) h]
    rfl
  rw [e] at ha
  exact ha
theorem add_same {s x r r' : BitVec 64} (h : FAdd s x r) (h' : FAdd s x r') : r = r' ∨ (nanB r ∧ nanB r') := by
  unfold FAdd at h h'
  cases e : FloatKind.f64.format.add s.toNat x.toNat with
  | none => rw [e] at h h'; exact .inr ⟨h, h'⟩
  | some z => rw [e] at h h'; exact .inl (BitVec.eq_of_toNat_eq (h.trans h'.symm))
theorem sum_same {l : List (BitVec 64)} {r : BitVec 64} (h : Sum l r) : ∀ {r'}, Sum l r' → r = r' ∨ (nanB r ∧ nanB r') := by
  induction h with
  | nil =>
    intro r' h'
    generalize hl : ([] : List (BitVec 64)) = l' at h'
    cases h' with
    | nil => exact .inl rfl
    | snoc _ _ => simp at hl
  | @snoc l s x r hs ha ih =>
    intro r' h'
    generalize hl : l ++ [x] = l' at h'
    cases h' with
    | nil => simp at hl
    | @snoc l2 s2 x2 _ hs2 ha2 =>
      obtain ⟨rfl, hx⟩ := List.append_inj' hl rfl
      obtain rfl : x = x2 := by simpa using hx
      rcases ih hs2 with rfl | ⟨h1, h2⟩
      · exact add_same ha ha2
      · exact .inr ⟨add_nan h1 ha, add_nan h2 ha2⟩
theorem canon_of_nan {x : BitVec 64} (h : nanB x) : canon x = 9221120237041090560#64 := by
  apply canon_nan
  rw [feq_self]
  intro h2
  exact h2 h
/-- The canonical sum is one. -/
theorem sum_canon {l : List (BitVec 64)} {r r' : BitVec 64} (h : Sum l r) (h' : Sum l r') : canon r = canon r' := by
  rcases sum_same h h' with rfl | ⟨h1, h2⟩
  · rfl
  · rw [canon_of_nan h1, canon_of_nan h2]
end Go.Pn.Fl
