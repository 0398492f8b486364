/-
  Plain laws of check sums: no program in sight. No condition.
-/
import Derived.Test.YtcfmdkmpjmblpaaDoorText
namespace Go.Pn.Crc
theorem steps_append (n : BitVec 32) (a b : List UInt8) : steps n (a ++ b) = steps (steps n a) b := by simp [steps, List.foldl_append]
theorem update_append (s : BitVec 32) (a b : List UInt8) : update (update s a) b = update s (a ++ b) := by
  unfold update
  rw [BitVec.not_not, steps_append]
theorem step_xor (n m : BitVec 32) (x : BitVec 8) : step (n ^^^ m) x = step n x ^^^ bits 8 m := by
  unfold step
  rw [← bits_xor]
  congr 1
  rw [BitVec.xor_assoc, BitVec.xor_comm m, ← BitVec.xor_assoc]
theorem step_zero (m : BitVec 32) : step m 0#8 = bits 8 m := by
  unfold step
  congr 1
  simp
theorem zeros_front (k : Nat) (m : BitVec 32) : zeros k (step m 0#8) = zeros (k + 1) m := by
  induction k with
  | zero => rfl
  | succ k ih => show step (zeros k (step m 0#8)) 0#8 = step (zeros (k + 1) m) 0#8; rw [ih]
theorem steps_xor (l : List UInt8) (n m : BitVec 32) : steps (n ^^^ m) l = steps n l ^^^ zeros l.length m := by
  induction l generalizing n m with
  | nil => rfl
  | cons x l ih =>
    show steps (step (n ^^^ m) x.toBitVec) l = steps (step n x.toBitVec) l ^^^ _
    rw [step_xor, ih, ← step_zero, zeros_front]
    rfl
/-- What Join does. -/
theorem update_join (s : BitVec 32) (l : List UInt8) : update s l = zeros l.length s ^^^ update 0#32 l := by
  unfold update
  have e : ~~~ s = ~~~ 0#32 ^^^ s := by 
    have h1 : ~~~ 0#32 = BitVec.allOnes 32 := by decide
    rw [h1, BitVec.allOnes_xor]
  rw [e, steps_xor]
  ext i
  simp
  cases (steps 4294967295#32 l)[i] <;> cases (zeros l.length s)[i] <;> rfl
theorem sum_join (a b : List UInt8) : update 0#32 (a ++ b) = zeros b.length (update 0#32 a) ^^^ update 0#32 b := by
  rw [← update_append, update_join]
theorem bit_zero {d : BitVec 32} (h : bit d = 0#32) : d = 0#32 := by
  rw [bit_eq] at h
  by_cases h0 : d.getLsbD 0 = true
  · rw [if_pos h0] at h
    have h1 := congrArg (fun x : BitVec 32 => x.getLsbD 31) h
    simp at h1
  · rw [if_neg h0] at h
    ext i hi
    by_cases hi0 : i = 0
    · subst hi0
      simpa using h0
    · have h1 := congrArg (fun x : BitVec 32 => x.getLsbD (i - 1)) h
      simp at h1
      rw [show 1 + (i - 1) = i from by omega] at h1
      simpa [BitVec.getLsbD_eq_getElem hi] using h1
theorem bits_zero {k : Nat} {d : BitVec 32} (h : bits k d = 0#32) : d = 0#32 := by
  induction k generalizing d with
  | zero => exact h
  | succ k ih => first | exact ih (bit_zero h) | exact bit_zero (ih h)
theorem zeros_zero {k : Nat} {d : BitVec 32} (h : zeros k d = 0#32) : d = 0#32 := by
  induction k with
  | zero => exact h
  | succ k ih => apply ih; apply bits_zero (k := 8); rw [← step_zero]; exact h
theorem xor_cancel {a b : BitVec 32} (h : a ^^^ b = 0#32) : a = b := by
  have : a ^^^ b ^^^ b = 0#32 ^^^ b := by rw [h]
  simpa [BitVec.xor_assoc] using this
theorem steps_inj {l : List UInt8} {n m : BitVec 32} (h : steps n l = steps m l) : n = m := by
  have e : n = m ^^^ (n ^^^ m) := by rw [BitVec.xor_comm n, ← BitVec.xor_assoc]; simp
  rw [e, steps_xor] at h
  have h2 : zeros l.length (n ^^^ m) = 0#32 := by
    have : steps m l ^^^ (steps m l ^^^ zeros l.length (n ^^^ m)) = steps m l ^^^ steps m l := by rw [h]
    rw [← BitVec.xor_assoc] at this
    simpa using this
  exact xor_cancel (zeros_zero h2)
theorem step_inj {n : BitVec 32} {x y : BitVec 8} (h : step n x = step n y) : x = y := by
  unfold step at h
  have h1 : bits 8 ((n ^^^ x.setWidth 32) ^^^ (n ^^^ y.setWidth 32)) = 0#32 := by rw [bits_xor, h]; simp
  have h2 := xor_cancel (bits_zero h1)
  have h3 : n ^^^ (n ^^^ x.setWidth 32) = n ^^^ (n ^^^ y.setWidth 32) := by rw [h2]
  rw [← BitVec.xor_assoc, ← BitVec.xor_assoc] at h3
  simp at h3
  have h4 := congrArg BitVec.toNat h3
  apply BitVec.eq_of_toNat_eq
  have hx := x.isLt
  have hy := y.isLt
  simp at h4
  omega
/-- One byte changed: another check sum. -/
theorem update_set (s : BitVec 32) {l : List UInt8} {i : Nat} (h : i < l.length) {y : UInt8} (hy : y ≠ l[i]) : update s (l.set i y) ≠ update s l := by
  intro h1
  unfold update at h1
  have h2 : steps (~~~ s) (l.set i y) = steps (~~~ s) l := by
    have := congrArg (fun x => ~~~ x) h1
    simpa using this
  have e1 : l.set i y = l.take i ++ y :: l.drop (i + 1) := List.set_eq_take_append_cons_drop ▸ (by simp [h])
  have e2 : l = l.take i ++ l[i] :: l.drop (i + 1) := by rw [← List.drop_eq_getElem_cons h, List.take_append_drop]
  rw [e1] at h2
  rw [show steps (~~~ s) l = steps (~~~ s) (l.take i ++ l[i] :: l.drop (i + 1)) from by rw [← e2]] at h2
  rw [steps_append, steps_append] at h2
  have h3 : step (steps (~~~ s) (l.take i)) y.toBitVec = step (steps (~~~ s) (l.take i)) l[i].toBitVec := steps_inj (l := l.drop (i + 1)) h2
  exact hy (UInt8.toBitVec_inj.1 (step_inj h3))
theorem add_ne {x y : UInt8} (h : y.toBitVec ≠ 0#8) : x + y ≠ x := by
  intro h1
  apply h
  have h2 := congrArg UInt8.toBitVec h1
  rw [UInt8.toBitVec_add] at h2
  have h3 := congrArg BitVec.toNat h2
  rw [BitVec.toNat_add] at h3
  apply BitVec.eq_of_toNat_eq
  have := y.toBitVec.isLt
  have := x.toBitVec.isLt
  show y.toBitVec.toNat = 0
  omega
end Go.Pn.Crc
