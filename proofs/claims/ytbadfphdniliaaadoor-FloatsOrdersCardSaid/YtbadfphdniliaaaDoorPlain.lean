/-
  Plain laws of floats as their bits: no program in sight. No condition.
-/
import Derived.Test.YtbadfphdniliaaaDoorFw7
namespace Go.Pn.Fl
def key (x : BitVec 64) : BitVec 64 := if x < 9223372036854775808#64 then 9223372036854775808#64 + x else 18446744073709551615#64 - x
def off (x : BitVec 64) : BitVec 64 := if 9223372036854775808#64 ≤ x then x - 9223372036854775808#64 else 18446744073709551615#64 - x
theorem high_toNat : (9223372036854775808#64).toNat = 2 ^ 63 := rfl
theorem and_high (x : BitVec 64) : x &&& 9223372036854775808#64 ≠ 0#64 ↔ ¬ x < 9223372036854775808#64 := by
  rw [BitVec.lt_def, high_toNat, Ne, ← BitVec.toNat_inj, BitVec.toNat_and, high_toNat]
  have hx := x.isLt
  have e0 : (0#64).toNat = 0 := rfl
  rw [e0]
  by_cases h : x.toNat < 2 ^ 63
  · have h1 : x.toNat &&& 2 ^ 63 = 0 := by
      apply Nat.eq_of_testBit_eq
      intro i
      rw [Nat.testBit_and, Nat.testBit_two_pow, Nat.zero_testBit]
      by_cases hi : 63 = i
      · subst hi
        rw [Nat.testBit_lt_two_pow h]
        rfl
      · simp [hi]
    simp only [h1, h, not_true]
  · have ht : x.toNat.testBit 63 = true := by
      rw [Nat.testBit_eq_decide_div_mod_eq]
      exact decide_eq_true (by omega)
    have h1 : ¬ x.toNat &&& 2 ^ 63 = 0 := by
      intro h2
      have h3 := congrArg (fun n => n.testBit 63) h2
      simp only [Nat.testBit_and, Nat.testBit_two_pow_self, ht, Nat.zero_testBit] at h3
      cases h3
    simp only [h1, h, not_false_eq_true]
theorem not_eq (x : BitVec 64) : ~~~ x = 18446744073709551615#64 - x := by
  apply BitVec.eq_of_toNat_eq
  rw [BitVec.toNat_not, BitVec.toNat_sub]
  have hx := x.isLt
  have e : (18446744073709551615#64).toNat = 18446744073709551615 := rfl
  rw [e]
  omega
theorem or_high {x : BitVec 64} (h : x < 9223372036854775808#64) : x ||| 9223372036854775808#64 = 9223372036854775808#64 + x := by
  rw [BitVec.lt_def, high_toNat] at h
  apply BitVec.eq_of_toNat_eq
  have h1 := Nat.two_pow_add_eq_or_of_lt h 1
  rw [Nat.mul_one] at h1
  rw [BitVec.toNat_or, BitVec.toNat_add, high_toNat, Nat.or_comm, ← h1]
  omega
theorem key_hi {x : BitVec 64} (h : x &&& 9223372036854775808#64 ≠ 0#64) : ~~~ x = key x := by unfold key; rw [if_neg ((and_high x).1 h), not_eq]
theorem key_lo {x : BitVec 64} (h : ¬ x &&& 9223372036854775808#64 ≠ 0#64) : x ||| 9223372036854775808#64 = key x := by
  have h1 : x < 9223372036854775808#64 := Decidable.of_not_not (fun h2 => h ((and_high x).2 h2))
  unfold key; rw [if_pos h1, or_high h1]
theorem andNot_high {x : BitVec 64} (h : ¬ x < 9223372036854775808#64) : x &&& ~~~ 9223372036854775808#64 = x - 9223372036854775808#64 := by
  rw [BitVec.lt_def, high_toNat] at h
  apply BitVec.eq_of_toNat_eq
  have e : (~~~ 9223372036854775808#64).toNat = 2 ^ 63 - 1 := by decide
  rw [BitVec.toNat_and, e, Nat.and_two_pow_sub_one_eq_mod, BitVec.toNat_sub, high_toNat]
  have := x.isLt
  omega
theorem off_hi {x : BitVec 64} (h : x &&& 9223372036854775808#64 ≠ 0#64) : x &&& ~~~ 9223372036854775808#64 = off x := by
  have h1 := (and_high x).1 h
  have h2 : 9223372036854775808#64 ≤ x := by rw [BitVec.lt_def] at h1; rw [BitVec.le_def]; omega
  unfold off; rw [if_pos h2, andNot_high h1]
theorem off_lo {x : BitVec 64} (h : ¬ x &&& 9223372036854775808#64 ≠ 0#64) : ~~~ x = off x := by
  have h1 : x < 9223372036854775808#64 := Decidable.of_not_not (fun h2 => h ((and_high x).2 h2))
  have h2 : ¬ 9223372036854775808#64 ≤ x := by rw [BitVec.lt_def] at h1; rw [BitVec.le_def]; omega
  unfold off; rw [if_neg h2, not_eq]
/-- How two keys stand to each other. -/
def ucmp (a b : BitVec 64) : Int := if a < b then -1 else if a > b then 1 else 0
def cmp (a b : BitVec 64) : Int := ucmp (key a) (key b)
/-- The canonical value. -/
def canon (x : BitVec 64) : BitVec 64 := if x % 9223372036854775808#64 > 9218868437227405312#64 then 9221120237041090560#64 else if x % 9223372036854775808#64 = 0#64 then 0#64 else x
end Go.Pn.Fl
