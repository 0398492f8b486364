/-
  Plain laws of the order of floats by their bits: no program in sight. No condition.
-/
import Derived.Test.YtbadfphdniliaaaDoorPlain
namespace Go.Pn.Fl
open Ieee
theorem fSign : Format.signWeight FloatKind.f64.format = 9223372036854775808 := by decide
theorem fInf : Format.infRung FloatKind.f64.format = 9218868437227405312 := by decide
theorem fBin : Format.binade FloatKind.f64.format = 4503599627370496 := by decide
def sg (x : BitVec 64) : Bool := x.toNat / 9223372036854775808 % 2 == 1
def rung (x : BitVec 64) : Nat := x.toNat % 9223372036854775808
theorem read_sub {x : BitVec 64} (h : rung x < 4503599627370496) : FloatKind.f64.format.read x.toNat = .number (sg x) (rung x) (Format.leastPlace FloatKind.f64.format) := by
  unfold Format.read
  simp only [fSign, fBin]
  have h' : x.toNat % 9223372036854775808 < 4503599627370496 := h
  rw [if_pos h']
  rfl
theorem read_norm {x : BitVec 64} (h : ¬ rung x < 4503599627370496) (h2 : rung x < 9218868437227405312) :
    FloatKind.f64.format.read x.toNat = .number (sg x) (4503599627370496 + rung x % 4503599627370496) (Format.leastPlace FloatKind.f64.format + (rung x / 4503599627370496 - 1 : Nat)) := by
  unfold Format.read
  simp only [fSign, fBin, fInf]
  have h' : ¬ x.toNat % 9223372036854775808 < 4503599627370496 := h
  have h2' : x.toNat % 9223372036854775808 < 9218868437227405312 := h2
  rw [if_neg h', if_pos h2']
  rfl
theorem read_inf {x : BitVec 64} (h2 : rung x = 9218868437227405312) : FloatKind.f64.format.read x.toNat = .infinity (sg x) := by
  unfold Format.read
  simp only [fSign, fBin, fInf]
  have e : x.toNat % 9223372036854775808 = 9218868437227405312 := h2
  rw [if_neg (by omega), if_neg (by omega), if_pos e]
  rfl
theorem read_nan {x : BitVec 64} (h2 : rung x > 9218868437227405312) : FloatKind.f64.format.read x.toNat = .nan (sg x) (rung x - 9218868437227405312) := by
  unfold Format.read
  simp only [fSign, fBin, fInf]
  have e : x.toNat % 9223372036854775808 > 9218868437227405312 := h2
  rw [if_neg (by omega), if_neg (by omega), if_neg (by omega)]
  rfl
/-- What a word is. -/
theorem read_any (x : BitVec 64) : (rung x > 9218868437227405312 ∧ ∃ s t, FloatKind.f64.format.read x.toNat = .nan s t) ∨ (rung x = 9218868437227405312 ∧ FloatKind.f64.format.read x.toNat = .infinity (sg x)) ∨
    (rung x < 9218868437227405312 ∧ ∃ m p, FloatKind.f64.format.read x.toNat = .number (sg x) m p ∧ (m = 0 ↔ rung x = 0)) := by
  rcases Nat.lt_trichotomy (rung x) 9218868437227405312 with h | h | h
  · right; right
    refine ⟨h, ?_⟩
    by_cases h2 : rung x < 4503599627370496
    · exact ⟨_, _, read_sub h2, Iff.rfl⟩
    · exact ⟨_, _, read_norm h2 h, by omega⟩
  · exact .inr (.inl ⟨h, read_inf h⟩)
  · exact .inl ⟨h, _, _, read_nan h⟩
theorem feq_self (x : BitVec 64) : feq x x ↔ ¬ rung x > 9218868437227405312 := by
  unfold feq ford Format.order
  rcases read_any x with ⟨h, s, t, e⟩ | ⟨h, e⟩ | ⟨h, m, p, e, _⟩ <;> rw [e] <;> simp [Datum.order, h, Nat.le_of_lt] <;> omega
theorem feq_zero (x : BitVec 64) : feq x 0#64 ↔ rung x = 0 := by
  have e0 : FloatKind.f64.format.read (0#64).toNat = .number false 0 (Format.leastPlace FloatKind.f64.format) := by decide
  unfold feq ford Format.order
  rw [e0]
  rcases read_any x with ⟨h, s, t, e⟩ | ⟨h, e⟩ | ⟨h, m, p, e, hm⟩ <;> rw [e]
  · simp [Datum.order]; omega
  · cases sg x <;> simp [Datum.order] <;> omega
  · rw [← hm]
    have hc : ∀ a b : Int, compare a b = .eq ↔ a = b := fun a b => Std.LawfulEqOrd.compare_eq_iff_eq
    simp only [Datum.order, Option.some.injEq, hc, signed]
    generalize (p - min p (Format.leastPlace FloatKind.f64.format)).toNat = i
    generalize (Format.leastPlace FloatKind.f64.format - min p (Format.leastPlace FloatKind.f64.format)).toNat = j
    have hp : 0 < 2 ^ i := Nat.pow_pos (by decide)
    have e1 : m <<< i = m * 2 ^ i := Nat.shiftLeft_eq _ _
    have e2 : (0 : Nat) <<< j = 0 := by rw [Nat.shiftLeft_eq, Nat.zero_mul]
    rw [e1, e2]
    constructor
    · intro h0
      have h1 : m * 2 ^ i = 0 := by
        cases sg x
        · simp only [Bool.false_eq_true, if_false] at h0; omega
        · simp only [Bool.false_eq_true, if_false] at h0; omega
      rcases Nat.mul_eq_zero.1 h1 with h | h
      · exact h
      · omega
    · rintro rfl
      cases sg x <;> simp
theorem rung_mod (x : BitVec 64) : (x % 9223372036854775808#64).toNat = rung x := by rw [BitVec.toNat_umod]; rfl
theorem canon_nan {x : BitVec 64} (h : ¬ feq x x) : canon x = 9221120237041090560#64 := by
  rw [feq_self] at h
  unfold canon
  rw [if_pos]
  show _ < _
  rw [BitVec.lt_def, rung_mod]
  show 9218868437227405312 < _
  omega
theorem canon_rest {x : BitVec 64} (h : ¬ ¬ feq x x) : ¬ (x % 9223372036854775808#64 > 9218868437227405312#64) := by
  rw [feq_self] at h
  intro h2
  have h3 : (9218868437227405312#64).toNat < (x % 9223372036854775808#64).toNat := h2
  rw [rung_mod] at h3
  have h4 : (9218868437227405312#64).toNat = 9218868437227405312 := rfl
  omega
theorem canon_zero {x : BitVec 64} (h : ¬ ¬ feq x x) (h2 : feq x 0#64) : canon x = 0#64 := by
  unfold canon
  rw [if_neg (canon_rest h), if_pos]
  apply BitVec.eq_of_toNat_eq
  rw [rung_mod, (feq_zero x).1 h2]
  rfl
theorem canon_else {x : BitVec 64} (h : ¬ ¬ feq x x) (h2 : ¬ feq x 0#64) : canon x = x := by
  unfold canon
  rw [if_neg (canon_rest h), if_neg]
  intro h3
  apply h2
  rw [feq_zero, ← rung_mod, h3]
  rfl
end Go.Pn.Fl
