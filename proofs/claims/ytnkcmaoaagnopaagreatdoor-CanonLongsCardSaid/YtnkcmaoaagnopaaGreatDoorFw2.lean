/-
  Plain operations on numbers, Bools and strings, a rule each. No condition beyond what each rule asks.
-/
import Derived.Test.YtnkcmaoaagnopaaGreatDoorFw1
namespace Go.Pn
open Go.RowKit

/-- An int. -/
abbrev i64 (n : Int) : Value := .int .i64 n
/-- It is an int's number. -/
def InI (n : Int) : Prop := -9223372036854775808 ≤ n ∧ n ≤ 9223372036854775807
/-- The string with some bytes. -/
def str (l : List UInt8) : Value := .string ⟨l.toArray⟩

theorem wrap_in {n : Int} (h : InI n) : IntKind.i64.wrap n = n := by
  unfold InI at h
  have e : IntKind.i64.wrap n = if (true && decide (n % 18446744073709551616 ≥ 9223372036854775808)) = true then n % 18446744073709551616 - 18446744073709551616 else n % 18446744073709551616 := rfl
  rw [e]
  by_cases h0 : 0 ≤ n
  · rw [Int.emod_eq_of_lt h0 (by omega)]
    simp; omega
  · have : n % 18446744073709551616 = n + 18446744073709551616 := by omega
    rw [this]
    simp; omega

theorem ofInt_nat {m : Nat} (x : BitVec m) : BitVec.ofInt m (x.toNat : Int) = x := by
  apply BitVec.eq_of_toNat_eq
  rw [BitVec.toNat_ofInt]
  have h := x.isLt
  have : ((x.toNat : Int) % ((2 ^ m : Nat) : Int)).toNat = x.toNat := by
    rw [Int.emod_eq_of_lt (by omega) (by exact_mod_cast h)]; omega
  exact this
theorem wrap_u {k : IntKind} {m : Nat} (hk : k.bits = m) (hs : k.signed = false) (n : Int) : k.wrap n = ((BitVec.ofInt m n).toNat : Int) := by
  subst hk
  simp only [IntKind.wrap, hs, Bool.false_and, Bool.false_eq_true, if_false, BitVec.toNat_ofInt]
  have h2 : (0 : Int) < 2 ^ k.bits := Int.pow_pos (by decide)
  have := Int.emod_nonneg n (Int.ne_of_gt h2)
  have e : ((2 ^ k.bits : Nat) : Int) = (2 : Int) ^ k.bits := by norm_cast
  rw [e]; omega
theorem ofInt_sub' {m : Nat} (a b : Int) : BitVec.ofInt m (a - b) = BitVec.ofInt m a - BitVec.ofInt m b := by
  rw [Int.sub_eq_add_neg, BitVec.ofInt_add, BitVec.ofInt_neg, BitVec.sub_eq_add_neg]
theorem run_okv (P : Program) (w : World) (v : Value) : ((do pure (Next.value (← (pure v : Sem Value)))) : Sem Next).run P w = .ok (.value v) w := rfl
theorem wrap_u_nat {k : IntKind} {m : Nat} (hk : k.bits = m) (hs : k.signed = false) (x : BitVec m) : k.wrap (x.toNat : Int) = (x.toNat : Int) := by
  rw [wrap_u hk hs, ofInt_nat]

section
variable {P : Program} {n : Nat} {ops rest : List Oper} {N : Val → World → Prop} {Z : List PanicEntry → World → Prop} {f : Val} {w : World}
  {d : Nat} {x y : Operand} {t t' ty : TypeId} {pos : String} {after : Array Edge}

/-! #### int -/
section
variable {a b : Int}
theorem O.addI (hx : ev n f x = i64 a) (hy : ev n f y = i64 b) (hb : InI (a + b)) (h : O P n ops rest N Z (upd f d (i64 (a + b))) w) :
    O P n ops ({ dst := some d, op := .binOp .add t x y t', type := ty, pos := pos, after := after, guard := .none } :: rest) N Z f w :=
  O.val rfl rfl (by simp [execOp, hx, hy, eqGuard, binOp, Op.intArith, wrap_in hb]) h
theorem O.subI (hx : ev n f x = i64 a) (hy : ev n f y = i64 b) (hb : InI (a - b)) (h : O P n ops rest N Z (upd f d (i64 (a - b))) w) :
    O P n ops ({ dst := some d, op := .binOp .sub t x y t', type := ty, pos := pos, after := after, guard := .none } :: rest) N Z f w :=
  O.val rfl rfl (by simp [execOp, hx, hy, eqGuard, binOp, Op.intArith, wrap_in hb]) h
theorem O.mulI (hx : ev n f x = i64 a) (hy : ev n f y = i64 b) (hb : InI (a * b)) (h : O P n ops rest N Z (upd f d (i64 (a * b))) w) :
    O P n ops ({ dst := some d, op := .binOp .mul t x y t', type := ty, pos := pos, after := after, guard := .none } :: rest) N Z f w :=
  O.val rfl rfl (by simp [execOp, hx, hy, eqGuard, binOp, Op.intArith, wrap_in hb]) h
theorem O.addW (hx : ev n f x = i64 a) (hy : ev n f y = i64 b) (h : O P n ops rest N Z (upd f d (i64 (IntKind.i64.wrap (a + b)))) w) :
    O P n ops ({ dst := some d, op := .binOp .add t x y t', type := ty, pos := pos, after := after, guard := .none } :: rest) N Z f w :=
  O.val rfl rfl (by simp [execOp, hx, hy, eqGuard, binOp, Op.intArith]) h
theorem O.subW (hx : ev n f x = i64 a) (hy : ev n f y = i64 b) (h : O P n ops rest N Z (upd f d (i64 (IntKind.i64.wrap (a - b)))) w) :
    O P n ops ({ dst := some d, op := .binOp .sub t x y t', type := ty, pos := pos, after := after, guard := .none } :: rest) N Z f w :=
  O.val rfl rfl (by simp [execOp, hx, hy, eqGuard, binOp, Op.intArith]) h
theorem O.mulW (hx : ev n f x = i64 a) (hy : ev n f y = i64 b) (h : O P n ops rest N Z (upd f d (i64 (IntKind.i64.wrap (a * b)))) w) :
    O P n ops ({ dst := some d, op := .binOp .mul t x y t', type := ty, pos := pos, after := after, guard := .none } :: rest) N Z f w :=
  O.val rfl rfl (by simp [execOp, hx, hy, eqGuard, binOp, Op.intArith]) h
theorem tdiv_nn {a b : Int} (ha : 0 ≤ a) (_ : 0 < b) : a.tdiv b = a / b := Int.tdiv_eq_ediv_of_nonneg ha
theorem O.quoI (hx : ev n f x = i64 a) (hy : ev n f y = i64 b) (hb : 0 ≤ a ∧ 0 < b ∧ a ≤ 9223372036854775807) (h : O P n ops rest N Z (upd f d (i64 (a / b))) w) :
    O P n ops ({ dst := some d, op := .binOp .quo t x y t', type := ty, pos := pos, after := after, guard := .none } :: rest) N Z f w :=
  O.val rfl rfl (by
    have h1 : b ≠ 0 := by omega
    have h2 : InI (a / b) := by
      have e1 := Int.ediv_nonneg hb.1 (Int.le_of_lt hb.2.1)
      have e2 := Int.ediv_le_self b hb.1
      unfold InI; omega
    simp [execOp, hx, hy, eqGuard, binOp, Op.intDiv, h1, tdiv_nn hb.1 hb.2.1, wrap_in h2]) h
theorem O.remI (hx : ev n f x = i64 a) (hy : ev n f y = i64 b) (hb : 0 ≤ a ∧ 0 < b) (h : O P n ops rest N Z (upd f d (i64 (a % b))) w) :
    O P n ops ({ dst := some d, op := .binOp .rem t x y t', type := ty, pos := pos, after := after, guard := .none } :: rest) N Z f w :=
  O.val rfl rfl (by
    have h1 : b ≠ 0 := by omega
    simp [execOp, hx, hy, eqGuard, binOp, Op.intDiv, h1, Int.tmod_eq_emod_of_nonneg hb.1]) h
theorem O.lssI (hx : ev n f x = i64 a) (hy : ev n f y = i64 b) (h : O P n ops rest N Z (upd f d (.bool (decide (a < b)))) w) :
    O P n ops ({ dst := some d, op := .binOp .lss t x y t', type := ty, pos := pos, after := after, guard := .none } :: rest) N Z f w :=
  O.val rfl rfl (by simp [execOp, hx, hy, eqGuard, binOp, Op.intCmp]) h
theorem O.leqI (hx : ev n f x = i64 a) (hy : ev n f y = i64 b) (h : O P n ops rest N Z (upd f d (.bool (decide (a ≤ b)))) w) :
    O P n ops ({ dst := some d, op := .binOp .leq t x y t', type := ty, pos := pos, after := after, guard := .none } :: rest) N Z f w :=
  O.val rfl rfl (by simp [execOp, hx, hy, eqGuard, binOp, Op.intCmp]) h
theorem O.gtrI (hx : ev n f x = i64 a) (hy : ev n f y = i64 b) (h : O P n ops rest N Z (upd f d (.bool (decide (b < a)))) w) :
    O P n ops ({ dst := some d, op := .binOp .gtr t x y t', type := ty, pos := pos, after := after, guard := .none } :: rest) N Z f w :=
  O.val rfl rfl (by simp [execOp, hx, hy, eqGuard, binOp, Op.intCmp]) h
theorem O.geqI (hx : ev n f x = i64 a) (hy : ev n f y = i64 b) (h : O P n ops rest N Z (upd f d (.bool (decide (b ≤ a)))) w) :
    O P n ops ({ dst := some d, op := .binOp .geq t x y t', type := ty, pos := pos, after := after, guard := .none } :: rest) N Z f w :=
  O.val rfl rfl (by simp [execOp, hx, hy, eqGuard, binOp, Op.intCmp]) h
theorem O.eqlI (hx : ev n f x = i64 a) (hy : ev n f y = i64 b) (h : O P n ops rest N Z (upd f d (.bool (decide (a = b)))) w) :
    O P n ops ({ dst := some d, op := .binOp .eql t x y t', type := ty, pos := pos, after := after, guard := .none } :: rest) N Z f w :=
  O.val rfl rfl (by
    have e : (a == b) = decide (a = b) := by by_cases h : a = b <;> simp [h]
    simp [execOp, hx, hy, eqGuard, binOp, Op.intCmp, e]) h
theorem O.neqI (hx : ev n f x = i64 a) (hy : ev n f y = i64 b) (h : O P n ops rest N Z (upd f d (.bool (decide (a ≠ b)))) w) :
    O P n ops ({ dst := some d, op := .binOp .neq t x y t', type := ty, pos := pos, after := after, guard := .none } :: rest) N Z f w :=
  O.val rfl rfl (by
    have e : (a != b) = decide (a ≠ b) := by by_cases h : a = b <;> simp [h]
    simp [execOp, hx, hy, eqGuard, binOp, Op.intCmp, e]) h
end

/-- and of two ints. -/
theorem O.andI64 {a b : Int} (hx : ev n f x = i64 a) (hy : ev n f y = i64 b) (h : O P n ops rest N Z (upd f d (i64 (IntKind.i64.wrap ((BitVec.ofInt 64 a &&& BitVec.ofInt 64 b).toNat : Int)))) w) :
    O P n ops ({ dst := some d, op := .binOp .and t x y t', type := ty, pos := pos, after := after, guard := .none } :: rest) N Z f w :=
  O.val rfl rfl (by simp only [execOp, hx, hy]; rfl) h
theorem O.orI64 {a b : Int} (hx : ev n f x = i64 a) (hy : ev n f y = i64 b) (h : O P n ops rest N Z (upd f d (i64 (IntKind.i64.wrap ((BitVec.ofInt 64 a ||| BitVec.ofInt 64 b).toNat : Int)))) w) :
    O P n ops ({ dst := some d, op := .binOp .or t x y t', type := ty, pos := pos, after := after, guard := .none } :: rest) N Z f w :=
  O.val rfl rfl (by simp only [execOp, hx, hy]; rfl) h
theorem i64_eq {a b : Int} (h : a = b) : i64 a = i64 b := by rw [h]

/-! #### unsigned numbers -/
section
variable {k : IntKind} {m : Nat} {a b : BitVec m}
theorem O.addU (hk : k.bits = m) (hs : k.signed = false) (hx : ev n f x = .int k (a.toNat : Int)) (hy : ev n f y = .int k (b.toNat : Int)) (h : O P n ops rest N Z (upd f d (.int k ((a + b).toNat : Int))) w) :
    O P n ops ({ dst := some d, op := .binOp .add t x y t', type := ty, pos := pos, after := after, guard := .none } :: rest) N Z f w :=
  O.val rfl rfl (by
    have e : k.wrap ((a.toNat : Int) + (b.toNat : Int)) = ((a + b).toNat : Int) := by
      rw [wrap_u hk hs, BitVec.ofInt_add, ofInt_nat, ofInt_nat]
    simp [execOp, hx, hy, eqGuard, binOp, Op.intArith, e]) h
theorem O.subU (hk : k.bits = m) (hs : k.signed = false) (hx : ev n f x = .int k (a.toNat : Int)) (hy : ev n f y = .int k (b.toNat : Int)) (h : O P n ops rest N Z (upd f d (.int k ((a - b).toNat : Int))) w) :
    O P n ops ({ dst := some d, op := .binOp .sub t x y t', type := ty, pos := pos, after := after, guard := .none } :: rest) N Z f w :=
  O.val rfl rfl (by
    have e : k.wrap ((a.toNat : Int) - (b.toNat : Int)) = ((a - b).toNat : Int) := by
      rw [wrap_u hk hs, ofInt_sub', ofInt_nat, ofInt_nat]
    simp [execOp, hx, hy, eqGuard, binOp, Op.intArith, e]) h
theorem O.mulU (hk : k.bits = m) (hs : k.signed = false) (hx : ev n f x = .int k (a.toNat : Int)) (hy : ev n f y = .int k (b.toNat : Int)) (h : O P n ops rest N Z (upd f d (.int k ((a * b).toNat : Int))) w) :
    O P n ops ({ dst := some d, op := .binOp .mul t x y t', type := ty, pos := pos, after := after, guard := .none } :: rest) N Z f w :=
  O.val rfl rfl (by
    have e : k.wrap ((a.toNat : Int) * (b.toNat : Int)) = ((a * b).toNat : Int) := by
      rw [wrap_u hk hs, BitVec.ofInt_mul, ofInt_nat, ofInt_nat]
    simp [execOp, hx, hy, eqGuard, binOp, Op.intArith, e]) h
theorem O.quoU (hk : k.bits = m) (hs : k.signed = false) (hx : ev n f x = .int k (a.toNat : Int)) (hy : ev n f y = .int k (b.toNat : Int)) (hb : b.toNat ≠ 0) (h : O P n ops rest N Z (upd f d (.int k ((a / b).toNat : Int))) w) :
    O P n ops ({ dst := some d, op := .binOp .quo t x y t', type := ty, pos := pos, after := after, guard := .none } :: rest) N Z f w :=
  O.val rfl rfl (by
    have h1 : ¬ ((b.toNat : Int) = 0) := by omega
    have e : k.wrap ((a.toNat : Int).tdiv (b.toNat : Int)) = ((a / b).toNat : Int) := by
      rw [Int.tdiv_eq_ediv_of_nonneg (by omega), ← Int.natCast_ediv, ← BitVec.toNat_udiv, wrap_u_nat hk hs]
    simp only [execOp, hx, hy, eqGuard, binOp, Op.intDiv, if_neg h1, e, ne_eq, not_true_eq_false, ↓reduceIte]
    rfl) h
theorem O.remU (hk : k.bits = m) (hs : k.signed = false) (hx : ev n f x = .int k (a.toNat : Int)) (hy : ev n f y = .int k (b.toNat : Int)) (hb : b.toNat ≠ 0) (h : O P n ops rest N Z (upd f d (.int k ((a % b).toNat : Int))) w) :
    O P n ops ({ dst := some d, op := .binOp .rem t x y t', type := ty, pos := pos, after := after, guard := .none } :: rest) N Z f w :=
  O.val rfl rfl (by
    have h1 : ¬ ((b.toNat : Int) = 0) := by omega
    have e : ((a.toNat : Int).tmod (b.toNat : Int)) = ((a % b).toNat : Int) := by
      rw [Int.tmod_eq_emod_of_nonneg (by omega), ← Int.natCast_emod, ← BitVec.toNat_umod]
    have _ := hk
    have _ := hs
    simp only [execOp, hx, hy, eqGuard, binOp, Op.intDiv, if_neg h1, e, ne_eq, not_true_eq_false, ↓reduceIte]
    rfl) h
theorem O.andU (hk : k.bits = m) (hs : k.signed = false) (hx : ev n f x = .int k (a.toNat : Int)) (hy : ev n f y = .int k (b.toNat : Int)) (h : O P n ops rest N Z (upd f d (.int k ((a &&& b).toNat : Int))) w) :
    O P n ops ({ dst := some d, op := .binOp .and t x y t', type := ty, pos := pos, after := after, guard := .none } :: rest) N Z f w :=
  O.val rfl rfl (by
    subst hk
    simp only [execOp, hx, hy, eqGuard, binOp, Op.intBits, ofInt_nat, wrap_u_nat rfl hs, ne_eq, not_true_eq_false, ↓reduceIte]
    rfl) h
theorem O.orU (hk : k.bits = m) (hs : k.signed = false) (hx : ev n f x = .int k (a.toNat : Int)) (hy : ev n f y = .int k (b.toNat : Int)) (h : O P n ops rest N Z (upd f d (.int k ((a ||| b).toNat : Int))) w) :
    O P n ops ({ dst := some d, op := .binOp .or t x y t', type := ty, pos := pos, after := after, guard := .none } :: rest) N Z f w :=
  O.val rfl rfl (by
    subst hk
    simp only [execOp, hx, hy, eqGuard, binOp, Op.intBits, ofInt_nat, wrap_u_nat rfl hs, ne_eq, not_true_eq_false, ↓reduceIte]
    rfl) h
theorem O.xorU (hk : k.bits = m) (hs : k.signed = false) (hx : ev n f x = .int k (a.toNat : Int)) (hy : ev n f y = .int k (b.toNat : Int)) (h : O P n ops rest N Z (upd f d (.int k ((a ^^^ b).toNat : Int))) w) :
    O P n ops ({ dst := some d, op := .binOp .xor t x y t', type := ty, pos := pos, after := after, guard := .none } :: rest) N Z f w :=
  O.val rfl rfl (by
    subst hk
    simp only [execOp, hx, hy, eqGuard, binOp, Op.intBits, ofInt_nat, wrap_u_nat rfl hs, ne_eq, not_true_eq_false, ↓reduceIte]
    rfl) h
theorem O.andNotU (hk : k.bits = m) (hs : k.signed = false) (hx : ev n f x = .int k (a.toNat : Int)) (hy : ev n f y = .int k (b.toNat : Int)) (h : O P n ops rest N Z (upd f d (.int k ((a &&& ~~~b).toNat : Int))) w) :
    O P n ops ({ dst := some d, op := .binOp .andNot t x y t', type := ty, pos := pos, after := after, guard := .none } :: rest) N Z f w :=
  O.val rfl rfl (by
    subst hk
    simp only [execOp, hx, hy, eqGuard, binOp, Op.intBits, ofInt_nat, wrap_u_nat rfl hs, ne_eq, not_true_eq_false, ↓reduceIte]
    rfl) h
theorem O.shlU {ky : IntKind} {c : Nat} (hk : k.bits = m) (hs : k.signed = false) (hx : ev n f x = .int k (a.toNat : Int)) (hy : ev n f y = .int ky (c : Int)) (h : O P n ops rest N Z (upd f d (.int k ((a <<< c).toNat : Int))) w) :
    O P n ops ({ dst := some d, op := .binOp .shl t x y t', type := ty, pos := pos, after := after, guard := .none } :: rest) N Z f w :=
  O.val rfl rfl (by
    have h1 : ¬ ((c : Int) < 0) := by omega
    have e : k.wrap ((a.toNat : Int) * 2 ^ (min ((c : Int).toNat) k.bits)) = ((a <<< c).toNat : Int) := by
      rw [wrap_u hk hs, hk]
      congr 1
      rw [BitVec.ofInt_mul, ofInt_nat]
      have e2 : BitVec.ofInt m ((2 : Int) ^ (min c m)) = BitVec.ofNat m (2 ^ (min c m)) := by
        rw [← BitVec.ofInt_natCast]; norm_cast
      rw [Int.toNat_natCast, e2, BitVec.toNat_mul, BitVec.toNat_ofNat, BitVec.toNat_shiftLeft, Nat.shiftLeft_eq, Nat.mul_mod_mod]
      by_cases hc : c ≤ m
      · rw [Nat.min_eq_left hc]
      · have hc' : m ≤ c := by omega
        rw [Nat.min_eq_right hc', Nat.mul_mod_left]
        obtain ⟨q, rfl⟩ := Nat.exists_eq_add_of_le hc'
        rw [Nat.pow_add, ← Nat.mul_assoc, Nat.mul_right_comm, Nat.mul_mod_left]
    simp only [execOp, hx, hy, eqGuard, binOp, Op.shift, if_neg h1, e]
    rfl) h
theorem O.shrU {ky : IntKind} {c : Nat} (hk : k.bits = m) (hs : k.signed = false) (hx : ev n f x = .int k (a.toNat : Int)) (hy : ev n f y = .int ky (c : Int)) (h : O P n ops rest N Z (upd f d (.int k ((a >>> c).toNat : Int))) w) :
    O P n ops ({ dst := some d, op := .binOp .shr t x y t', type := ty, pos := pos, after := after, guard := .none } :: rest) N Z f w :=
  O.val rfl rfl (by
    have h1 : ¬ ((c : Int) < 0) := by omega
    have e : ((a.toNat : Int).fdiv (2 ^ (min ((c : Int).toNat) k.bits))) = ((a >>> c).toNat : Int) := by
      have _ := hs
      rw [hk, Int.toNat_natCast, BitVec.toNat_ushiftRight, Nat.shiftRight_eq_div_pow]
      have e2 : ((2 : Int) ^ (min c m)) = ((2 ^ (min c m) : Nat) : Int) := by norm_cast
      rw [e2, Int.fdiv_eq_ediv_of_nonneg _ (Int.natCast_nonneg _), ← Int.natCast_ediv]
      by_cases hc : c ≤ m
      · rw [Nat.min_eq_left hc]
      · have hc' : m ≤ c := by omega
        have hlt := a.isLt
        rw [Nat.min_eq_right hc', Nat.div_eq_of_lt hlt, Nat.div_eq_of_lt]
        exact Nat.lt_of_lt_of_le hlt (Nat.pow_le_pow_right (by decide) hc')
    simp only [execOp, hx, hy, eqGuard, binOp, Op.shift, if_neg h1, e]
    rfl) h
theorem O.notU (hk : k.bits = m) (hs : k.signed = false) (hx : ev n f x = .int k (a.toNat : Int)) (h : O P n ops rest N Z (upd f d (.int k ((~~~a).toNat : Int))) w) :
    O P n ops ({ dst := some d, op := .unOp .xor t x, type := ty, pos := pos, after := after, guard := .none } :: rest) N Z f w :=
  O.val rfl rfl (by
    subst hk
    have e : BitVec.ofInt k.bits k.max = BitVec.allOnes k.bits := by
      cases k <;> first | rfl | (simp [IntKind.signed] at hs)
    have e2 : BitVec.allOnes k.bits ^^^ a = ~~~a := by simp
    simp only [execOp, hx, Op.unary, Op.intBits, hs, Bool.false_eq_true, if_false, ofInt_nat, e, e2, wrap_u_nat rfl hs]
    rfl) h
theorem O.negU (hk : k.bits = m) (hs : k.signed = false) (hx : ev n f x = .int k (a.toNat : Int)) (h : O P n ops rest N Z (upd f d (.int k ((-a).toNat : Int))) w) :
    O P n ops ({ dst := some d, op := .unOp .neg t x, type := ty, pos := pos, after := after, guard := .none } :: rest) N Z f w :=
  O.val rfl rfl (by
    have e : k.wrap (0 - (a.toNat : Int)) = ((-a).toNat : Int) := by
      rw [wrap_u hk hs, ofInt_sub', ofInt_nat]
      simp
    simp only [execOp, hx, Op.unary, Op.intArith, e]
    rfl) h
theorem O.lssU (hx : ev n f x = .int k (a.toNat : Int)) (hy : ev n f y = .int k (b.toNat : Int)) (h : O P n ops rest N Z (upd f d (.bool (decide (a < b)))) w) :
    O P n ops ({ dst := some d, op := .binOp .lss t x y t', type := ty, pos := pos, after := after, guard := .none } :: rest) N Z f w :=
  O.val rfl rfl (by simp [execOp, hx, hy, eqGuard, binOp, Op.intCmp, BitVec.lt_def]) h
theorem O.leqU (hx : ev n f x = .int k (a.toNat : Int)) (hy : ev n f y = .int k (b.toNat : Int)) (h : O P n ops rest N Z (upd f d (.bool (decide (a ≤ b)))) w) :
    O P n ops ({ dst := some d, op := .binOp .leq t x y t', type := ty, pos := pos, after := after, guard := .none } :: rest) N Z f w :=
  O.val rfl rfl (by simp [execOp, hx, hy, eqGuard, binOp, Op.intCmp, BitVec.le_def]) h
theorem O.gtrU (hx : ev n f x = .int k (a.toNat : Int)) (hy : ev n f y = .int k (b.toNat : Int)) (h : O P n ops rest N Z (upd f d (.bool (decide (b < a)))) w) :
    O P n ops ({ dst := some d, op := .binOp .gtr t x y t', type := ty, pos := pos, after := after, guard := .none } :: rest) N Z f w :=
  O.val rfl rfl (by simp [execOp, hx, hy, eqGuard, binOp, Op.intCmp, BitVec.lt_def]) h
theorem O.geqU (hx : ev n f x = .int k (a.toNat : Int)) (hy : ev n f y = .int k (b.toNat : Int)) (h : O P n ops rest N Z (upd f d (.bool (decide (b ≤ a)))) w) :
    O P n ops ({ dst := some d, op := .binOp .geq t x y t', type := ty, pos := pos, after := after, guard := .none } :: rest) N Z f w :=
  O.val rfl rfl (by simp [execOp, hx, hy, eqGuard, binOp, Op.intCmp, BitVec.le_def]) h
theorem O.eqlU (hx : ev n f x = .int k (a.toNat : Int)) (hy : ev n f y = .int k (b.toNat : Int)) (h : O P n ops rest N Z (upd f d (.bool (decide (a = b)))) w) :
    O P n ops ({ dst := some d, op := .binOp .eql t x y t', type := ty, pos := pos, after := after, guard := .none } :: rest) N Z f w :=
  O.val rfl rfl (by
    have e : ((a.toNat : Int) == (b.toNat : Int)) = decide (a = b) := by
      by_cases h : a = b
      · simp [h]
      · have h2 : a.toNat ≠ b.toNat := fun h' => h (BitVec.eq_of_toNat_eq h')
        simp [h]; omega
    simp [execOp, hx, hy, eqGuard, binOp, Op.intCmp, e]) h
theorem O.neqU (hx : ev n f x = .int k (a.toNat : Int)) (hy : ev n f y = .int k (b.toNat : Int)) (h : O P n ops rest N Z (upd f d (.bool (decide (a ≠ b)))) w) :
    O P n ops ({ dst := some d, op := .binOp .neq t x y t', type := ty, pos := pos, after := after, guard := .none } :: rest) N Z f w :=
  O.val rfl rfl (by
    have e : ((a.toNat : Int) != (b.toNat : Int)) = decide (a ≠ b) := by
      by_cases h : a = b
      · simp [h]
      · have h2 : a.toNat ≠ b.toNat := fun h' => h (BitVec.eq_of_toNat_eq h')
        simp [h]; omega
    simp [execOp, hx, hy, eqGuard, binOp, Op.intCmp, e]) h
end

/-! #### conversions between kinds of numbers -/
section
variable {k k' : IntKind} {m m' : Nat}
theorem O.convUU {a : BitVec m} (ht : P.underlying t = some (.int k)) (ht' : P.underlying t' = some (.int k')) (hk' : k'.bits = m') (hs' : k'.signed = false) (hx : ev n f x = .int k (a.toNat : Int))
    (h : O P n ops rest N Z (upd f d (.int k' ((a.setWidth m').toNat : Int))) w) :
    O P n ops ({ dst := some d, op := .convert t t' x, type := ty, pos := pos, after := after, guard := .none } :: rest) N Z f w :=
  O.val rfl rfl (by
    have e : k'.wrap (a.toNat : Int) = ((a.setWidth m').toNat : Int) := by
      rw [wrap_u hk' hs', BitVec.ofInt_natCast]
      simp
    simp [execOp, hx, convert, run_underlying ht, run_underlying ht', Conv.intToInt, e]) h
theorem O.convUI {a : BitVec m} (ht : P.underlying t = some (.int k)) (ht' : P.underlying t' = some (.int .i64)) (hx : ev n f x = .int k (a.toNat : Int)) (hm : m < 64)
    (h : O P n ops rest N Z (upd f d (i64 (a.toNat : Int))) w) :
    O P n ops ({ dst := some d, op := .convert t t' x, type := ty, pos := pos, after := after, guard := .none } :: rest) N Z f w :=
  O.val rfl rfl (by
    have e : IntKind.i64.wrap (a.toNat : Int) = (a.toNat : Int) := by
      apply wrap_in
      have h1 := a.isLt
      have h2 : 2 ^ m ≤ 2 ^ 63 := Nat.pow_le_pow_right (by decide) (by omega)
      unfold InI; omega
    simp [execOp, hx, convert, run_underlying ht, run_underlying ht', Conv.intToInt, e]) h
theorem O.convU64I {a : BitVec 64} (ht : P.underlying t = some (.int .u64)) (ht' : P.underlying t' = some (.int .i64)) (hx : ev n f x = .int .u64 (a.toNat : Int))
    (h : O P n ops rest N Z (upd f d (i64 a.toInt)) w) :
    O P n ops ({ dst := some d, op := .convert t t' x, type := ty, pos := pos, after := after, guard := .none } :: rest) N Z f w :=
  O.val rfl rfl (by
    have e : IntKind.i64.wrap (a.toNat : Int) = a.toInt := by
      have h1 := a.isLt
      have e : IntKind.i64.wrap (a.toNat : Int) = if (true && decide ((a.toNat : Int) % 18446744073709551616 ≥ 9223372036854775808)) = true then (a.toNat : Int) % 18446744073709551616 - 18446744073709551616 else (a.toNat : Int) % 18446744073709551616 := rfl
      have e64' : ((2 ^ 64 : Nat) : Int) = 18446744073709551616 := by decide
      rw [e, BitVec.toInt_eq_toNat_cond, e64', Int.emod_eq_of_lt (by omega) (by omega)]
      by_cases h2 : 2 * a.toNat < 2 ^ 64
      · rw [if_pos h2, if_neg (by simp; omega)]
      · rw [if_neg h2, if_pos (by simp; omega)]
    simp [execOp, hx, convert, run_underlying ht, run_underlying ht', Conv.intToInt, e]) h
theorem O.convIU {a : Int} (ht : P.underlying t = some (.int .i64)) (ht' : P.underlying t' = some (.int k')) (hk' : k'.bits = m') (hs' : k'.signed = false) (hx : ev n f x = i64 a)
    (h : O P n ops rest N Z (upd f d (.int k' ((BitVec.ofInt m' a).toNat : Int))) w) :
    O P n ops ({ dst := some d, op := .convert t t' x, type := ty, pos := pos, after := after, guard := .none } :: rest) N Z f w :=
  O.val rfl rfl (by
    simp [execOp, hx, convert, run_underlying ht, run_underlying ht', Conv.intToInt, wrap_u hk' hs']) h
theorem O.convII {a : Int} (ht : P.underlying t = some (.int .i64)) (ht' : P.underlying t' = some (.int .i64)) (ha : InI a) (hx : ev n f x = i64 a)
    (h : O P n ops rest N Z (upd f d (i64 a)) w) :
    O P n ops ({ dst := some d, op := .convert t t' x, type := ty, pos := pos, after := after, guard := .none } :: rest) N Z f w :=
  O.val rfl rfl (by
    simp [execOp, hx, convert, run_underlying ht, run_underlying ht', Conv.intToInt, wrap_in ha]) h
end

/-! #### Bools and strings -/
theorem run_eql_bool {a b : Bool} (ht : P.underlying t = some .bool) : (binOp .eql t (.bool a) (.bool b)).run P w = .ok (.bool (decide (a = b))) w := by
  have e : (a == b) = decide (a = b) := by cases a <;> cases b <;> rfl
  have h1 : (Op.equal t (.bool a) (.bool b)).run P w = .ok (a == b) w := run_equalIn_bool w 9999 t a b ht
  have h2 : binOp .eql t (.bool a) (.bool b) = (do pure (.bool (← Op.equal t (.bool a) (.bool b)))) := rfl
  rw [h2, Sem.run_bind, h1, e]
  rfl
theorem run_neq_bool {a b : Bool} (ht : P.underlying t = some .bool) : (binOp .neq t (.bool a) (.bool b)).run P w = .ok (.bool (decide (a ≠ b))) w := by
  have e : (!(a == b)) = decide (a ≠ b) := by cases a <;> cases b <;> rfl
  have h1 : (Op.equal t (.bool a) (.bool b)).run P w = .ok (a == b) w := run_equalIn_bool w 9999 t a b ht
  have h2 : binOp .neq t (.bool a) (.bool b) = (do pure (.bool (!(← Op.equal t (.bool a) (.bool b))))) := rfl
  rw [h2, Sem.run_bind, h1]
  simp only [Result.andThen_ok, e]
  rfl
theorem run_bin {op : BinOp} {a b v : Value} (hx : ev n f x = a) (hy : ev n f y = b) (hg : (eqGuard op t x y a b).run P w = .ok () w) (h : (binOp op t a b).run P w = .ok v w) (dst : Option Tmp) (g : Option (Nat × Bool)) :
    (execOp (ev n f) { dst := dst, op := .binOp op t x y t', type := ty, pos := pos, after := after, guard := g }).run P w = .ok (.value v) w := by
  simp only [execOp, hx, hy, Sem.run_bind, hg, Result.andThen_ok, h]
  rfl
theorem O.eqlB {a b : Bool} (ht : P.underlying t = some .bool) (hx : ev n f x = .bool a) (hy : ev n f y = .bool b) (h : O P n ops rest N Z (upd f d (.bool (decide (a = b)))) w) :
    O P n ops ({ dst := some d, op := .binOp .eql t x y t', type := ty, pos := pos, after := after, guard := .none } :: rest) N Z f w :=
  O.val rfl rfl (run_bin hx hy rfl (run_eql_bool ht) _ _) h
theorem O.neqB {a b : Bool} (ht : P.underlying t = some .bool) (hx : ev n f x = .bool a) (hy : ev n f y = .bool b) (h : O P n ops rest N Z (upd f d (.bool (decide (a ≠ b)))) w) :
    O P n ops ({ dst := some d, op := .binOp .neq t x y t', type := ty, pos := pos, after := after, guard := .none } :: rest) N Z f w :=
  O.val rfl rfl (run_bin hx hy rfl (run_neq_bool ht) _ _) h

theorem toList_mk (l : List UInt8) : (ByteArray.mk l.toArray).toList = l := ByteArray.toList_mk l
section
variable {a b : List UInt8}
theorem O.eqlS (hx : ev n f x = str a) (hy : ev n f y = str b) (h : O P n ops rest N Z (upd f d (.bool (decide (a = b)))) w) :
    O P n ops ({ dst := some d, op := .binOp .eql t x y t', type := ty, pos := pos, after := after, guard := .none } :: rest) N Z f w :=
  O.val rfl rfl (by
    have e : (a == b) = decide (a = b) := by by_cases h : a = b <;> simp [h]
    simp only [execOp, hx, hy, str, eqGuard, binOp, Op.stringOp, toList_mk, e]
    simp) h
theorem O.neqS (hx : ev n f x = str a) (hy : ev n f y = str b) (h : O P n ops rest N Z (upd f d (.bool (decide (a ≠ b)))) w) :
    O P n ops ({ dst := some d, op := .binOp .neq t x y t', type := ty, pos := pos, after := after, guard := .none } :: rest) N Z f w :=
  O.val rfl rfl (by
    have e : (!(a == b)) = decide (a ≠ b) := by by_cases h : a = b <;> simp [h]
    simp only [execOp, hx, hy, str, eqGuard, binOp, Op.stringOp, toList_mk, e]
    simp) h
theorem O.lssS (hx : ev n f x = str a) (hy : ev n f y = str b) (h : O P n ops rest N Z (upd f d (.bool (Op.bytesLess a b))) w) :
    O P n ops ({ dst := some d, op := .binOp .lss t x y t', type := ty, pos := pos, after := after, guard := .none } :: rest) N Z f w :=
  O.val rfl rfl (by simp only [execOp, hx, hy, str, eqGuard, binOp, Op.stringOp, toList_mk]; simp) h
theorem O.gtrS (hx : ev n f x = str a) (hy : ev n f y = str b) (h : O P n ops rest N Z (upd f d (.bool (!(Op.bytesLess a b || a == b)))) w) :
    O P n ops ({ dst := some d, op := .binOp .gtr t x y t', type := ty, pos := pos, after := after, guard := .none } :: rest) N Z f w :=
  O.val rfl rfl (by simp only [execOp, hx, hy, str, eqGuard, binOp, Op.stringOp, toList_mk]; simp) h
theorem O.leqS (hx : ev n f x = str a) (hy : ev n f y = str b) (h : O P n ops rest N Z (upd f d (.bool (Op.bytesLess a b || a == b))) w) :
    O P n ops ({ dst := some d, op := .binOp .leq t x y t', type := ty, pos := pos, after := after, guard := .none } :: rest) N Z f w :=
  O.val rfl rfl (by simp only [execOp, hx, hy, str, eqGuard, binOp, Op.stringOp, toList_mk]; simp) h
theorem O.geqS (hx : ev n f x = str a) (hy : ev n f y = str b) (h : O P n ops rest N Z (upd f d (.bool (!Op.bytesLess a b))) w) :
    O P n ops ({ dst := some d, op := .binOp .geq t x y t', type := ty, pos := pos, after := after, guard := .none } :: rest) N Z f w :=
  O.val rfl rfl (by simp only [execOp, hx, hy, str, eqGuard, binOp, Op.stringOp, toList_mk]; simp) h
theorem O.addS (hx : ev n f x = str a) (hy : ev n f y = str b) (hb : a.length + b.length ≤ 9223372036854775807) (h : O P n ops rest N Z (upd f d (str (a ++ b))) w) :
    O P n ops ({ dst := some d, op := .binOp .add t x y t', type := ty, pos := pos, after := after, guard := .none } :: rest) N Z f w :=
  O.val rfl rfl (by
    have h1 : ¬ (IntKind.i64.max < ((ByteArray.size ⟨a.toArray⟩ + ByteArray.size ⟨b.toArray⟩ : Nat) : Int)) := by
      have e : IntKind.i64.max = 9223372036854775807 := by decide
      have ha : ByteArray.size ⟨a.toArray⟩ = a.length := by simp [ByteArray.size]
      have hb' : ByteArray.size ⟨b.toArray⟩ = b.length := by simp [ByteArray.size]
      rw [e, ha, hb']; omega
    have e2 : (ByteArray.mk a.toArray ++ ByteArray.mk b.toArray) = ByteArray.mk (a ++ b).toArray := by
      apply ByteArray.ext
      simp
    simp only [execOp, hx, hy, str, eqGuard, binOp, Op.stringOp, gt_iff_lt, h1, if_false, e2]
    simp) h
theorem O.lenS (ht : P.underlying t = some .string) (hx : ev n f x = str a) (h : O P n ops rest N Z (upd f d (i64 a.length)) w) :
    O P n ops ({ dst := some d, op := .call { callee := .builtin .len, args := [x].toArray, argTypes := [t].toArray }, type := ty, pos := pos, after := after, guard := .none } :: rest) N Z f w :=
  O.val rfl rfl (by
    have e : ByteArray.size ⟨a.toArray⟩ = a.length := by simp [ByteArray.size]
    simp [execOp, resolve, invoke, builtin, hx, Builtin.len_, run_underlying ht, str, goInt, e]) h
theorem O.lenL {l : Option Addr} {k c : Nat} {e : TypeId} (ht : P.underlying t = some (.slice e)) (hx : ev n f x = .slice l k c) (h : O P n ops rest N Z (upd f d (i64 k)) w) :
    O P n ops ({ dst := some d, op := .call { callee := .builtin .len, args := [x].toArray, argTypes := [t].toArray }, type := ty, pos := pos, after := after, guard := .none } :: rest) N Z f w :=
  O.val rfl rfl (by
    simp [execOp, resolve, invoke, builtin, hx, Builtin.len_, run_underlying ht, goInt]) h
theorem O.indexS {k : IntKind} {i : Int} (ht : P.underlying t = some .string) (hx : ev n f x = str a) (hy : ev n f y = .int k i) (hi : 0 ≤ i ∧ i < a.length) (h : O P n ops rest N Z (upd f d (.int .u8 ((a.getD i.toNat 0).toNat : Int))) w) :
    O P n ops ({ dst := some d, op := .index t x y, type := ty, pos := pos, after := after, guard := .none } :: rest) N Z f w :=
  O.val rfl rfl (by
    have hlt : i.toNat < a.length := by omega
    have h1 : (ByteArray.mk a.toArray)[i.toNat]? = some (a.getD i.toNat 0) := by
      rw [getElem?_pos (ByteArray.mk a.toArray) i.toNat (show i.toNat < (ByteArray.mk a.toArray).size by simpa [ByteArray.size] using hlt)]
      rw [List.getD_eq_getElem?_getD, List.getElem?_eq_getElem hlt]
      rfl
    have h2 : (Instr.index t (.string ⟨a.toArray⟩) (.int k i)).run P w = .ok (.int .u8 ((a.getD i.toNat 0).toNat : Int)) w := by
      unfold Instr.index
      rw [Sem.run_bind]
      show Result.andThen (Result.ok (k, i) w) _ = _
      rw [Result.andThen_ok, Sem.run_bind, run_underlying ht, Result.andThen_ok]
      simp only [if_pos hi.1, h1]
      rfl
    have h3 : execOp (ev n f) { dst := some d, op := .index t x y, type := ty, pos := pos, after := after, guard := .none } = (do pure (.value (← Instr.index t (ev n f x) (ev n f y)))) := rfl
    rw [h3, Sem.run_bind, hx, hy]
    show Result.andThen ((Instr.index t (.string ⟨a.toArray⟩) (.int k i)).run P w) _ = _
    rw [h2]
    rfl) h
theorem extract_mk (a : List UInt8) (l h : Nat) : (ByteArray.mk a.toArray).extract l h = ByteArray.mk ((a.take h).drop l).toArray := by
  apply ByteArray.ext
  simp [ByteArray.data_extract, List.drop_take]
end
/-! #### interfaces -/
/-- An interface type? -/
def isIf : TypeDesc → Bool
  | .interface _ => true
  | _ => false
theorem O.mkI {v : Value} {de : TypeDesc} (ht : P.underlying t = some de) (hd : isIf de = false) (hx : ev n f x = v) (h : O P n ops rest N Z (upd f d (.iface t v)) w) :
    O P n ops ({ dst := some d, op := .makeInterface t x, type := ty, pos := pos, after := after, guard := .none } :: rest) N Z f w :=
  O.val rfl rfl (by
    have h3 : execOp (ev n f) { dst := some d, op := .makeInterface t x, type := ty, pos := pos, after := after, guard := .none } = (do pure (.value (← Instr.makeInterface t (ev n f x)))) := rfl
    rw [h3, Sem.run_bind, hx]
    have h4 : (Instr.makeInterface t v).run P w = .ok (.iface t v) w := by
      unfold Instr.makeInterface
      rw [Sem.run_bind, run_underlying ht, Result.andThen_ok]
      cases de <;> first | rfl | simp [isIf] at hd
    rw [h4]
    rfl) h
theorem O.neqN0 (hx : ev n f x = .nilIface) {ms : Array (String × TypeId)} (ht : P.underlying t = some (.interface ms)) (h : O P n ops rest N Z (upd f d (.bool false)) w) :
    O P n ops ({ dst := some d, op := .binOp .neq t x (.const .nilIface) t', type := ty, pos := pos, after := after, guard := .none } :: rest) N Z f w :=
  O.val rfl rfl (by
    refine run_bin hx (y := .const .nilIface) rfl ?_ ?_ _ _
    · simp only [eqGuard, Bool.or_true]
      rfl
    · have h2 : binOp .neq t .nilIface .nilIface = (do pure (.bool (!(← Op.equal t .nilIface .nilIface)))) := rfl
      have h1 : (Op.equal t .nilIface .nilIface).run P w = .ok true w := by
        unfold Op.equal Op.maxDepth
        rw [Op.equalIn, Sem.run_bind, run_underlying ht]
        rfl
      show Sem.run P (binOp .neq t .nilIface .nilIface) w = _
      rw [h2, Sem.run_bind, h1]
      rfl) h
theorem O.neqN1 {te : TypeId} {v : Value} (hx : ev n f x = .iface te v) (hy : ev n f y = .nilIface) {ms : Array (String × TypeId)} (ht : P.underlying t = some (.interface ms)) (h : O P n ops rest N Z (upd f d (.bool true)) w) :
    O P n ops ({ dst := some d, op := .binOp .neq t x y t', type := ty, pos := pos, after := after, guard := .none } :: rest) N Z f w :=
  O.val rfl rfl (by
    refine run_bin hx hy ?_ ?_ _ _
    · simp only [eqGuard]
      rw [if_neg (by decide)]
      rfl
    · have h2 : binOp .neq t (.iface te v) .nilIface = (do pure (.bool (!(← Op.equal t (.iface te v) .nilIface)))) := by cases v <;> rfl
      have h1 : (Op.equal t (.iface te v) .nilIface).run P w = .ok false w := by
        unfold Op.equal Op.maxDepth
        rw [Op.equalIn, Sem.run_bind, run_underlying ht]
        rfl
      rw [h2, Sem.run_bind, h1]
      rfl) h
end
end Go.Pn
