/-
  Plain laws of the texts of floats, by their bits: no program in sight. No condition.
-/
import Derived.Lib.Repeat
import Derived.Test.YtbadfphdniliaaaDoorHexPlain
import Derived.Test.YtbadfphdniliaaaDoorSort
namespace Go.Pn.Flx
open Go.Pn.Hex (low dig Count)

/-- The text of a value. -/
def text (n : BitVec 64) : List UInt8 := low 16 n
theorem text_length (n : BitVec 64) : (text n).length = 16 := Hex.low_length _ _
/-- Digits before the first one are 0. -/
theorem low_zero {k j : Nat} {u : BitVec 64} (h : u >>> (4 * k) = 0#64) : low (k + j) u = List.replicate j 48 ++ low k u := by
  induction j with
  | zero => simp
  | succ j ih =>
    have e : u >>> (4 * (k + j)) = 0#64 := by
      rw [Nat.mul_add, BitVec.shiftRight_add, h]
      simp
    show dig ((u >>> (4 * (k + j))) &&& 15#64) :: low (k + j) u = _
    rw [e, ih, List.replicate_succ]
    rfl
theorem count_le {n : BitVec 64} {k : Nat} (h : Count k n) : k ≤ 16 := h.2.1
theorem repeatL_zero (c : Nat) : Lib.repeatL [48] c = List.replicate c 48 := by
  induction c with
  | zero => rfl
  | succ c ih => rw [Lib.repeatL, ih]; rfl
/-- What FormatUint gives, with zeros before it. -/
theorem text_of {n : BitVec 64} {k : Nat} (h : Count k n) : Lib.repeatL [48] (16 - (k : Int)).toNat ++ low k n = text n := by
  have hk := count_le h
  have e : (16 - (k : Int)).toNat = 16 - k := by omega
  rw [e, repeatL_zero, ← low_zero h.2.2.1]
  unfold text
  congr 1
  omega

/-! #### the reference's text -/
def digits16 : List UInt8 := [48, 49, 50, 51, 52, 53, 54, 55, 56, 57, 97, 98, 99, 100, 101, 102]
def divs : Nat → BitVec 64 → BitVec 64
  | 0, n => n
  | k + 1, n => divs k n / 16#64
def rlow : Nat → BitVec 64 → List UInt8
  | 0, _ => []
  | k + 1, n => ((digits16.take ((divs k n % 16#64 + 1#64).toNat)).drop (divs k n % 16#64).toNat) ++ rlow k n
theorem divs_nat (k : Nat) (n : BitVec 64) : (divs k n).toNat = n.toNat / 2 ^ (4 * k) := by
  induction k with
  | zero => simp [divs]
  | succ k ih =>
    rw [divs, BitVec.toNat_udiv, ih, Nat.mul_add, Nat.pow_add, Nat.div_div_eq_div_mul]
    rfl
theorem sub_digits : ∀ d : Fin 16, (digits16.take (d.val + 1)).drop d.val = [Hex.digits.getD d.val 0] := by decide
theorem rlow_eq (k : Nat) (n : BitVec 64) : rlow k n = low k n := by
  induction k with
  | zero => rfl
  | succ k ih =>
    rw [rlow, low, ih]
    have h1 := n.isLt
    have e0 : (divs k n % 16#64).toNat = n.toNat / 2 ^ (4 * k) % 16 := by rw [BitVec.toNat_umod, divs_nat]; rfl
    have hlt : (divs k n % 16#64).toNat < 16 := by omega
    have e1 : (divs k n % 16#64 + 1#64).toNat = (divs k n % 16#64).toNat + 1 := by
      rw [BitVec.toNat_add]
      have : (1#64).toNat = 1 := rfl
      omega
    have e2 : ((n >>> (4 * k)) &&& 15#64).toNat = n.toNat / 2 ^ (4 * k) % 16 := by
      rw [BitVec.toNat_and, BitVec.toNat_ushiftRight, Nat.shiftRight_eq_div_pow]
      have h7 : (15#64).toNat = 2 ^ 4 - 1 := rfl
      rw [h7, Nat.and_two_pow_sub_one_eq_mod]
    have e3 := sub_digits ⟨_, hlt⟩
    simp only at e3
    rw [e1, e3]
    unfold Hex.dig
    rw [e2, e0]
    rfl
theorem rtext (n : BitVec 64) : rlow 16 n = text n := rlow_eq 16 n

/-! #### the reference's parse -/
def rmore (n : BitVec 64) (c : BitVec 8) : Option (BitVec 64) :=
  if 48#8 ≤ c ∧ c ≤ 57#8 then some (16#64 * n + (c - 48#8).setWidth 64)
  else if 97#8 ≤ c ∧ c ≤ 102#8 then some (16#64 * n + 10#64 + (c - 97#8).setWidth 64)
  else none
def rfrom : BitVec 64 → List UInt8 → Option (BitVec 64)
  | n, [] => some n
  | n, c :: l => (rmore n c.toBitVec).bind fun m => rfrom m l
def rparse (l : List UInt8) : Option (BitVec 64) := if l.length = 16 then rfrom 0#64 l else none
theorem rmore_dig {n : BitVec 64} {c : BitVec 8} (h : 48#8 ≤ c ∧ c ≤ 57#8) : rmore n c = some (16#64 * n + (c - 48#8).setWidth 64) := by unfold rmore; rw [if_pos h]
theorem rmore_let {n : BitVec 64} {c : BitVec 8} (h : ¬ (48#8 ≤ c ∧ c ≤ 57#8)) (h2 : 97#8 ≤ c ∧ c ≤ 102#8) : rmore n c = some (16#64 * n + 10#64 + (c - 97#8).setWidth 64) := by unfold rmore; rw [if_neg h, if_pos h2]
theorem rmore_bad {n : BitVec 64} {c : BitVec 8} (h : ¬ (48#8 ≤ c ∧ c ≤ 57#8)) (h2 : ¬ (97#8 ≤ c ∧ c ≤ 102#8)) : rmore n c = none := by unfold rmore; rw [if_neg h, if_neg h2]
theorem rfrom_some {m m' : BitVec 64} {l : List UInt8} {k : Nat} {c : BitVec 8} (hk : k < l.length) (hp : rfrom 0#64 l = rfrom m (l.drop k)) (hc : c = l[k].toBitVec) (h : rmore m c = some m') : rfrom 0#64 l = rfrom m' (l.drop (k + 1)) := by
  rw [hp, List.drop_eq_getElem_cons hk, rfrom, ← hc, h]; rfl
theorem rfrom_none {m : BitVec 64} {l : List UInt8} {k : Nat} {c : BitVec 8} (hk : k < l.length) (hp : rfrom 0#64 l = rfrom m (l.drop k)) (hc : c = l[k].toBitVec) (h : rmore m c = none) (h8 : l.length = 16) : rparse l = none := by
  unfold rparse
  rw [if_pos h8, hp, List.drop_eq_getElem_cons hk, rfrom, ← hc, h]; rfl
theorem rfrom_end {m : BitVec 64} {l : List UInt8} {k : Nat} (hk : k = 16) (hp : rfrom 0#64 l = rfrom m (l.drop k)) (h8 : l.length = 16) : rparse l = some m := by
  unfold rparse
  rw [if_pos h8, hp, List.drop_of_length_le (by omega)]; rfl

/-- A digit, read. -/
theorem rmore_of_dig (n : BitVec 64) (d : Nat) (hd : d < 16) : rmore n (Hex.digits.getD d 0).toBitVec = some (16#64 * n + BitVec.ofNat 64 d) := by
  have key : ∀ d : Fin 16, (48#8 ≤ (Hex.digits.getD d.val 0).toBitVec ∧ (Hex.digits.getD d.val 0).toBitVec ≤ 57#8 ∧ ((Hex.digits.getD d.val 0).toBitVec - 48#8).setWidth 64 = BitVec.ofNat 64 d.val) ∨
      (¬ (48#8 ≤ (Hex.digits.getD d.val 0).toBitVec ∧ (Hex.digits.getD d.val 0).toBitVec ≤ 57#8) ∧ (97#8 ≤ (Hex.digits.getD d.val 0).toBitVec ∧ (Hex.digits.getD d.val 0).toBitVec ≤ 102#8) ∧ 10#64 + ((Hex.digits.getD d.val 0).toBitVec - 97#8).setWidth 64 = BitVec.ofNat 64 d.val) := by decide
  rcases key ⟨d, hd⟩ with ⟨h1, h2, h3⟩ | ⟨h1, h2, h3⟩
  · rw [rmore_dig ⟨h1, h2⟩]
    show some (16#64 * n + _) = _
    rw [show ((Hex.digits.getD d 0).toBitVec - 48#8).setWidth 64 = BitVec.ofNat 64 d from h3]
  · rw [rmore_let h1 h2, BitVec.add_assoc]
    rw [show 10#64 + ((Hex.digits.getD d 0).toBitVec - 97#8).setWidth 64 = BitVec.ofNat 64 d from h3]
theorem hval_of_dig (d : Nat) (hd : d < 16) : Hex.val (Hex.digits.getD d 0).toBitVec = some (BitVec.ofNat 8 d) := by
  have key : ∀ d : Fin 16, Hex.val (Hex.digits.getD d.val 0).toBitVec = some (BitVec.ofNat 8 d.val) := by decide
  exact key ⟨d, hd⟩
/-- What is read was a digit. -/
theorem dig_of_rmore {n m : BitVec 64} {c : UInt8} (h : rmore n c.toBitVec = some m) : ∃ d, d < 16 ∧ c = Hex.digits.getD d 0 ∧ m = 16#64 * n + BitVec.ofNat 64 d := by
  have key : ∀ x : Fin 256, (rmore 0#64 (BitVec.ofNat 8 x.val)).isSome = true → ∃ d : Fin 16, BitVec.ofNat 8 x.val = (Hex.digits.getD d.val 0).toBitVec := by decide +kernel
  have hs : (rmore 0#64 c.toBitVec).isSome = true := by
    unfold rmore at h ⊢
    split
    · rfl
    · rename_i h1
      rw [if_neg h1] at h
      split
      · rfl
      · rename_i h2
        rw [if_neg h2] at h
        cases h
  obtain ⟨d, hd⟩ := key ⟨c.toBitVec.toNat, c.toBitVec.isLt⟩ (by simpa using hs)
  have hc : c.toBitVec = (Hex.digits.getD d.val 0).toBitVec := by rw [← hd]; simp
  refine ⟨d.val, d.isLt, UInt8.toBitVec_inj.1 hc, ?_⟩
  rw [hc, rmore_of_dig n d.val d.isLt] at h
  exact (Option.some.inj h).symm

theorem low_dig (k : Nat) (u : BitVec 64) : low (k + 1) u = Hex.digits.getD (u.toNat / 2 ^ (4 * k) % 16) 0 :: low k u := by
  rw [low]
  unfold Hex.dig
  congr 2
  rw [BitVec.toNat_and, BitVec.toNat_ushiftRight, Nat.shiftRight_eq_div_pow]
  have h7 : (15#64).toNat = 2 ^ 4 - 1 := rfl
  rw [h7, Nat.and_two_pow_sub_one_eq_mod]
theorem split16 (u k : Nat) : u % 2 ^ (4 * (k + 1)) = (u / 2 ^ (4 * k) % 16) * 2 ^ (4 * k) + u % 2 ^ (4 * k) := by
  have e : 2 ^ (4 * (k + 1)) = 2 ^ (4 * k) * 16 := by rw [Nat.mul_add, Nat.pow_add]
  rw [e, Nat.mod_mul, Nat.add_comm, Nat.mul_comm (2 ^ (4 * k))]
/-- The reference reads digits. -/
theorem rfrom_low (k : Nat) (n : BitVec 64) (u : BitVec 64) (h : n.toNat * 2 ^ (4 * k) + u.toNat % 2 ^ (4 * k) < 2 ^ 64) :
    rfrom n (low k u) = some (BitVec.ofNat 64 (n.toNat * 2 ^ (4 * k) + u.toNat % 2 ^ (4 * k))) := by
  induction k generalizing n with
  | zero => simp [low, rfrom, Nat.mod_one]
  | succ k ih =>
    have hd : u.toNat / 2 ^ (4 * k) % 16 < 16 := Nat.mod_lt _ (by decide)
    rw [low_dig, rfrom, rmore_of_dig _ _ hd]
    have hp : 0 < 2 ^ (4 * k) := Nat.pow_pos (by decide)
    have e : 2 ^ (4 * (k + 1)) = 2 ^ (4 * k) * 16 := by rw [Nat.mul_add, Nat.pow_add]
    rw [split16, e] at h ⊢
    generalize hD : u.toNat / 2 ^ (4 * k) % 16 = D at *
    have hn : 16 * n.toNat + D < 2 ^ 64 := by
      have h1 : (16 * n.toNat + D) * 1 ≤ (16 * n.toNat + D) * 2 ^ (4 * k) := Nat.mul_le_mul_left _ hp
      have h2 : (16 * n.toNat + D) * 2 ^ (4 * k) = n.toNat * (2 ^ (4 * k) * 16) + D * 2 ^ (4 * k) := by rw [Nat.add_mul, Nat.mul_comm 16, Nat.mul_assoc, Nat.mul_comm 16]
      omega
    have hm : (16#64 * n + BitVec.ofNat 64 D).toNat = 16 * n.toNat + D := by
      rw [BitVec.toNat_add, BitVec.toNat_mul]
      have h16 : (16#64).toNat = 16 := rfl
      have hDD : (BitVec.ofNat 64 D).toNat = D := by rw [BitVec.toNat_ofNat]; omega
      rw [h16, hDD]
      omega
    have h2 : (16 * n.toNat + D) * 2 ^ (4 * k) = n.toNat * (2 ^ (4 * k) * 16) + D * 2 ^ (4 * k) := by rw [Nat.add_mul, Nat.mul_comm 16, Nat.mul_assoc, Nat.mul_comm 16]
    show rfrom (16#64 * n + BitVec.ofNat 64 D) (low k u) = _
    rw [ih _ (by rw [hm]; omega), hm, h2, Nat.add_assoc]
/-- strconv reads digits. -/
theorem hfrom_low (k : Nat) (n u : BitVec 64) (h : n.toNat * 2 ^ (4 * k) + u.toNat % 2 ^ (4 * k) < 2 ^ 64) :
    Hex.parseFrom 18446744073709551615#64 n (low k u) = some (BitVec.ofNat 64 (n.toNat * 2 ^ (4 * k) + u.toNat % 2 ^ (4 * k))) := by
  induction k generalizing n with
  | zero => simp [low, Hex.parseFrom, Nat.mod_one]
  | succ k ih =>
    have hd : u.toNat / 2 ^ (4 * k) % 16 < 16 := Nat.mod_lt _ (by decide)
    rw [low_dig, Hex.parseFrom]
    have hp : 0 < 2 ^ (4 * k) := Nat.pow_pos (by decide)
    have e : 2 ^ (4 * (k + 1)) = 2 ^ (4 * k) * 16 := by rw [Nat.mul_add, Nat.pow_add]
    rw [split16, e] at h ⊢
    generalize hD : u.toNat / 2 ^ (4 * k) % 16 = D at *
    have h2 : (n.toNat * 16 + D) * 2 ^ (4 * k) = n.toNat * (2 ^ (4 * k) * 16) + D * 2 ^ (4 * k) := by rw [Nat.add_mul, Nat.mul_assoc, Nat.mul_comm 16]
    have hn : n.toNat * 16 + D < 2 ^ 64 := by
      have h1 : (n.toNat * 16 + D) * 1 ≤ (n.toNat * 16 + D) * 2 ^ (4 * k) := Nat.mul_le_mul_left _ hp
      omega
    have e16 : (n * 16#64).toNat = n.toNat * 16 := by
      rw [BitVec.toNat_mul]
      have : (16#64).toNat = 16 := rfl
      rw [this]; omega
    have ed : ((BitVec.ofNat 8 D).setWidth 64 : BitVec 64).toNat = D := by
      rw [BitVec.toNat_setWidth, BitVec.toNat_ofNat]; omega
    have hm : (n * 16#64 + (BitVec.ofNat 8 D).setWidth 64).toNat = n.toNat * 16 + D := by
      rw [BitVec.toNat_add, e16, ed]; omega
    have hmore : Hex.more 18446744073709551615#64 n (Hex.digits.getD D 0).toBitVec = some (n * 16#64 + (BitVec.ofNat 8 D).setWidth 64) := by
      refine Hex.more_ok (hval_of_dig D hd) ?_ ?_ ?_ ?_
      · rw [BitVec.le_def]
        have h16 : (16#8).toNat = 16 := rfl
        have hDD : (BitVec.ofNat 8 D).toNat = D := by rw [BitVec.toNat_ofNat]; omega
        omega
      · rw [BitVec.le_def]
        have : (1152921504606846976#64).toNat = 1152921504606846976 := rfl
        omega
      · rw [BitVec.lt_def, hm, e16]; omega
      · rw [BitVec.lt_def, hm]
        have : (18446744073709551615#64).toNat = 18446744073709551615 := rfl
        omega
    rw [hmore]
    show Hex.parseFrom _ (n * 16#64 + (BitVec.ofNat 8 D).setWidth 64) (low k u) = _
    rw [ih _ (by rw [hm]; omega), hm, h2, Nat.add_assoc]
theorem rparse_text (n : BitVec 64) : rparse (text n) = some n := by
  unfold rparse
  have hn := n.isLt
  rw [if_pos (text_length n)]
  unfold text
  have e0 : (0#64).toNat * 2 ^ (4 * 16) + n.toNat % 2 ^ (4 * 16) = n.toNat := by rw [Nat.mod_eq_of_lt hn]; show 0 * _ + _ = _; rw [Nat.zero_mul, Nat.zero_add]
  rw [rfrom_low 16 _ _ (by rw [e0]; exact hn), e0]
  congr 1
  apply BitVec.eq_of_toNat_eq
  rw [BitVec.toNat_ofNat]
  omega
theorem hparse_text (n : BitVec 64) : Hex.parse 18446744073709551615#64 (text n) = some n := by
  unfold Hex.parse
  have hn := n.isLt
  rw [if_neg (by intro h; have := text_length n; rw [h] at this; cases this)]
  unfold text
  have e0 : (0#64).toNat * 2 ^ (4 * 16) + n.toNat % 2 ^ (4 * 16) = n.toNat := by rw [Nat.mod_eq_of_lt hn]; show 0 * _ + _ = _; rw [Nat.zero_mul, Nat.zero_add]
  rw [hfrom_low 16 _ _ (by rw [e0]; exact hn), e0]
  congr 1
  apply BitVec.eq_of_toNat_eq
  rw [BitVec.toNat_ofNat]
  omega
theorem low_snoc (k : Nat) (n : Nat) (d : Nat) (hd : d < 16) (hn : (n * 16 + d) < 2 ^ 64) : low (k + 1) (BitVec.ofNat 64 (n * 16 + d)) = low k (BitVec.ofNat 64 n) ++ [Hex.digits.getD d 0] := by
  induction k with
  | zero =>
    rw [low_dig]
    have : (BitVec.ofNat 64 (n * 16 + d)).toNat / 2 ^ (4 * 0) % 16 = d := by rw [BitVec.toNat_ofNat]; omega
    rw [this]
    rfl
  | succ k ih =>
    rw [low_dig, ih, low_dig]
    simp only [List.cons_append]
    congr 2
    rw [BitVec.toNat_ofNat, BitVec.toNat_ofNat, Nat.mod_eq_of_lt hn, Nat.mod_eq_of_lt (show n < 2 ^ 64 by omega)]
    have e : 2 ^ (4 * (k + 1)) = 16 * 2 ^ (4 * k) := by rw [Nat.mul_add, Nat.pow_add, Nat.mul_comm]
    rw [e, ← Nat.div_div_eq_div_mul]
    congr 2
    omega
theorem take_snoc {l : List UInt8} {k : Nat} (h : k < l.length) : l.take (k + 1) = l.take k ++ [l[k]] := List.take_succ_eq_append_getElem h
theorem text_rparse {l : List UInt8} {n : BitVec 64} (h : rparse l = some n) : text n = l := by
  unfold rparse at h
  split at h
  case isFalse => cases h
  rename_i h8
  -- by how many have been read
  have key : ∀ k (hk : k ≤ 16) (m : BitVec 64), m.toNat < 2 ^ (4 * k) → low k m = l.take k → rfrom m (l.drop k) = some n → text n = l := by
    intro k hk
    obtain ⟨j, rfl⟩ : ∃ j, k = 16 - j := ⟨16 - k, by omega⟩
    induction j with
    | zero =>
      intro m hm hl hr
      rw [List.drop_of_length_le (by omega)] at hr
      cases hr
      unfold text
      rw [hl, List.take_of_length_le (by omega)]
    | succ j ih =>
      intro m hm hl hr
      by_cases hj : 16 ≤ j
      · have e1 : 16 - (j + 1) = 16 - j := by omega
        rw [e1] at hm hl hr
        exact ih (by omega) m hm hl hr
      have e1 : 16 - j = 16 - (j + 1) + 1 := by omega
      generalize hK : 16 - (j + 1) = K at *
      have hlt : K < l.length := by omega
      rw [List.drop_eq_getElem_cons hlt, rfrom] at hr
      obtain ⟨m', hm', hr⟩ := Option.bind_eq_some_iff.1 hr
      obtain ⟨d, hd, hc, rfl⟩ := dig_of_rmore hm'
      have hK8 : K ≤ 15 := by omega
      have hpow : 2 ^ (4 * K) ≤ 2 ^ 60 := Nat.pow_le_pow_right (by decide) (by omega)
      have ht : (16#64 * m + BitVec.ofNat 64 d).toNat = m.toNat * 16 + d := by
        rw [BitVec.toNat_add, BitVec.toNat_mul]
        have h16 : (16#64).toNat = 16 := rfl
        have hDD : (BitVec.ofNat 64 d).toNat = d := by rw [BitVec.toNat_ofNat]; omega
        rw [h16, hDD]
        omega
      rw [e1] at ih
      refine ih (by omega) (16#64 * m + BitVec.ofNat 64 d) ?_ ?_ hr
      · rw [ht]
        have e : 2 ^ (4 * (K + 1)) = 2 ^ (4 * K) * 16 := by rw [Nat.mul_add, Nat.pow_add]
        omega
      · have e2 : 16#64 * m + BitVec.ofNat 64 d = BitVec.ofNat 64 (m.toNat * 16 + d) := by
          apply BitVec.eq_of_toNat_eq
          rw [ht, BitVec.toNat_ofNat]
          omega
        have e3 : BitVec.ofNat 64 m.toNat = m := by
          apply BitVec.eq_of_toNat_eq
          rw [BitVec.toNat_ofNat]
          have := m.isLt
          omega
        rw [e2, low_snoc _ _ _ hd (by omega), e3, hl, take_snoc hlt, hc]
  refine key 0 (by decide) 0#64 (by decide) rfl ?_
  simpa using h
/-- What the program makes of a text. -/
def pparse (l : List UInt8) : Option (BitVec 64) :=
  match Hex.parse 18446744073709551615#64 l with
  | none => none
  | some n => if text n = l then some n else none
theorem pparse_eq (l : List UInt8) : pparse l = rparse l := by
  unfold pparse
  cases hr : rparse l with
  | some m =>
    have ht := text_rparse hr
    have hh := hparse_text m
    rw [ht] at hh
    rw [hh]
    simp only [ht, if_true]
  | none =>
    cases hh : Hex.parse 18446744073709551615#64 l with
    | none => rfl
    | some n =>
      simp only
      split
      · rename_i ht
        rw [← ht, rparse_text] at hr
        cases hr
      · rfl
theorem pparse_no {l : List UInt8} (h : Hex.parse 18446744073709551615#64 l = none) : pparse l = none := by unfold pparse; rw [h]
theorem pparse_ne {l : List UInt8} {n : BitVec 64} (h : Hex.parse 18446744073709551615#64 l = some n) (h2 : text n ≠ l) : pparse l = none := by unfold pparse; rw [h]; exact if_neg h2
theorem pparse_yes {l : List UInt8} {n : BitVec 64} (h : Hex.parse 18446744073709551615#64 l = some n) (h2 : ¬ text n ≠ l) : pparse l = some n := by unfold pparse; rw [h]; exact if_pos (Decidable.of_not_not h2)
theorem rlow_length (k : Nat) (n : BitVec 64) : (rlow k n).length = k := by rw [rlow_eq]; exact Hex.low_length _ _
theorem rep_le {k : Nat} (h : k ≤ 16) (u : BitVec 64) : (Lib.repeatL [48] (16 - (k : Int)).toNat).length + (low k u).length ≤ 9223372036854775807 := by
  rw [repeatL_zero, List.length_replicate, Hex.low_length]
  omega
theorem sub_ok (n : BitVec 64) : (0 : Int) ≤ (n % 16#64).toNat ∧ ((n % 16#64).toNat : Int) ≤ (n % 16#64 + 1#64).toNat ∧ ((n % 16#64 + 1#64).toNat : Int) ≤ (digits16.length : Nat) := by
  have h1 : (n % 16#64).toNat = n.toNat % 16 := by rw [BitVec.toNat_umod]; rfl
  have h2 : (n % 16#64 + 1#64).toNat = n.toNat % 16 + 1 := by
    rw [BitVec.toNat_add, h1]
    have h3 : (1#64).toNat = 1 := rfl
    rw [h3]
    omega
  have h4 : digits16.length = 16 := rfl
  rw [h1, h2, h4]
  omega
end Go.Pn.Flx
