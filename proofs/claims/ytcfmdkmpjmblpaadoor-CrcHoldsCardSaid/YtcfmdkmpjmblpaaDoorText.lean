/-
  Plain laws of the texts of check sums: no program in sight. No condition.
-/
import Derived.Lib.Repeat
import Derived.Test.YtcfmdkmpjmblpaaDoorHexPlain
import Derived.Test.YtcfmdkmpjmblpaaDoorPlain
namespace Go.Pn.Crc
open Go.Pn.Hex (low dig Count)

/-- The text of a check sum. -/
def text (n : BitVec 32) : List UInt8 := low 8 (n.setWidth 64)
theorem text_length (n : BitVec 32) : (text n).length = 8 := Hex.low_length _ _
/-- Digits before the first one are 0. -/
theorem low_zero {k j : Nat} {u : BitVec 64} (h : u >>> (4 * k) = 0#64) : low (k + j) u = List.replicate j 48 ++ low k u := by
  induction j with
  | zero => simp
  | succ j ih =>
    have e : u >>> (4 * (k + j)) = 0#64 := by
      rw [Nat.mul_add, BitVec.shiftRight_add, h]
      simp
    show dig ((u >>> (4 * (k + j))) &&& 15#64) :: low (k + j) u = _
    rw [e, ih, List.replicate_succ]
    rfl
theorem count_le {n : BitVec 32} {k : Nat} (h : Count k (n.setWidth 64)) : k ≤ 8 := by
  rcases h.2.2.2 with rfl | h2
  · decide
  · rcases Nat.lt_or_ge k 9 with h3 | h3
    · omega
    · exfalso
      apply h2
      rw [Hex.shr_zero_iff]
      have h4 := n.isLt
      have h5 : 2 ^ 32 ≤ 2 ^ (4 * (k - 1)) := Nat.pow_le_pow_right (by decide) (by omega)
      have h6 : (n.setWidth 64).toNat = n.toNat := by rw [BitVec.toNat_setWidth]; omega
      rw [h6]
      exact Nat.div_eq_of_lt (by omega)
theorem repeatL_zero (c : Nat) : Lib.repeatL [48] c = List.replicate c 48 := by
  induction c with
  | zero => rfl
  | succ c ih => rw [Lib.repeatL, ih]; rfl
/-- What FormatUint gives, with zeros before it. -/
theorem text_of {n : BitVec 32} {k : Nat} (h : Count k (n.setWidth 64)) : Lib.repeatL [48] (8 - (k : Int)).toNat ++ low k (n.setWidth 64) = text n := by
  have hk := count_le h
  have e : (8 - (k : Int)).toNat = 8 - k := by omega
  rw [e, repeatL_zero, ← low_zero h.2.2.1]
  unfold text
  congr 1
  omega

/-! #### the reference's text -/
def digits16 : List UInt8 := [48, 49, 50, 51, 52, 53, 54, 55, 56, 57, 97, 98, 99, 100, 101, 102]
def divs : Nat → BitVec 32 → BitVec 32
  | 0, n => n
  | k + 1, n => divs k n / 16#32
def rlow : Nat → BitVec 32 → List UInt8
  | 0, _ => []
  | k + 1, n => ((digits16.take ((divs k n % 16#32 + 1#32).toNat)).drop (divs k n % 16#32).toNat) ++ rlow k n
theorem divs_nat (k : Nat) (n : BitVec 32) : (divs k n).toNat = n.toNat / 2 ^ (4 * k) := by
  induction k with
  | zero => simp [divs]
  | succ k ih =>
    rw [divs, BitVec.toNat_udiv, ih, Nat.mul_add, Nat.pow_add, Nat.div_div_eq_div_mul]
    rfl
theorem sub_digits : ∀ d : Fin 16, (digits16.take (d.val + 1)).drop d.val = [Hex.digits.getD d.val 0] := by decide
theorem rlow_eq (k : Nat) (n : BitVec 32) : rlow k n = low k (n.setWidth 64) := by
  induction k with
  | zero => rfl
  | succ k ih =>
    rw [rlow, low, ih]
    have h1 := n.isLt
    have e0 : (divs k n % 16#32).toNat = n.toNat / 2 ^ (4 * k) % 16 := by rw [BitVec.toNat_umod, divs_nat]; rfl
    have hlt : (divs k n % 16#32).toNat < 16 := by omega
    have e1 : (divs k n % 16#32 + 1#32).toNat = (divs k n % 16#32).toNat + 1 := by
      rw [BitVec.toNat_add]
      have : (1#32).toNat = 1 := rfl
      omega
    have e2 : (((n.setWidth 64) >>> (4 * k)) &&& 15#64).toNat = n.toNat / 2 ^ (4 * k) % 16 := by
      rw [BitVec.toNat_and, BitVec.toNat_ushiftRight, Nat.shiftRight_eq_div_pow]
      have h6 : (n.setWidth 64).toNat = n.toNat := by rw [BitVec.toNat_setWidth]; omega
      have h7 : (15#64).toNat = 2 ^ 4 - 1 := rfl
      rw [h6, h7, Nat.and_two_pow_sub_one_eq_mod]
    have e3 := sub_digits ⟨_, hlt⟩
    simp only at e3
    rw [e1, e3]
    unfold Hex.dig
    rw [e2, e0]
    rfl
theorem rtext (n : BitVec 32) : rlow 8 n = text n := rlow_eq 8 n

/-! #### the reference's parse -/
def rmore (n : BitVec 32) (c : BitVec 8) : Option (BitVec 32) :=
  if 48#8 ≤ c ∧ c ≤ 57#8 then some (16#32 * n + (c - 48#8).setWidth 32)
  else if 97#8 ≤ c ∧ c ≤ 102#8 then some (16#32 * n + 10#32 + (c - 97#8).setWidth 32)
  else none
def rfrom : BitVec 32 → List UInt8 → Option (BitVec 32)
  | n, [] => some n
  | n, c :: l => (rmore n c.toBitVec).bind fun m => rfrom m l
def rparse (l : List UInt8) : Option (BitVec 32) := if l.length = 8 then rfrom 0#32 l else none
theorem rmore_dig {n : BitVec 32} {c : BitVec 8} (h : 48#8 ≤ c ∧ c ≤ 57#8) : rmore n c = some (16#32 * n + (c - 48#8).setWidth 32) := by unfold rmore; rw [if_pos h]
theorem rmore_let {n : BitVec 32} {c : BitVec 8} (h : ¬ (48#8 ≤ c ∧ c ≤ 57#8)) (h2 : 97#8 ≤ c ∧ c ≤ 102#8) : rmore n c = some (16#32 * n + 10#32 + (c - 97#8).setWidth 32) := by unfold rmore; rw [if_neg h, if_pos h2]
theorem rmore_bad {n : BitVec 32} {c : BitVec 8} (h : ¬ (48#8 ≤ c ∧ c ≤ 57#8)) (h2 : ¬ (97#8 ≤ c ∧ c ≤ 102#8)) : rmore n c = none := by unfold rmore; rw [if_neg h, if_neg h2]
theorem rfrom_some {m m' : BitVec 32} {l : List UInt8} {k : Nat} {c : BitVec 8} (hk : k < l.length) (hp : rfrom 0#32 l = rfrom m (l.drop k)) (hc : c = l[k].toBitVec) (h : rmore m c = some m') : rfrom 0#32 l = rfrom m' (l.drop (k + 1)) := by
  rw [hp, List.drop_eq_getElem_cons hk, rfrom, ← hc, h]; rfl
theorem rfrom_none {m : BitVec 32} {l : List UInt8} {k : Nat} {c : BitVec 8} (hk : k < l.length) (hp : rfrom 0#32 l = rfrom m (l.drop k)) (hc : c = l[k].toBitVec) (h : rmore m c = none) (h8 : l.length = 8) : rparse l = none := by
  unfold rparse
  rw [if_pos h8, hp, List.drop_eq_getElem_cons hk, rfrom, ← hc, h]; rfl
theorem rfrom_end {m : BitVec 32} {l : List UInt8} {k : Nat} (hk : k = 8) (hp : rfrom 0#32 l = rfrom m (l.drop k)) (h8 : l.length = 8) : rparse l = some m := by
  unfold rparse
  rw [if_pos h8, hp, List.drop_of_length_le (by omega)]; rfl

/-- A digit, read. -/
theorem rmore_of_dig (n : BitVec 32) (d : Nat) (hd : d < 16) : rmore n (Hex.digits.getD d 0).toBitVec = some (16#32 * n + BitVec.ofNat 32 d) := by
  have key : ∀ d : Fin 16, (48#8 ≤ (Hex.digits.getD d.val 0).toBitVec ∧ (Hex.digits.getD d.val 0).toBitVec ≤ 57#8 ∧ ((Hex.digits.getD d.val 0).toBitVec - 48#8).setWidth 32 = BitVec.ofNat 32 d.val) ∨
      (¬ (48#8 ≤ (Hex.digits.getD d.val 0).toBitVec ∧ (Hex.digits.getD d.val 0).toBitVec ≤ 57#8) ∧ (97#8 ≤ (Hex.digits.getD d.val 0).toBitVec ∧ (Hex.digits.getD d.val 0).toBitVec ≤ 102#8) ∧ 10#32 + ((Hex.digits.getD d.val 0).toBitVec - 97#8).setWidth 32 = BitVec.ofNat 32 d.val) := by decide
  rcases key ⟨d, hd⟩ with ⟨h1, h2, h3⟩ | ⟨h1, h2, h3⟩
  · rw [rmore_dig ⟨h1, h2⟩]
    show some (16#32 * n + _) = _
    rw [show ((Hex.digits.getD d 0).toBitVec - 48#8).setWidth 32 = BitVec.ofNat 32 d from h3]
  · rw [rmore_let h1 h2, BitVec.add_assoc]
    rw [show 10#32 + ((Hex.digits.getD d 0).toBitVec - 97#8).setWidth 32 = BitVec.ofNat 32 d from h3]
theorem hval_of_dig (d : Nat) (hd : d < 16) : Hex.val (Hex.digits.getD d 0).toBitVec = some (BitVec.ofNat 8 d) := by
  have key : ∀ d : Fin 16, Hex.val (Hex.digits.getD d.val 0).toBitVec = some (BitVec.ofNat 8 d.val) := by decide
  exact key ⟨d, hd⟩
/-- What is read was a digit. -/
theorem dig_of_rmore {n m : BitVec 32} {c : UInt8} (h : rmore n c.toBitVec = some m) : ∃ d, d < 16 ∧ c = Hex.digits.getD d 0 ∧ m = 16#32 * n + BitVec.ofNat 32 d := by
  have key : ∀ x : Fin 256, (rmore 0#32 (BitVec.ofNat 8 x.val)).isSome = true → ∃ d : Fin 16, BitVec.ofNat 8 x.val = (Hex.digits.getD d.val 0).toBitVec := by decide +kernel
  have hs : (rmore 0#32 c.toBitVec).isSome = true := by
    unfold rmore at h ⊢
    split
    · rfl
    · rename_i h1
      rw [if_neg h1] at h
      split
      · rfl
      · rename_i h2
        rw [if_neg h2] at h
        cases h
  obtain ⟨d, hd⟩ := key ⟨c.toBitVec.toNat, c.toBitVec.isLt⟩ (by simpa using hs)
  have hc : c.toBitVec = (Hex.digits.getD d.val 0).toBitVec := by rw [← hd]; simp
  refine ⟨d.val, d.isLt, UInt8.toBitVec_inj.1 hc, ?_⟩
  rw [hc, rmore_of_dig n d.val d.isLt] at h
  exact (Option.some.inj h).symm

theorem low_dig (k : Nat) (u : BitVec 64) : low (k + 1) u = Hex.digits.getD (u.toNat / 2 ^ (4 * k) % 16) 0 :: low k u := by
  rw [low]
  unfold Hex.dig
  congr 2
  rw [BitVec.toNat_and, BitVec.toNat_ushiftRight, Nat.shiftRight_eq_div_pow]
  have h7 : (15#64).toNat = 2 ^ 4 - 1 := rfl
  rw [h7, Nat.and_two_pow_sub_one_eq_mod]
theorem split16 (u k : Nat) : u % 2 ^ (4 * (k + 1)) = (u / 2 ^ (4 * k) % 16) * 2 ^ (4 * k) + u % 2 ^ (4 * k) := by
  have e : 2 ^ (4 * (k + 1)) = 2 ^ (4 * k) * 16 := by rw [Nat.mul_add, Nat.pow_add]
  rw [e, Nat.mod_mul, Nat.add_comm, Nat.mul_comm (2 ^ (4 * k))]
/-- The reference reads digits. -/
theorem rfrom_low (k : Nat) (n : BitVec 32) (u : BitVec 64) (h : n.toNat * 2 ^ (4 * k) + u.toNat % 2 ^ (4 * k) < 2 ^ 32) :
    rfrom n (low k u) = some (BitVec.ofNat 32 (n.toNat * 2 ^ (4 * k) + u.toNat % 2 ^ (4 * k))) := by
  induction k generalizing n with
  | zero => simp [low, rfrom, Nat.mod_one]
  | succ k ih =>
    have hd : u.toNat / 2 ^ (4 * k) % 16 < 16 := Nat.mod_lt _ (by decide)
    rw [low_dig, rfrom, rmore_of_dig _ _ hd]
    have hp : 0 < 2 ^ (4 * k) := Nat.pow_pos (by decide)
    have e : 2 ^ (4 * (k + 1)) = 2 ^ (4 * k) * 16 := by rw [Nat.mul_add, Nat.pow_add]
    rw [split16, e] at h ⊢
    generalize hD : u.toNat / 2 ^ (4 * k) % 16 = D at *
    have hn : 16 * n.toNat + D < 2 ^ 32 := by
      have h1 : (16 * n.toNat + D) * 1 ≤ (16 * n.toNat + D) * 2 ^ (4 * k) := Nat.mul_le_mul_left _ hp
      have h2 : (16 * n.toNat + D) * 2 ^ (4 * k) = n.toNat * (2 ^ (4 * k) * 16) + D * 2 ^ (4 * k) := by rw [Nat.add_mul, Nat.mul_comm 16, Nat.mul_assoc, Nat.mul_comm 16]
      omega
    have hm : (16#32 * n + BitVec.ofNat 32 D).toNat = 16 * n.toNat + D := by
      rw [BitVec.toNat_add, BitVec.toNat_mul]
      have h16 : (16#32).toNat = 16 := rfl
      have hDD : (BitVec.ofNat 32 D).toNat = D := by rw [BitVec.toNat_ofNat]; omega
      rw [h16, hDD]
      omega
    have h2 : (16 * n.toNat + D) * 2 ^ (4 * k) = n.toNat * (2 ^ (4 * k) * 16) + D * 2 ^ (4 * k) := by rw [Nat.add_mul, Nat.mul_comm 16, Nat.mul_assoc, Nat.mul_comm 16]
    show rfrom (16#32 * n + BitVec.ofNat 32 D) (low k u) = _
    rw [ih _ (by rw [hm]; omega), hm, h2, Nat.add_assoc]
/-- strconv reads digits. -/
theorem hfrom_low (k : Nat) (n u : BitVec 64) (h : n.toNat * 2 ^ (4 * k) + u.toNat % 2 ^ (4 * k) < 2 ^ 32) :
    Hex.parseFrom 4294967295#64 n (low k u) = some (BitVec.ofNat 64 (n.toNat * 2 ^ (4 * k) + u.toNat % 2 ^ (4 * k))) := by
  induction k generalizing n with
  | zero => simp [low, Hex.parseFrom, Nat.mod_one]
  | succ k ih =>
    have hd : u.toNat / 2 ^ (4 * k) % 16 < 16 := Nat.mod_lt _ (by decide)
    rw [low_dig, Hex.parseFrom]
    have hp : 0 < 2 ^ (4 * k) := Nat.pow_pos (by decide)
    have e : 2 ^ (4 * (k + 1)) = 2 ^ (4 * k) * 16 := by rw [Nat.mul_add, Nat.pow_add]
    rw [split16, e] at h ⊢
    generalize hD : u.toNat / 2 ^ (4 * k) % 16 = D at *
    have h2 : (n.toNat * 16 + D) * 2 ^ (4 * k) = n.toNat * (2 ^ (4 * k) * 16) + D * 2 ^ (4 * k) := by rw [Nat.add_mul, Nat.mul_assoc, Nat.mul_comm 16]
    have hn : n.toNat * 16 + D < 2 ^ 32 := by
      have h1 : (n.toNat * 16 + D) * 1 ≤ (n.toNat * 16 + D) * 2 ^ (4 * k) := Nat.mul_le_mul_left _ hp
      omega
    have e16 : (n * 16#64).toNat = n.toNat * 16 := by
      rw [BitVec.toNat_mul]
      have : (16#64).toNat = 16 := rfl
      rw [this]; omega
    have ed : ((BitVec.ofNat 8 D).setWidth 64 : BitVec 64).toNat = D := by
      rw [BitVec.toNat_setWidth, BitVec.toNat_ofNat]; omega
    have hm : (n * 16#64 + (BitVec.ofNat 8 D).setWidth 64).toNat = n.toNat * 16 + D := by
      rw [BitVec.toNat_add, e16, ed]; omega
    have hmore : Hex.more 4294967295#64 n (Hex.digits.getD D 0).toBitVec = some (n * 16#64 + (BitVec.ofNat 8 D).setWidth 64) := by
      refine Hex.more_ok (hval_of_dig D hd) ?_ ?_ ?_ ?_
      · rw [BitVec.le_def]
        have h16 : (16#8).toNat = 16 := rfl
        have hDD : (BitVec.ofNat 8 D).toNat = D := by rw [BitVec.toNat_ofNat]; omega
        omega
      · rw [BitVec.le_def]
        have : (1152921504606846976#64).toNat = 1152921504606846976 := rfl
        omega
      · rw [BitVec.lt_def, hm, e16]; omega
      · rw [BitVec.lt_def, hm]
        have : (4294967295#64).toNat = 4294967295 := rfl
        omega
    rw [hmore]
    show Hex.parseFrom _ (n * 16#64 + (BitVec.ofNat 8 D).setWidth 64) (low k u) = _
    rw [ih _ (by rw [hm]; omega), hm, h2, Nat.add_assoc]
theorem zx (n : BitVec 32) : (n.setWidth 64).toNat = n.toNat := by rw [BitVec.toNat_setWidth]; have := n.isLt; omega
theorem rparse_text (n : BitVec 32) : rparse (text n) = some n := by
  unfold rparse
  have hn := n.isLt
  rw [if_pos (text_length n)]
  unfold text
  have e0 : (0#32).toNat * 2 ^ (4 * 8) + (n.setWidth 64).toNat % 2 ^ (4 * 8) = n.toNat := by rw [zx, Nat.mod_eq_of_lt hn]; show 0 * _ + _ = _; rw [Nat.zero_mul, Nat.zero_add]
  rw [rfrom_low 8 _ _ (by rw [e0]; exact hn), e0]
  congr 1
  apply BitVec.eq_of_toNat_eq
  rw [BitVec.toNat_ofNat]
  omega
theorem hparse_text (n : BitVec 32) : Hex.parse 4294967295#64 (text n) = some (n.setWidth 64) := by
  unfold Hex.parse
  have hn := n.isLt
  rw [if_neg (by intro h; have := text_length n; rw [h] at this; cases this)]
  unfold text
  have e0 : (0#64).toNat * 2 ^ (4 * 8) + (n.setWidth 64).toNat % 2 ^ (4 * 8) = n.toNat := by rw [zx, Nat.mod_eq_of_lt hn]; show 0 * _ + _ = _; rw [Nat.zero_mul, Nat.zero_add]
  rw [hfrom_low 8 _ _ (by rw [e0]; exact hn), e0]
  congr 1
  apply BitVec.eq_of_toNat_eq
  rw [zx, BitVec.toNat_ofNat]
  omega
theorem low_snoc (k : Nat) (n : Nat) (d : Nat) (hd : d < 16) (hn : (n * 16 + d) < 2 ^ 64) : low (k + 1) (BitVec.ofNat 64 (n * 16 + d)) = low k (BitVec.ofNat 64 n) ++ [Hex.digits.getD d 0] := by
  induction k with
  | zero =>
    rw [low_dig]
    have : (BitVec.ofNat 64 (n * 16 + d)).toNat / 2 ^ (4 * 0) % 16 = d := by rw [BitVec.toNat_ofNat]; omega
    rw [this]
    rfl
  | succ k ih =>
    rw [low_dig, ih, low_dig]
    simp only [List.cons_append]
    congr 2
    rw [BitVec.toNat_ofNat, BitVec.toNat_ofNat, Nat.mod_eq_of_lt hn, Nat.mod_eq_of_lt (show n < 2 ^ 64 by omega)]
    have e : 2 ^ (4 * (k + 1)) = 16 * 2 ^ (4 * k) := by rw [Nat.mul_add, Nat.pow_add, Nat.mul_comm]
    rw [e, ← Nat.div_div_eq_div_mul]
    congr 2
    omega
theorem take_snoc {l : List UInt8} {k : Nat} (h : k < l.length) : l.take (k + 1) = l.take k ++ [l[k]] := List.take_succ_eq_append_getElem h
theorem text_rparse {l : List UInt8} {n : BitVec 32} (h : rparse l = some n) : text n = l := by
  unfold rparse at h
  split at h
  case isFalse => cases h
  rename_i h8
  -- by how many have been read
  have key : ∀ k (hk : k ≤ 8) (m : BitVec 32), m.toNat < 2 ^ (4 * k) → low k (m.setWidth 64) = l.take k → rfrom m (l.drop k) = some n → text n = l := by
    intro k hk
    obtain ⟨j, rfl⟩ : ∃ j, k = 8 - j := ⟨8 - k, by omega⟩
    induction j with
    | zero =>
      intro m hm hl hr
      rw [List.drop_of_length_le (by omega)] at hr
      cases hr
      unfold text
      rw [hl, List.take_of_length_le (by omega)]
    | succ j ih =>
      intro m hm hl hr
      by_cases hj : 8 ≤ j
      · have e1 : 8 - (j + 1) = 8 - j := by omega
        rw [e1] at hm hl hr
        exact ih (by omega) m hm hl hr
      have e1 : 8 - j = 8 - (j + 1) + 1 := by omega
      generalize hK : 8 - (j + 1) = K at *
      have hlt : K < l.length := by omega
      rw [List.drop_eq_getElem_cons hlt, rfrom] at hr
      obtain ⟨m', hm', hr⟩ := Option.bind_eq_some_iff.1 hr
      obtain ⟨d, hd, hc, rfl⟩ := dig_of_rmore hm'
      have hK8 : K ≤ 7 := by omega
      have hpow : 2 ^ (4 * K) ≤ 2 ^ 28 := Nat.pow_le_pow_right (by decide) (by omega)
      have ht : (16#32 * m + BitVec.ofNat 32 d).toNat = m.toNat * 16 + d := by
        rw [BitVec.toNat_add, BitVec.toNat_mul]
        have h16 : (16#32).toNat = 16 := rfl
        have hDD : (BitVec.ofNat 32 d).toNat = d := by rw [BitVec.toNat_ofNat]; omega
        rw [h16, hDD]
        omega
      rw [e1] at ih
      refine ih (by omega) (16#32 * m + BitVec.ofNat 32 d) ?_ ?_ hr
      · rw [ht]
        have e : 2 ^ (4 * (K + 1)) = 2 ^ (4 * K) * 16 := by rw [Nat.mul_add, Nat.pow_add]
        omega
      · have e2 : (16#32 * m + BitVec.ofNat 32 d).setWidth 64 = BitVec.ofNat 64 (m.toNat * 16 + d) := by
          apply BitVec.eq_of_toNat_eq
          rw [zx, ht, BitVec.toNat_ofNat]
          omega
        have e3 : BitVec.ofNat 64 m.toNat = m.setWidth 64 := by
          apply BitVec.eq_of_toNat_eq
          rw [zx, BitVec.toNat_ofNat]
          have := m.isLt
          omega
        rw [e2, low_snoc _ _ _ hd (by omega), e3, hl, take_snoc hlt, hc]
  refine key 0 (by decide) 0#32 (by decide) rfl ?_
  simpa using h
/-- What the program makes of a text. -/
def pparse (l : List UInt8) : Option (BitVec 32) :=
  match Hex.parse 4294967295#64 l with
  | none => none
  | some n => if text (n.setWidth 32) = l then some (n.setWidth 32) else none
theorem pparse_eq (l : List UInt8) : pparse l = rparse l := by
  unfold pparse
  cases hr : rparse l with
  | some m =>
    have ht := text_rparse hr
    have hh := hparse_text m
    rw [ht] at hh
    rw [hh]
    have e : (m.setWidth 64).setWidth 32 = m := by
      apply BitVec.eq_of_toNat_eq
      rw [BitVec.toNat_setWidth, zx]
      have := m.isLt
      omega
    simp only [e, ht, if_true]
  | none =>
    cases hh : Hex.parse 4294967295#64 l with
    | none => rfl
    | some n =>
      simp only
      split
      · rename_i ht
        rw [← ht, rparse_text] at hr
        cases hr
      · rfl
theorem pparse_no {l : List UInt8} (h : Hex.parse 4294967295#64 l = none) : pparse l = none := by unfold pparse; rw [h]
theorem pparse_ne {l : List UInt8} {n : BitVec 64} (h : Hex.parse 4294967295#64 l = some n) (h2 : text (n.setWidth 32) ≠ l) : pparse l = none := by unfold pparse; rw [h]; exact if_neg h2
theorem pparse_yes {l : List UInt8} {n : BitVec 64} (h : Hex.parse 4294967295#64 l = some n) (h2 : ¬ text (n.setWidth 32) ≠ l) : pparse l = some (n.setWidth 32) := by unfold pparse; rw [h]; exact if_pos (Decidable.of_not_not h2)
theorem rlow_length (k : Nat) (n : BitVec 32) : (rlow k n).length = k := by rw [rlow_eq]; exact Hex.low_length _ _
theorem rep_le {k : Nat} (h : k ≤ 8) (u : BitVec 64) : (Lib.repeatL [48] (8 - (k : Int)).toNat).length + (low k u).length ≤ 9223372036854775807 := by
  rw [repeatL_zero, List.length_replicate, Hex.low_length]
  omega
theorem sub_ok (n : BitVec 32) : (0 : Int) ≤ (n % 16#32).toNat ∧ ((n % 16#32).toNat : Int) ≤ (n % 16#32 + 1#32).toNat ∧ ((n % 16#32 + 1#32).toNat : Int) ≤ (digits16.length : Nat) := by
  have h1 : (n % 16#32).toNat = n.toNat % 16 := by rw [BitVec.toNat_umod]; rfl
  have h2 : (n % 16#32 + 1#32).toNat = n.toNat % 16 + 1 := by
    rw [BitVec.toNat_add, h1]
    have h3 : (1#32).toNat = 1 := rfl
    rw [h3]
    omega
  have h4 : digits16.length = 16 := rfl
  rw [h1, h2, h4]
  omega
end Go.Pn.Crc
