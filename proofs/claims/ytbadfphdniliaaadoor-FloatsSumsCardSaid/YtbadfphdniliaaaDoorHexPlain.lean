/-
  Plain laws of numbers in hexadecimal: no program in sight. No condition.
-/
import Derived.Test.YtbadfphdniliaaaDoorFw4
namespace Go.Pn.Hex

/-- The digits that strconv writes. -/
def digits : List UInt8 := [48, 49, 50, 51, 52, 53, 54, 55, 56, 57, 97, 98, 99, 100, 101, 102, 103, 104, 105, 106, 107, 108, 109, 110, 111, 112, 113, 114, 115, 116, 117, 118, 119, 120, 121, 122]
def dig (x : BitVec 64) : UInt8 := digits.getD x.toNat 0
/-- The last k digits of a number. -/
def low : Nat → BitVec 64 → List UInt8
  | 0, _ => []
  | k + 1, u => dig ((u >>> (4 * k)) &&& 15#64) :: low k u
theorem low_length (k : Nat) (u : BitVec 64) : (low k u).length = k := by induction k <;> simp_all [low]
/-- The array as far as it is filled. -/
def arr (k : Nat) (u : BitVec 64) : List Value := List.replicate (65 - k) (.int .u8 0) ++ (low k u).map fun x => Value.int .u8 (x.toNat : Int)
theorem arr_length {k : Nat} (h : k ≤ 65) (u : BitVec 64) : (arr k u).length = 65 := by simp [arr, low_length]; omega
theorem arr0 (u : BitVec 64) : arr 0 u = List.replicate 65 (.int .u8 0) := by simp [arr, low]
theorem arr_set {k : Nat} (h : k < 65) (u : BitVec 64) : (arr k u).set (64 - k) (.int .u8 ((dig ((u >>> (4 * k)) &&& 15#64)).toNat : Int)) = arr (k + 1) u := by
  obtain ⟨j, hj⟩ : ∃ j, 65 - k = j + 1 := ⟨64 - k, by omega⟩
  have h2 : 65 - (k + 1) = j := by omega
  have h3 : 64 - k = j := by omega
  unfold arr
  rw [hj, h2, h3, List.replicate_succ', List.set_append_left _ _ (by simp), List.set_append_right _ _ (by simp)]
  simp [low]
/-- How many digits a number has. -/
def Count (k : Nat) (u : BitVec 64) : Prop := 1 ≤ k ∧ k ≤ 16 ∧ u >>> (4 * k) = 0#64 ∧ (k = 1 ∨ u >>> (4 * (k - 1)) ≠ 0#64)
theorem shr_lt {u : BitVec 64} {k : Nat} (h : 16#64 ≤ u >>> (4 * k)) : k ≤ 14 := by
  rw [BitVec.le_def, BitVec.toNat_ushiftRight, Nat.shiftRight_eq_div_pow] at h
  rcases Nat.lt_or_ge k 15 with h' | h'
  · omega
  · exfalso
    have h1 := u.isLt
    have h2 : 2 ^ 60 ≤ 2 ^ (4 * k) := Nat.pow_le_pow_right (by decide) (by omega)
    have h3 : u.toNat / 2 ^ (4 * k) < 16 := by
      apply Nat.div_lt_of_lt_mul
      have : 2 ^ (4 * k) * 16 ≥ 2 ^ 64 := by omega
      omega
    have h4 : (16#64).toNat = 16 := rfl
    omega
theorem shr_shr (u : BitVec 64) (k : Nat) : (u >>> (4 * k)) >>> 4 = u >>> (4 * (k + 1)) := by
  rw [← BitVec.shiftRight_add]
  congr 1
theorem small_and {x : BitVec 64} (h : ¬ 16#64 ≤ x) : x &&& 15#64 = x := by
  apply BitVec.eq_of_toNat_eq
  rw [BitVec.le_def] at h
  rw [BitVec.toNat_and]
  have : (15#64).toNat = 2 ^ 4 - 1 := rfl
  rw [this, Nat.and_two_pow_sub_one_eq_mod]
  have : (16#64).toNat = 16 := rfl
  omega
theorem shr_zero_iff (u : BitVec 64) (j : Nat) : u >>> j = 0#64 ↔ u.toNat / 2 ^ j = 0 := by
  rw [← BitVec.toNat_inj, BitVec.toNat_ushiftRight, Nat.shiftRight_eq_div_pow]
  rfl
theorem count_of {u : BitVec 64} {k : Nat} (hk : k ≤ 15) (h : ¬ 16#64 ≤ u >>> (4 * k)) (hm : k = 0 ∨ 16#64 ≤ u >>> (4 * (k - 1))) : Count (k + 1) u := by
  refine ⟨by omega, by omega, ?_, ?_⟩
  · rw [← shr_shr]
    rw [BitVec.le_def] at h
    rw [shr_zero_iff]
    have : (16#64).toNat = 16 := rfl
    exact Nat.div_eq_of_lt (by omega)
  · rcases hm with rfl | hm
    · exact .inl rfl
    · by_cases h0 : k = 0
      · subst h0; exact .inl rfl
      right
      rw [Nat.add_sub_cancel]
      intro hz
      obtain ⟨j, rfl⟩ : ∃ j, k = j + 1 := ⟨k - 1, by omega⟩
      rw [Nat.add_sub_cancel] at hm
      rw [← shr_shr, shr_zero_iff] at hz
      rw [BitVec.le_def] at hm
      have : (16#64).toNat = 16 := rfl
      omega

/-- A digit's value: strconv takes capital letters too. -/
def val (c : BitVec 8) : Option (BitVec 8) :=
  if 48#8 ≤ c ∧ c ≤ 57#8 then some (c - 48#8)
  else if 97#8 ≤ c ||| 32#8 ∧ c ||| 32#8 ≤ 122#8 then some ((c ||| 32#8) - 97#8 + 10#8)
  else none
/-- One more digit. -/
def more (top : BitVec 64) (n : BitVec 64) (c : BitVec 8) : Option (BitVec 64) :=
  match val c with
  | none => none
  | some d =>
    if 16#8 ≤ d then none
    else if 1152921504606846976#64 ≤ n then none
    else if n * 16#64 + d.setWidth 64 < n * 16#64 then none
    else if top < n * 16#64 + d.setWidth 64 then none
    else some (n * 16#64 + d.setWidth 64)
def parseFrom (top : BitVec 64) : BitVec 64 → List UInt8 → Option (BitVec 64)
  | n, [] => some n
  | n, c :: l => (more top n c.toBitVec).bind fun m => parseFrom top m l
/-- What a text is in hexadecimal. -/
def parse (top : BitVec 64) (l : List UInt8) : Option (BitVec 64) := if l = [] then none else parseFrom top 0#64 l
/-- The text of an error number of strconv's. -/
def Bad (er : Value) : Prop := er = .iface 88 (.int .i64 1) ∨ er = .iface 88 (.int .i64 2)

/-- math/bits' table for TrailingZeros64. -/
def bruijn : List UInt8 := [0, 1, 56, 2, 57, 49, 28, 3, 61, 58, 42, 50, 38, 29, 17, 4, 62, 47, 59, 36, 45, 43, 51, 22, 53, 39, 33, 30, 24, 18, 12, 5, 63, 55, 48, 27, 60, 41, 37, 16, 46, 35, 44, 21, 52, 32, 23, 11, 54, 26, 40, 15, 34, 20, 31, 10, 25, 14, 19, 9, 13, 8, 7, 6]
theorem and_lt (x : BitVec 64) : 0 ≤ (((x &&& 15#64).toNat : Int)) ∧ (((x &&& 15#64).toNat : Int)) < (digits.length : Int) := by
  show 0 ≤ (((x &&& 15#64).toNat : Int)) ∧ (((x &&& 15#64).toNat : Int)) < (36 : Int)
  rw [BitVec.toNat_and]
  have : (15#64).toNat = 2 ^ 4 - 1 := rfl
  rw [this, Nat.and_two_pow_sub_one_eq_mod]
  omega
theorem not_ge_lt {x : BitVec 64} (h : ¬ 16#64 ≤ x) : 0 ≤ ((x.toNat : Int)) ∧ ((x.toNat : Int)) < (digits.length : Int) := by
  show 0 ≤ ((x.toNat : Int)) ∧ ((x.toNat : Int)) < (36 : Int)
  rw [BitVec.le_def] at h
  have : (16#64).toNat = 16 := rfl
  omega
theorem arr_sl {w : World} {b ty : Nat} {u : BitVec 64} {k : Nat} (hk : k ≤ 15) (h : Own w b ty (arr (k + 1) u)) :
    Sl byteE w (fun k => k = b) (.slice (some ⟨b, 0 + ((65 : Int) - (k : Int) - 1).toNat * 1, none⟩) ((65 : Int).toNat - ((65 : Int) - (k : Int) - 1).toNat) (65 - ((65 : Int) - (k : Int) - 1).toNat)) (low (k + 1) u) := by
  have e : ((65 : Int) - (k : Int) - 1).toNat = 64 - k := by omega
  rw [e]
  have e1 : 0 + (64 - k) * 1 = 64 - k := by omega
  have e2 : (65 : Int).toNat - (64 - k) = (low (k + 1) u).length := by rw [low_length]; show 65 - _ = _; omega
  have e3 : 65 - (64 - k) = k + 1 := by omega
  rw [e1, e2, e3]
  have hl := low_length (k + 1) u
  refine Own.part (G := byteF) h ?_ (by omega) (by unfold maxLen; omega) ?_
  · unfold arr
    have e4 : 65 - (k + 1) = 64 - k := by omega
    rw [e4, List.drop_append, List.drop_eq_nil_of_le (by simp), List.length_replicate, Nat.sub_self, List.nil_append, List.drop_zero, byteF_map]
    apply List.take_of_length_le
    rw [List.length_map]
    show _ ≤ _ * 1
    omega
  · rw [arr_length (by omega)]
    show 64 - k + (k + 1) * 1 ≤ 65
    omega
theorem u_start (u : BitVec 64) : Value.int .u64 (u.toNat : Int) = .int .u64 ((u >>> (4 * 0)).toNat : Int) := by rw [Nat.mul_zero, BitVec.ushiftRight_zero]
theorem u_next (u : BitVec 64) (k : Nat) : Value.int .u64 (((u >>> (4 * k)) >>> 4).toNat : Int) = .int .u64 ((u >>> (4 * (k + 1))).toNat : Int) := by rw [← shr_shr]

theorem val_dig {c : BitVec 8} (h : 48#8 ≤ c ∧ c ≤ 57#8) : val c = some (c - 48#8) := by unfold val; rw [if_pos h]
theorem val_let {c : BitVec 8} (h : ¬ (48#8 ≤ c ∧ c ≤ 57#8)) (h2 : 97#8 ≤ c ||| 32#8 ∧ c ||| 32#8 ≤ 122#8) : val c = some ((c ||| 32#8) - 97#8 + 10#8) := by unfold val; rw [if_neg h, if_pos h2]
theorem more_bad {top n : BitVec 64} {c : BitVec 8} (h : ¬ (48#8 ≤ c ∧ c ≤ 57#8)) (h2 : ¬ (97#8 ≤ c ||| 32#8 ∧ c ||| 32#8 ≤ 122#8)) : more top n c = none := by unfold more val; rw [if_neg h, if_neg h2]
theorem more_ge {top n : BitVec 64} {c d : BitVec 8} (h : val c = some d) (h2 : 16#8 ≤ d) : more top n c = none := by unfold more; rw [h]; simp only [if_pos h2]
theorem more_cut {top n : BitVec 64} {c d : BitVec 8} (h : val c = some d) (h2 : 1152921504606846976#64 ≤ n) : more top n c = none := by
  unfold more; rw [h]; simp only [if_pos h2]; split <;> rfl
theorem more_o1 {top n : BitVec 64} {c d : BitVec 8} (h : val c = some d) (h2 : n * 16#64 + d.setWidth 64 < n * 16#64) : more top n c = none := by
  unfold more; rw [h]; simp only [if_pos h2]; split <;> (try rfl); split <;> rfl
theorem more_o2 {top n : BitVec 64} {c d : BitVec 8} (h : val c = some d) (h2 : top < n * 16#64 + d.setWidth 64) : more top n c = none := by
  unfold more; rw [h]; simp only [if_pos h2]; split <;> (try rfl); split <;> (try rfl); split <;> rfl
theorem more_ok {top n : BitVec 64} {c d : BitVec 8} (h : val c = some d) (h1 : ¬ 16#8 ≤ d) (h2 : ¬ 1152921504606846976#64 ≤ n) (h3 : ¬ n * 16#64 + d.setWidth 64 < n * 16#64) (h4 : ¬ top < n * 16#64 + d.setWidth 64) : more top n c = some (n * 16#64 + d.setWidth 64) := by
  unfold more; rw [h]; simp only [if_neg h1, if_neg h2, if_neg h3, if_neg h4]
theorem from_none {top m : BitVec 64} {l : List UInt8} {k : Nat} {c : BitVec 8} (hk : k < l.length) (hp : parseFrom top 0#64 l = parseFrom top m (l.drop k)) (hc : c = l[k].toBitVec) (h : more top m c = none) (hne : l ≠ []) : parse top l = none := by
  unfold parse
  rw [if_neg hne, hp, List.drop_eq_getElem_cons hk]
  unfold parseFrom
  rw [← hc, h]
  rfl
theorem from_some {top m m' : BitVec 64} {l : List UInt8} {k : Nat} {c : BitVec 8} (hk : k < l.length) (hp : parseFrom top 0#64 l = parseFrom top m (l.drop k)) (hc : c = l[k].toBitVec) (h : more top m c = some m') : parseFrom top 0#64 l = parseFrom top m' (l.drop (k + 1)) := by
  rw [hp, List.drop_eq_getElem_cons hk]
  rw [parseFrom, ← hc, h]
  rfl
theorem from_end {top m : BitVec 64} {l : List UInt8} {k : Nat} (hk : ¬ k < l.length) (hp : parseFrom top 0#64 l = parseFrom top m (l.drop k)) (hne : l ≠ []) : parse top l = some m := by
  unfold parse
  rw [if_neg hne, hp, List.drop_of_length_le (by omega)]
  rfl
end Go.Pn.Hex
