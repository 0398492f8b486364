/-
  Plain laws of the texts of dots. No program in sight. No condition.
-/
import Derived.Test.YtbmbaajfkmejgaaDoorPlain
import Derived.Lib.ItoaMem
import Derived.Lib.AtoiAllCases
import Derived.Lib.Bytealg
namespace Go.Pn.Dt
open Go.Lib
def text (d : Dot) : List UInt8 := itoa d.1 ++ [46] ++ itoa d.2
theorem ofNat_toNat {k : Nat} (h : k < 256) : (UInt8.ofNat k).toNat = k := by simp; omega
theorem dec_digit : ∀ (u : Nat), ∀ c ∈ decDigits u, 48 ≤ c.toNat ∧ c.toNat ≤ 57 := by
  intro u
  induction u using Nat.strongRecOn with
  | _ u ih =>
    intro c hc
    rw [decDigits] at hc
    split at hc
    · rename_i h
      simp only [List.mem_singleton] at hc
      subst hc
      rw [ofNat_toNat (by omega)]
      omega
    · rename_i h
      rcases List.mem_append.1 hc with hc | hc
      · exact ih (u / 10) (by omega) c hc
      · simp only [List.mem_singleton] at hc
        subst hc
        rw [ofNat_toNat (by omega)]
        omega
theorem dec_ne (u : Nat) : decDigits u ≠ [] := by
  rw [decDigits]
  split
  · simp
  · simp
theorem parse_dec : ∀ (u acc : Nat) (rest : List UInt8), acc * 10 ^ (decDigits u).length + u < 9223372036854775808 →
    parseUint10 acc (decDigits u ++ rest) = parseUint10 (acc * 10 ^ (decDigits u).length + u) rest := by
  intro u
  induction u using Nat.strongRecOn with
  | _ u ih =>
    intro acc rest hb
    by_cases h : u < 10
    · have e : decDigits u = [UInt8.ofNat (48 + u)] := by rw [decDigits, dif_pos h]
      rw [e] at hb ⊢
      simp only [List.length_singleton, Nat.pow_one] at hb ⊢
      show parseUint10 acc (UInt8.ofNat (48 + u) :: rest) = _
      rw [parseUint10, ofNat_toNat (by omega), if_pos (by omega), if_neg (by omega), if_neg (by omega)]
      congr 1
      omega
    · have e : decDigits u = decDigits (u / 10) ++ [UInt8.ofNat (48 + u % 10)] := by rw [decDigits, dif_neg h]
      have hl : (decDigits u).length = (decDigits (u / 10)).length + 1 := by rw [e]; simp
      rw [hl, Nat.pow_succ] at hb ⊢
      have hm : acc * (10 ^ (decDigits (u / 10)).length * 10) = acc * 10 ^ (decDigits (u / 10)).length * 10 := by rw [Nat.mul_assoc]
      rw [hm] at hb ⊢
      rw [e, List.append_assoc, ih (u / 10) (by omega) acc _ (by omega)]
      show parseUint10 _ (UInt8.ofNat (48 + u % 10) :: rest) = _
      rw [parseUint10, ofNat_toNat (by omega), if_pos (by omega), if_neg (by omega), if_neg (by omega)]
      congr 1
      omega
theorem atoi_dec {u : Nat} (h : u < 9223372036854775808) : atoiAll (decDigits u) = .ok (u : Int) := by
  have hp : parseUint10 0 (decDigits u) = .ok u := by
    have := parse_dec u 0 [] (by omega)
    rw [List.append_nil, Nat.zero_mul, Nat.zero_add] at this
    rw [this]
    rfl
  have hm : parseMag (decDigits u) = .ok u := by unfold parseMag; rw [if_neg (dec_ne u)]; exact hp
  cases hd : decDigits u with
  | nil => exact absurd hd (dec_ne u)
  | cons c r =>
    have hc := dec_digit u c (by rw [hd]; simp)
    rw [hd] at hm
    unfold atoiAll
    have h1 : ¬ (c.toNat = 43 ∨ c.toNat = 45) := by omega
    have h2 : ¬ c.toNat = 45 := by omega
    have h3 : ¬ (c.toNat = 43 ∨ False) := fun h => h1 (h.elim .inl False.elim)
    simp only [h2, not_false_eq_true, true_and, false_and, if_false]
    rw [if_neg h3, hm]
    simp only []
    rw [if_neg (by omega)]
theorem index_dot : ∀ (a b : List UInt8), (∀ c ∈ a, c ≠ 46) → indexByte (a ++ 46 :: b) 46 = a.length := by
  intro a
  induction a with
  | nil => intro b _; rfl
  | cons c a ih =>
    intro b h
    have hc : (c == 46) = false := by simpa using h c (by simp)
    have ih2 := ih b (fun x hx => h x (by simp [hx]))
    show (if (c == 46) = true then (0 : Int) else if indexByte (a ++ 46 :: b) 46 == -1 then -1 else indexByte (a ++ 46 :: b) 46 + 1) = _
    rw [hc, ih2]
    simp only [Bool.false_eq_true, if_false]
    have h4 : ((a.length : Int) == -1) = false := by
      cases h5 : ((a.length : Int) == -1) with
      | false => rfl
      | true => simp at h5
    rw [h4]
    simp
theorem index_ge : ∀ (a : List UInt8) (c : UInt8), indexByte a c = -1 ∨ (0 ≤ indexByte a c ∧ indexByte a c < a.length)
  | [], c => .inl rfl
  | b :: l, c => by
    have ih := index_ge l c
    unfold indexByte
    split
    · right; simp
    · split
      · exact .inl rfl
      · rename_i h1 h2
        right
        simp at h2
        simp only [List.length_cons]
        omega
/-- Both sides of the first point. -/
def cut (s : List UInt8) : List UInt8 × List UInt8 := if 0 ≤ indexByte s 46 then (s.take (indexByte s 46).toNat, s.drop ((indexByte s 46).toNat + 1)) else (s, [])
theorem cut_len (s : List UInt8) : (cut s).1.length ≤ s.length ∧ (cut s).2.length ≤ s.length := by
  unfold cut
  split <;> simp <;> omega
theorem cut_dot (a b : List UInt8) (h : ∀ c ∈ a, c ≠ 46) : cut (a ++ 46 :: b) = (a, b) := by
  unfold cut
  rw [index_dot a b h, if_pos (by omega)]
  simp [List.drop_append]
theorem dec_nodot (u : Nat) : ∀ c ∈ decDigits u, c ≠ 46 := by
  intro c hc h
  have := dec_digit u c hc
  rw [h] at this
  exact absurd this.1 (by decide)
theorem itoa_nat {n : Int} (h : 0 ≤ n) : itoa n = decDigits n.toNat := by unfold itoa; rw [if_neg (by omega)]
/-- What the program makes of a text. -/
def pparse (s : List UInt8) : Option Dot :=
  match atoiAll (cut s).1, atoiAll (cut s).2 with
  | .ok r, .ok c => if Valid (r, c) ∧ text (r, c) = s then some (r, c) else none
  | _, _ => none
theorem pparse_of {d : Dot} (h : Valid d) : pparse (text d) = some d := by
  obtain ⟨r, c⟩ := d
  unfold Valid at h
  simp only at h
  unfold pparse
  have e : text (r, c) = decDigits r.toNat ++ 46 :: decDigits c.toNat := by
    unfold text
    simp only [itoa_nat (show 0 ≤ r by omega), itoa_nat (show 0 ≤ c by omega), List.append_assoc, List.singleton_append]
  have e2 := cut_dot (decDigits r.toNat) (decDigits c.toNat) (dec_nodot _)
  rw [e, e2]
  simp only [atoi_dec (show r.toNat < 9223372036854775808 by omega), atoi_dec (show c.toNat < 9223372036854775808 by omega)]
  rw [Int.toNat_of_nonneg (show 0 ≤ r by omega), Int.toNat_of_nonneg (show 0 ≤ c by omega), e]
  rw [if_pos ⟨by unfold Valid; exact h, rfl⟩]
theorem pparse_iff (s : List UInt8) (d : Dot) : pparse s = some d ↔ Valid d ∧ text d = s := by
  constructor
  · intro h
    unfold pparse at h
    split at h
    · split at h
      · rename_i k
        cases h
        exact k
      · cases h
    · cases h
  · rintro ⟨h, rfl⟩
    exact pparse_of h

/-! the reference's parse -/
def cap (n : Int) : Int := min 1099511627776 n
def rfrom : Nat → Int → Int → List UInt8 → Option Dot
  | _, a, b, [] => some (a, b)
  | k, a, b, c :: l =>
    if 48#8 ≤ c.toBitVec ∧ c.toBitVec ≤ 57#8 then (if k = 0 then rfrom 0 (cap (10 * a + c.toNat - 48)) b l else rfrom k a (cap (10 * b + c.toNat - 48)) l)
    else if c.toBitVec = 46#8 ∧ k = 0 then rfrom 1 a b l
    else none
def rparse (s : List UInt8) : Option Dot :=
  match rfrom 0 0 0 s with
  | some d => if Valid d ∧ text d = s then some d else none
  | none => none
theorem rfrom_dec0 : ∀ (u : Nat) (a : Nat) (b : Int) (rest : List UInt8), a * 10 ^ (decDigits u).length + u ≤ 1099511627776 →
    rfrom 0 a b (decDigits u ++ rest) = rfrom 0 ((a * 10 ^ (decDigits u).length + u : Nat) : Int) b rest := by
  intro u
  induction u using Nat.strongRecOn with
  | _ u ih =>
    intro a b rest hb
    have step : ∀ (x v : Nat) (l : List UInt8), v < 10 → x * 10 + v ≤ 1099511627776 → rfrom 0 (x : Int) b (UInt8.ofNat (48 + v) :: l) = rfrom 0 ((x * 10 + v : Nat) : Int) b l := by
      intro x v l hv hx
      have hc : (UInt8.ofNat (48 + v)).toNat = 48 + v := ofNat_toNat (by omega)
      have hd : 48#8 ≤ (UInt8.ofNat (48 + v)).toBitVec ∧ (UInt8.ofNat (48 + v)).toBitVec ≤ 57#8 := by
        have e : (UInt8.ofNat (48 + v)).toBitVec.toNat = 48 + v := hc
        rw [BitVec.le_def, BitVec.le_def, e]
        constructor
        · show 48 ≤ _; omega
        · show _ ≤ 57; omega
      rw [rfrom, if_pos hd, if_pos rfl, hc]
      congr 1
      unfold cap
      omega
    by_cases h : u < 10
    · have e : decDigits u = [UInt8.ofNat (48 + u)] := by rw [decDigits, dif_pos h]
      rw [e] at hb ⊢
      simp only [List.length_singleton, Nat.pow_one] at hb ⊢
      exact step a u rest h hb
    · have e : decDigits u = decDigits (u / 10) ++ [UInt8.ofNat (48 + u % 10)] := by rw [decDigits, dif_neg h]
      have hl : (decDigits u).length = (decDigits (u / 10)).length + 1 := by rw [e]; simp
      rw [hl, Nat.pow_succ] at hb ⊢
      have hm : a * (10 ^ (decDigits (u / 10)).length * 10) = a * 10 ^ (decDigits (u / 10)).length * 10 := by rw [Nat.mul_assoc]
      rw [hm] at hb ⊢
      rw [e, List.append_assoc, ih (u / 10) (by omega) a b _ (by omega)]
      have := step (a * 10 ^ (decDigits (u / 10)).length + u / 10) (u % 10) rest (by omega) (by omega)
      rw [List.singleton_append, this]
      congr 2
      omega
theorem rfrom_dec1 : ∀ (u : Nat) (a : Int) (b : Nat) (rest : List UInt8), b * 10 ^ (decDigits u).length + u ≤ 1099511627776 →
    rfrom 1 a b (decDigits u ++ rest) = rfrom 1 a ((b * 10 ^ (decDigits u).length + u : Nat) : Int) rest := by
  intro u
  induction u using Nat.strongRecOn with
  | _ u ih =>
    intro a b rest hb
    have step : ∀ (x v : Nat) (l : List UInt8), v < 10 → x * 10 + v ≤ 1099511627776 → rfrom 1 a (x : Int) (UInt8.ofNat (48 + v) :: l) = rfrom 1 a ((x * 10 + v : Nat) : Int) l := by
      intro x v l hv hx
      have hc : (UInt8.ofNat (48 + v)).toNat = 48 + v := ofNat_toNat (by omega)
      have hd : 48#8 ≤ (UInt8.ofNat (48 + v)).toBitVec ∧ (UInt8.ofNat (48 + v)).toBitVec ≤ 57#8 := by
        have e : (UInt8.ofNat (48 + v)).toBitVec.toNat = 48 + v := hc
        rw [BitVec.le_def, BitVec.le_def, e]
        constructor
        · show 48 ≤ _; omega
        · show _ ≤ 57; omega
      rw [rfrom, if_pos hd, if_neg (by decide), hc]
      congr 1
      unfold cap
      omega
    by_cases h : u < 10
    · have e : decDigits u = [UInt8.ofNat (48 + u)] := by rw [decDigits, dif_pos h]
      rw [e] at hb ⊢
      simp only [List.length_singleton, Nat.pow_one] at hb ⊢
      exact step b u rest h hb
    · have e : decDigits u = decDigits (u / 10) ++ [UInt8.ofNat (48 + u % 10)] := by rw [decDigits, dif_neg h]
      have hl : (decDigits u).length = (decDigits (u / 10)).length + 1 := by rw [e]; simp
      rw [hl, Nat.pow_succ] at hb ⊢
      have hm : b * (10 ^ (decDigits (u / 10)).length * 10) = b * 10 ^ (decDigits (u / 10)).length * 10 := by rw [Nat.mul_assoc]
      rw [hm] at hb ⊢
      rw [e, List.append_assoc, ih (u / 10) (by omega) a b _ (by omega)]
      have := step (b * 10 ^ (decDigits (u / 10)).length + u / 10) (u % 10) rest (by omega) (by omega)
      rw [List.singleton_append, this]
      congr 2
      omega
theorem rparse_of {d : Dot} (h : Valid d) : rparse (text d) = some d := by
  obtain ⟨r, c⟩ := d
  have hv := h
  unfold Valid at h
  simp only at h
  have e : text (r, c) = decDigits r.toNat ++ 46 :: decDigits c.toNat := by
    unfold text
    simp only [itoa_nat (show 0 ≤ r by omega), itoa_nat (show 0 ≤ c by omega), List.append_assoc, List.singleton_append]
  have e0 : rfrom 0 0 0 (text (r, c)) = some (r, c) := by
    rw [e]
    have h1 := rfrom_dec0 r.toNat 0 0 (46 :: decDigits c.toNat) (by omega)
    rw [Nat.zero_mul, Nat.zero_add] at h1
    have h2 : rfrom 0 ((r.toNat : Nat) : Int) 0 (46 :: decDigits c.toNat) = rfrom 1 ((r.toNat : Nat) : Int) 0 (decDigits c.toNat) := by
      rw [rfrom, if_neg (by decide), if_pos ⟨by decide, rfl⟩]
    have h3 := rfrom_dec1 c.toNat ((r.toNat : Nat) : Int) 0 [] (by omega)
    rw [Nat.zero_mul, Nat.zero_add, List.append_nil] at h3
    refine (h1.trans (h2.trans h3)).trans ?_
    rw [rfrom, Int.toNat_of_nonneg (show 0 ≤ r by omega), Int.toNat_of_nonneg (show 0 ≤ c by omega)]
  unfold rparse
  rw [e0]
  exact if_pos ⟨hv, rfl⟩
theorem rparse_iff (s : List UInt8) (d : Dot) : rparse s = some d ↔ Valid d ∧ text d = s := by
  constructor
  · intro h
    unfold rparse at h
    split at h
    · split at h
      · rename_i k
        cases h
        exact k
      · cases h
    · cases h
  · rintro ⟨h, rfl⟩
    exact rparse_of h
theorem parse_eq (s : List UInt8) : pparse s = rparse s := by
  cases h : rparse s with
  | some d => exact (pparse_iff s d).2 ((rparse_iff s d).1 h)
  | none =>
    cases k : pparse s with
    | none => rfl
    | some d => rw [(rparse_iff s d).2 ((pparse_iff s d).1 k)] at h; cases h
theorem pparse_ok {s : List UInt8} {r c : Int} (h1 : atoiAll (cut s).1 = .ok r) (h2 : atoiAll (cut s).2 = .ok c) : pparse s = if Valid (r, c) ∧ text (r, c) = s then some (r, c) else none := by unfold pparse; rw [h1, h2]
theorem pparse_e1 {s : List UInt8} (h : ∀ r, atoiAll (cut s).1 ≠ .ok r) : pparse s = none := by
  cases hp : pparse s with
  | none => rfl
  | some d =>
    unfold pparse at hp
    split at hp
    · rename_i h1 _; exact absurd h1 (h _)
    · cases hp
theorem pparse_e2 {s : List UInt8} (h : ∀ r, atoiAll (cut s).2 ≠ .ok r) : pparse s = none := by
  cases hp : pparse s with
  | none => rfl
  | some d =>
    unfold pparse at hp
    split at hp
    · rename_i h1; exact absurd h1 (h _)
    · cases hp
def ten : List UInt8 := [48, 49, 50, 51, 52, 53, 54, 55, 56, 57]
theorem ten_sub : ∀ d : Fin 10, (ten.take (d.val + 1)).drop d.val = [UInt8.ofNat (48 + d.val)] := by decide
theorem dec_small {n : Nat} (h : n < 10) : (ten.take (((n : Int) + 1).toNat)).drop ((n : Int)).toNat = decDigits n := by
  have e : ((n : Int) + 1).toNat = n + 1 := by omega
  rw [e, Int.toNat_natCast, ten_sub ⟨n, h⟩, decDigits, dif_pos h]
theorem dec_big {n : Nat} (h : ¬ n < 10) : decDigits (n / 10) ++ decDigits (n % 10) = decDigits n := by
  have e : decDigits (n % 10) = [UInt8.ofNat (48 + n % 10)] := by rw [decDigits, dif_pos (Nat.mod_lt _ (by decide))]
  rw [e]
  exact (by rw [decDigits.eq_def n, dif_neg h])
theorem dec_len : ∀ n : Nat, (decDigits n).length ≤ n + 1 := by
  intro n
  induction n using Nat.strongRecOn with
  | _ n ih =>
    rw [decDigits]
    split
    · simp
    · have := ih (n / 10) (by omega)
      simp
      omega
theorem arr_get {a b k : Int} (hk : k = 0 ∨ k = 1) : ([Value.int .i64 a, .int .i64 b] : List Value)[0 + k.toNat * 1]? = some (.int .i64 (if k.toNat = 0 then a else b)) := by
  rcases hk with rfl | rfl <;> rfl
theorem arr_set {a b u k : Int} (hk : k = 0 ∨ k = 1) : ([Value.int .i64 a, .int .i64 b] : List Value).set k.toNat (.int .i64 u) = [.int .i64 (if k.toNat = 0 then u else a), .int .i64 (if k.toNat = 0 then b else u)] := by
  rcases hk with rfl | rfl <;> rfl
theorem from_dig {k i : Nat} {a b : Int} {l : List UInt8} {c : BitVec 8} (hk : k ≤ 1) (hi : i < l.length) (hc : c = l[i].toBitVec) (hd : 48#8 ≤ c ∧ c ≤ 57#8) :
    rfrom k a b (l.drop i) = rfrom k (if k = 0 then cap (10 * (if k = 0 then a else b) + (c.toNat : Int) - 48) else a) (if k = 0 then b else cap (10 * (if k = 0 then a else b) + (c.toNat : Int) - 48)) (l.drop (i + 1)) := by
  rw [List.drop_eq_getElem_cons hi, rfrom, ← hc, if_pos hd]
  have e : (l[i].toNat : Int) = (c.toNat : Int) := by rw [hc]; rfl
  have : k = 0 ∨ k = 1 := by omega
  rcases this with rfl | rfl
  · rw [if_pos rfl, e]; rfl
  · rw [if_neg (by decide), e]; rfl
theorem from_dot {i : Nat} {a b : Int} {l : List UInt8} {c : BitVec 8} (hi : i < l.length) (hc : c = l[i].toBitVec) (hd : ¬ (48#8 ≤ c ∧ c ≤ 57#8)) (h2 : c = 46#8) : rfrom 0 a b (l.drop i) = rfrom 1 a b (l.drop (i + 1)) := by
  rw [List.drop_eq_getElem_cons hi, rfrom, ← hc, if_neg hd, if_pos ⟨h2, rfl⟩]
theorem from_bad {k i : Nat} {a b : Int} {l : List UInt8} {c : BitVec 8} (hi : i < l.length) (hc : c = l[i].toBitVec) (hd : ¬ (48#8 ≤ c ∧ c ≤ 57#8)) (h2 : ¬ (c = 46#8 ∧ k = 0)) : rfrom k a b (l.drop i) = none := by
  rw [List.drop_eq_getElem_cons hi, rfrom, ← hc, if_neg hd, if_neg h2]
theorem cap_le (n : Int) : cap n ≤ 1099511627776 := by unfold cap; omega
theorem cap_ge {n : Int} (h : 0 ≤ n) : 0 ≤ cap n := by unfold cap; omega
theorem itoa_len {d : Dot} (h : 1 ≤ d.1 ∧ d.1 ≤ 65535 ∧ 1 ≤ d.2 ∧ d.2 ≤ 4294967295) : (itoa d.1).length ≤ 65536 ∧ (itoa d.2).length ≤ 4294967296 := by
  rw [itoa_nat (show 0 ≤ d.1 by omega), itoa_nat (show 0 ≤ d.2 by omega)]
  have h1 := dec_len d.1.toNat
  have h2 := dec_len d.2.toNat
  omega
theorem from_end {l : List UInt8} {k i : Nat} {a b : Int} (hp : rfrom 0 0 0 l = rfrom k a b (l.drop i)) (hi : l.length ≤ i) : rfrom 0 0 0 l = some (a, b) := by
  rw [hp, List.drop_eq_nil_of_le hi, rfrom]
theorem rparse_some {l : List UInt8} {d : Dot} (h : rfrom 0 0 0 l = some d) : rparse l = if Valid d ∧ text d = l then some d else none := by unfold rparse; rw [h]
theorem rparse_none {l : List UInt8} (h : rfrom 0 0 0 l = none) : rparse l = none := by unfold rparse; rw [h]
end Go.Pn.Dt
