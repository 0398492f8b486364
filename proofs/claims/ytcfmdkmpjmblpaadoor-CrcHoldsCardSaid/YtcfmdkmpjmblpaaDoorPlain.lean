/-
  Plain laws of check sums: no program in sight. No condition.
-/
import Derived.Test.YtcfmdkmpjmblpaaDoorFw4
namespace Go.Pn.Crc

/-- The step of a bit. -/
def bit (n : BitVec 32) : BitVec 32 := if n % 2#32 = 1#32 then n / 2#32 ^^^ 3988292384#32 else n / 2#32
/-- Some steps of a bit. -/
def bits : Nat → BitVec 32 → BitVec 32
  | 0, n => n
  | k + 1, n => bit (bits k n)
/-- The step of a byte. -/
def step (n : BitVec 32) (x : BitVec 8) : BitVec 32 := bits 8 (n ^^^ x.setWidth 32)
/-- The steps of some bytes. -/
def steps (n : BitVec 32) (l : List UInt8) : BitVec 32 := l.foldl (fun n x => step n x.toBitVec) n
/-- The check sum of bytes behind others with a check sum. -/
def update (s : BitVec 32) (l : List UInt8) : BitVec 32 := ~~~ (steps (~~~ s) l)
def zeros : Nat → BitVec 32 → BitVec 32
  | 0, n => n
  | k + 1, n => step (zeros k n) 0#8

theorem steps_take (n : BitVec 32) (l : List UInt8) {k : Nat} (h : k < l.length) : steps n (l.take (k + 1)) = step (steps n (l.take k)) l[k].toBitVec := by
  unfold steps
  rw [List.take_succ_eq_append_getElem h, List.foldl_append]
  rfl
theorem sub_max (s : BitVec 32) : 4294967295#32 - s = ~~~ s := by
  apply BitVec.eq_of_toNat_eq
  have := s.isLt
  rw [BitVec.toNat_sub, BitVec.toNat_not]
  simp
  omega

theorem and_one (n : BitVec 32) : n &&& 1#32 = n % 2#32 := by
  apply BitVec.eq_of_toNat_eq
  rw [BitVec.toNat_and, BitVec.toNat_umod]
  exact Nat.and_one_is_mod _
theorem shr_one (n : BitVec 32) : n >>> 1 = n / 2#32 := by
  apply BitVec.eq_of_toNat_eq
  rw [BitVec.toNat_ushiftRight, BitVec.toNat_udiv, Nat.shiftRight_eq_div_pow]
  rfl
theorem bit_odd {n : BitVec 32} (h : n &&& 1#32 = 1#32) : bit n = n >>> 1 ^^^ 3988292384#32 := by
  rw [and_one] at h
  unfold bit
  rw [if_pos h, shr_one]
theorem bit_even {n : BitVec 32} (h : ¬ n &&& 1#32 = 1#32) : bit n = n >>> 1 := by
  rw [and_one] at h
  unfold bit
  rw [if_neg h, shr_one]

/-- An entry of the table. -/
def tab (i : Nat) : BitVec 32 := bits 8 (BitVec.ofInt 32 (i : Int))
/-- The table of the steps of all bytes. -/
def table : List (BitVec 32) := (List.range 256).map tab
theorem table_length : table.length = 256 := by simp [table]
theorem table_get {i : Nat} (h : i < 256) : table[i]'(by rw [table_length]; exact h) = tab i := by simp [table]
/-- The table as far as it is made. -/
def part (k : Nat) : List Value := (List.range 256).map fun (i : Nat) => if i < k then Value.int .u32 ((tab i).toNat : Int) else .int .u32 0
theorem part0 : (Value.agg (Array.replicate 256 (.int .u32 0))).cells.toList = part 0 := by
  simp [Value.cells, part, List.map_const']
theorem part_length (k : Nat) : (part k).length = 256 := by simp [part]
theorem part_set (k : Nat) (h : k < 256) : (part k).set k (.int .u32 ((tab k).toNat : Int)) = part (k + 1) := by
  apply List.ext_getElem?
  intro i
  simp only [part, List.getElem?_set, List.getElem?_map, List.length_map, List.length_range]
  by_cases hi : i < 256
  · by_cases hk : k = i
    · subst hk; simp [hi]
    · have : i < k + 1 ↔ i < k := by omega
      simp [hi, hk, this]
  · rw [List.getElem?_eq_none (by simp; omega)]
    by_cases hk : k = i <;> simp [hk, hi]
theorem part_all : part 256 = table.flatMap u32F.e := by
  unfold table part
  rw [List.flatMap_map]
  have : ∀ l : List Nat, (∀ i ∈ l, i < 256) → l.map (fun i => if i < 256 then Value.int .u32 ((tab i).toNat : Int) else .int .u32 0) = l.flatMap fun i => u32F.e (tab i) := by
    intro l
    induction l with
    | nil => intro _; rfl
    | cons a l ih =>
      intro h
      rw [List.map_cons, List.flatMap_cons, ih (fun i hi => h i (List.mem_cons_of_mem _ hi)), if_pos (h a (List.mem_cons_self ..))]
      rfl
  exact this (List.range 256) fun i hi => by simpa using hi

theorem bit_eq (n : BitVec 32) : bit n = (n >>> 1) ^^^ (if n.getLsbD 0 then 3988292384#32 else 0#32) := by
  have h0 : (n % 2#32 = 1#32) ↔ n.getLsbD 0 = true := by
    rw [← BitVec.toNat_inj, BitVec.toNat_umod, BitVec.getLsbD, Nat.testBit_zero]
    simp
  unfold bit
  rw [shr_one]
  by_cases h : n.getLsbD 0 = true
  · rw [if_pos (h0.2 h), if_pos h]
  · rw [if_neg (fun h' => h (h0.1 h')), if_neg h]
    simp
theorem bit_xor (a b : BitVec 32) : bit (a ^^^ b) = bit a ^^^ bit b := by
  simp only [bit_eq, BitVec.getLsbD_xor]
  have : (a ^^^ b) >>> 1 = (a >>> 1) ^^^ (b >>> 1) := by
    apply BitVec.eq_of_getLsbD_eq
    intro i _
    simp
  rw [this]
  generalize a >>> 1 = A
  generalize b >>> 1 = B
  generalize 3988292384#32 = p
  have key : ∀ x y z : Bool, (x ^^ y) = ((x ^^ z) ^^ (y ^^ z)) := by decide
  have key2 : ∀ x y z : Bool, ((x ^^ y) ^^ z) = (x ^^ (y ^^ z)) := by decide
  have key3 : ∀ x y z : Bool, ((x ^^ y) ^^ z) = ((x ^^ z) ^^ y) := by decide
  cases a.getLsbD 0 <;> cases b.getLsbD 0 <;> (apply BitVec.eq_of_getLsbD_eq; intro i _; simp only [BitVec.getLsbD_xor, Bool.xor_false, Bool.false_xor, Bool.xor_true, Bool.not_true, Bool.not_false, if_true, if_false, BitVec.xor_zero, Bool.false_eq_true])
  · rw [key2]
  · rw [key3]
  · exact key _ _ _
theorem bits_xor (k : Nat) (a b : BitVec 32) : bits k (a ^^^ b) = bits k a ^^^ bits k b := by
  induction k with
  | zero => rfl
  | succ k ih => simp only [bits, ih, bit_xor]
theorem bits_high (m : BitVec 32) (hm : m.toNat < 2 ^ 24) (k : Nat) (hk : k ≤ 8) : bits k (m <<< 8) = m <<< (8 - k) := by
  induction k with
  | zero => rfl
  | succ k ih =>
    simp only [bits]
    rw [ih (by omega), bit_eq]
    obtain ⟨j, hj⟩ : ∃ j, 8 - k = j + 1 := ⟨7 - k, by omega⟩
    have hj2 : 8 - (k + 1) = j := by omega
    rw [hj, hj2]
    have h0 : (m <<< (j + 1)).getLsbD 0 = false := by simp
    rw [h0]
    simp only [Bool.false_eq_true, if_false, BitVec.xor_zero]
    apply BitVec.eq_of_getLsbD_eq
    intro i hi
    simp only [BitVec.getLsbD_ushiftRight, BitVec.getLsbD_shiftLeft]
    by_cases h1 : 1 + i < 32
    · have e1 : decide (1 + i < 32) = true := by simpa using h1
      have e2 : decide (i < 32) = true := by simpa using hi
      by_cases h2 : i < j
      · simp [h2, show 1 + i < j + 1 by omega]
      · simp [h2, e1, e2, show ¬ (1 + i < j + 1) by omega, show 1 + i - (j + 1) = i - j by omega]
    · have hi2 : i = 31 := by omega
      subst hi2
      have hbig : m.getLsbD (31 - j) = false := by
        rw [BitVec.getLsbD]
        apply Nat.testBit_lt_two_pow
        exact Nat.lt_of_lt_of_le hm (Nat.pow_le_pow_right (by decide) (by omega))
      simp [hbig]
/-- The step by the table. -/
theorem step_tab (n : BitVec 32) (x : BitVec 8) : step n x = tab (n.setWidth 8 ^^^ x).toNat ^^^ n >>> 8 := by
  have e : n ^^^ x.setWidth 32 = (n.setWidth 8 ^^^ x).setWidth 32 ^^^ (n >>> 8) <<< 8 := by
    apply BitVec.eq_of_getLsbD_eq
    intro i hi
    simp only [BitVec.getLsbD_xor, BitVec.getLsbD_setWidth, BitVec.getLsbD_shiftLeft, BitVec.getLsbD_ushiftRight]
    have e2 : decide (i < 32) = true := by simpa using hi
    by_cases h : i < 8
    · simp [h, e2]
    · have e3 : 8 + (i - 8) = i := by omega
      have e4 : x.getLsbD i = false := BitVec.getLsbD_of_ge x i (by omega)
      simp [h, e2, e3, e4]
  unfold step tab
  rw [e, bits_xor, bits_high _ _ 8 (Nat.le_refl _), BitVec.ofInt_natCast]
  · have e1 : ((n.setWidth 8 ^^^ x).setWidth 32 : BitVec 32) = BitVec.ofNat 32 (n.setWidth 8 ^^^ x).toNat := by
      apply BitVec.eq_of_toNat_eq
      rw [BitVec.toNat_setWidth, BitVec.toNat_ofNat]
    rw [e1]
    simp
  · rw [BitVec.toNat_ushiftRight, Nat.shiftRight_eq_div_pow]
    have := n.isLt
    omega
end Go.Pn.Crc
