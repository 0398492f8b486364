/-
  Plain laws of floats: keys are turned back, lists in order are one, canonical values, the order of numbers is that of their keys. No condition.
-/
import Derived.Test.YtbadfphdniliaaaDoorSort
namespace Go.Pn.Fl
open Ieee
theorem key_nat (x : BitVec 64) : (key x).toNat = if x.toNat < 9223372036854775808 then 9223372036854775808 + x.toNat else 18446744073709551615 - x.toNat := by
  have hx := x.isLt
  unfold key
  have e : x < 9223372036854775808#64 ↔ x.toNat < 9223372036854775808 := by rw [BitVec.lt_def]; rfl
  by_cases h : x.toNat < 9223372036854775808
  · rw [if_pos (e.2 h), if_pos h, BitVec.toNat_add]
    have e1 : (9223372036854775808#64).toNat = 9223372036854775808 := rfl
    rw [e1]; omega
  · rw [if_neg (fun h2 => h (e.1 h2)), if_neg h, BitVec.toNat_sub]
    have e1 : (18446744073709551615#64).toNat = 18446744073709551615 := rfl
    rw [e1]; omega
theorem off_nat (x : BitVec 64) : (off x).toNat = if 9223372036854775808 ≤ x.toNat then x.toNat - 9223372036854775808 else 18446744073709551615 - x.toNat := by
  have hx := x.isLt
  unfold off
  have e : 9223372036854775808#64 ≤ x ↔ 9223372036854775808 ≤ x.toNat := by rw [BitVec.le_def]; rfl
  by_cases h : 9223372036854775808 ≤ x.toNat
  · rw [if_pos (e.2 h), if_pos h, BitVec.toNat_sub]
    have e1 : (9223372036854775808#64).toNat = 9223372036854775808 := rfl
    rw [e1]; omega
  · rw [if_neg (fun h2 => h (e.1 h2)), if_neg h, BitVec.toNat_sub]
    have e1 : (18446744073709551615#64).toNat = 18446744073709551615 := rfl
    rw [e1]; omega
theorem off_key (x : BitVec 64) : off (key x) = x := by
  have hx := x.isLt
  apply BitVec.eq_of_toNat_eq
  rw [off_nat, key_nat]
  split <;> split <;> omega
theorem key_off (x : BitVec 64) : key (off x) = x := by
  have hx := x.isLt
  apply BitVec.eq_of_toNat_eq
  rw [key_nat, off_nat]
  split <;> split <;> omega
theorem key_inj {a b : BitVec 64} (h : key a = key b) : a = b := by rw [← off_key a, h, off_key]
theorem ucmp_zero (a b : BitVec 64) : ucmp a b = 0 ↔ a = b := by
  unfold ucmp
  simp only [BitVec.lt_def, gt_iff_lt, ← BitVec.toNat_inj]
  split
  · constructor
    · intro h; cases h
    · intro h; omega
  · split
    · constructor
      · intro h; cases h
      · intro h; omega
    · constructor
      · intro _; omega
      · intro _; rfl
theorem ucmp_neg (a b : BitVec 64) : ucmp a b = - ucmp b a := by
  unfold ucmp
  simp only [BitVec.lt_def, gt_iff_lt]
  split <;> split <;> first | rfl | (split <;> first | rfl | omega) | omega
theorem ucmp_lt {a b : BitVec 64} (h : a < b) : ucmp a b = -1 := by unfold ucmp; rw [if_pos h]
theorem ucmp_gt {a b : BitVec 64} (h : b < a) : ucmp a b = 1 := by
  unfold ucmp
  have h2 : ¬ a < b := by rw [BitVec.lt_def] at h ⊢; omega
  rw [if_neg h2, if_pos h]
theorem ucmp_le {a b : BitVec 64} : ¬ ucmp a b > 0 ↔ a ≤ b := by
  unfold ucmp
  simp only [BitVec.lt_def, BitVec.le_def, gt_iff_lt]
  split
  · constructor
    · intro _; omega
    · intro _ h; cases h
  · split
    · constructor
      · intro h; exact absurd (by decide) h
      · intro h; omega
    · constructor
      · intro _; omega
      · intro _ h; cases h
theorem cmp_zero (a b : BitVec 64) : cmp a b = 0 ↔ a = b := by
  unfold cmp
  rw [ucmp_zero]
  exact ⟨key_inj, fun h => by rw [h]⟩
theorem cmp_lt_iff (a b : BitVec 64) : cmp a b < 0 ↔ key a < key b := by
  unfold cmp ucmp
  split
  · simp [*]
  · split <;> simp [*]
theorem cmp_neg (a b : BitVec 64) : cmp a b = - cmp b a := ucmp_neg _ _
theorem cmp_self (a : BitVec 64) : cmp a a = 0 := (cmp_zero a a).2 rfl

/-! lists -/
theorem ins_perm (o : List (BitVec 64)) (x : BitVec 64) : (ins o x).Perm (x :: o) := by
  unfold ins
  refine List.perm_middle.trans ?_
  rw [List.takeWhile_append_dropWhile]
theorem foldl_perm (l : List (BitVec 64)) : ∀ o, (l.foldl ins o).Perm (l ++ o) := by
  induction l with
  | nil => intro o; exact List.Perm.refl _
  | cons x l ih =>
    intro o
    rw [List.foldl_cons]
    refine (ih _).trans ?_
    refine ((ins_perm o x).append_left l).trans ?_
    exact List.perm_middle
theorem sorted_perm (l : List (BitVec 64)) : (sorted l).Perm l := by
  have := foldl_perm l []
  rwa [List.append_nil] at this
def Asc (l : List (BitVec 64)) : Prop := l.Pairwise (fun a b => key a ≤ key b)
theorem ins_asc {o : List (BitVec 64)} (x : BitVec 64) (h : Asc o) : Asc (ins o x) := by
  unfold ins
  induction o with
  | nil => simp [Asc]
  | cons y o ih =>
    have h1 := List.pairwise_cons.1 h
    by_cases hy : key y ≤ key x
    · have e1 : (y :: o).takeWhile (fun z => decide (key z ≤ key x)) = y :: o.takeWhile (fun z => decide (key z ≤ key x)) := by simp [hy]
      have e2 : (y :: o).dropWhile (fun z => decide (key z ≤ key x)) = o.dropWhile (fun z => decide (key z ≤ key x)) := by simp [hy]
      rw [e1, e2, List.cons_append]
      refine List.pairwise_cons.2 ⟨?_, ih h1.2⟩
      intro z hz
      have hz2 : z ∈ x :: o := (ins_perm o x).mem_iff.1 hz
      rcases List.mem_cons.1 hz2 with rfl | hz3
      · exact hy
      · exact h1.1 z hz3
    · have e1 : (y :: o).takeWhile (fun z => decide (key z ≤ key x)) = [] := by simp [hy]
      have e2 : (y :: o).dropWhile (fun z => decide (key z ≤ key x)) = y :: o := by simp [hy]
      rw [e1, e2, List.nil_append]
      refine List.pairwise_cons.2 ⟨?_, h⟩
      intro z hz
      have hxy : key x ≤ key y := by rw [BitVec.le_def] at hy ⊢; omega
      rcases List.mem_cons.1 hz with rfl | hz
      · exact hxy
      · have := h1.1 z hz
        rw [BitVec.le_def] at *
        omega
theorem sorted_asc (l : List (BitVec 64)) : Asc (sorted l) := by
  unfold sorted
  suffices h : ∀ o, Asc o → Asc (l.foldl ins o) from h [] List.Pairwise.nil
  induction l with
  | nil => intro o h; exact h
  | cons x l ih => intro o h; exact ih _ (ins_asc x h)
theorem asc_one : ∀ {l l' : List (BitVec 64)}, l.Perm l' → Asc l → Asc l' → l = l' := by
  intro l
  induction l with
  | nil => intro l' h _ _; exact (List.nil_perm.1 h).symm
  | cons a l ih =>
    intro l' h h1 h2
    cases l' with
    | nil => exact absurd h.length_eq (by simp)
    | cons b l' =>
      have p1 := List.pairwise_cons.1 h1
      have p2 := List.pairwise_cons.1 h2
      have hab : a = b := by
        have ha : a ∈ b :: l' := h.mem_iff.1 (by simp)
        have hb : b ∈ a :: l := h.mem_iff.2 (by simp)
        rcases List.mem_cons.1 ha with e | ha
        · exact e
        · rcases List.mem_cons.1 hb with e | hb
          · exact e.symm
          · have q1 := p2.1 a ha
            have q2 := p1.1 b hb
            apply key_inj
            apply BitVec.eq_of_toNat_eq
            rw [BitVec.le_def] at q1 q2
            omega
      subst hab
      rw [ih h.cons_inv p1.2 p2.2]
theorem sorted_of_asc {l l' : List (BitVec 64)} (h : l'.Perm l) (h2 : Asc l') : l' = sorted l := asc_one (h.trans (sorted_perm l).symm) h2 (sorted_asc l)
theorem sorted_of_perm {l l' : List (BitVec 64)} (h : l.Perm l') : sorted l = sorted l' := asc_one ((sorted_perm l).trans (h.trans (sorted_perm l').symm)) (sorted_asc l) (sorted_asc l')
theorem sorted_sorted (l : List (BitVec 64)) : sorted (sorted l) = sorted l := sorted_of_perm (sorted_perm l)

/-! canonical values -/
theorem canon_canon (x : BitVec 64) : canon (canon x) = canon x := by
  by_cases h1 : x % 9223372036854775808#64 > 9218868437227405312#64
  · have e : canon x = 9221120237041090560#64 := by unfold canon; rw [if_pos h1]
    rw [e]; decide
  · by_cases h2 : x % 9223372036854775808#64 = 0#64
    · have e : canon x = 0#64 := by unfold canon; rw [if_neg h1, if_pos h2]
      rw [e]; decide
    · have e : canon x = x := by unfold canon; rw [if_neg h1, if_neg h2]
      rw [e, e]
/-- The sum of a list, whatever its order. -/
theorem sum_perm {l l' : List (BitVec 64)} {r r' : BitVec 64} (h : (l.map canon).Perm (l'.map canon)) (h1 : Sum (sorted (l.map canon)) r) (h2 : Sum (sorted (l'.map canon)) r') : canon r = canon r' := by
  rw [sorted_of_perm h] at h1
  exact sum_canon h1 h2
/-- The canonical sum. -/
def addv (s x : BitVec 64) : BitVec 64 := match FloatKind.f64.format.add s.toNat x.toNat with
  | some z => BitVec.ofNat 64 z
  | none => 9221120237041090560#64
theorem addv_ok (s x : BitVec 64) : FAdd s x (addv s x) := by
  unfold FAdd addv
  cases h : FloatKind.f64.format.add s.toNat x.toNat with
  | some z =>
    show (BitVec.ofNat 64 z).toNat = z
    rw [BitVec.toNat_ofNat]
    exact Nat.mod_eq_of_lt (add_lt h)
  | none => show nanB 9221120237041090560#64; unfold nanB; decide
theorem sum_fold (l : List (BitVec 64)) : ∀ {p : List (BitVec 64)} {s : BitVec 64}, Sum p s → Sum (p ++ l) (l.foldl addv s) := by
  induction l with
  | nil => intro p s h; simpa using h
  | cons x l ih =>
    intro p s h
    have := ih (Sum.snoc h (addv_ok s x))
    rwa [List.append_assoc] at this
def tot (l : List (BitVec 64)) : BitVec 64 := canon ((sorted (l.map canon)).foldl addv 0#64)
theorem tot_eq {l : List (BitVec 64)} {r : BitVec 64} (h : Sum (sorted (l.map canon)) r) : canon r = tot l := sum_canon h (by have := sum_fold (sorted (l.map canon)) Sum.nil; rwa [List.nil_append] at this)
theorem tot_perm {l l' : List (BitVec 64)} (h : (l.map canon).Perm (l'.map canon)) : tot l = tot l' := by unfold tot; rw [sorted_of_perm h]
theorem canon_tot (l : List (BitVec 64)) : canon (tot l) = tot l := canon_canon _
theorem fadd_one {a b r z : BitVec 64} (h : FAdd a b r) (h2 : FloatKind.f64.format.add a.toNat b.toNat = some z.toNat) : r = z := by
  unfold FAdd at h
  rw [h2] at h
  exact BitVec.eq_of_toNat_eq h
/-- The cells of a list of which the first ones are canonical already. -/
def part (k : Nat) (l : List (BitVec 64)) : List Value := ((l.take k).map fun x => fl (canon x)) ++ List.replicate (l.length - k) (fl 0#64)
theorem part_length {k : Nat} {l : List (BitVec 64)} (h : k ≤ l.length) : (part k l).length = l.length := by unfold part; simp; omega
theorem part_zero (l : List (BitVec 64)) : part 0 l = (List.replicate l.length 0#64).flatMap flF.e := by
  unfold part
  simp
  induction l.length with
  | zero => rfl
  | succ n ih => rw [List.replicate_succ, ih, List.replicate_succ, List.flatMap_cons]; rfl
theorem part_set {k : Nat} {l : List (BitVec 64)} (h : k < l.length) : (part k l).set k (fl (canon l[k])) = part (k + 1) l := by
  have e : l.length - k = (l.length - (k + 1)) + 1 := by omega
  unfold part
  rw [List.set_append_right _ _ (by simp; omega), List.take_succ_eq_append_getElem h, e, List.replicate_succ, List.map_append, List.append_assoc]
  have e2 : k - (List.map (fun x => fl (canon x)) (l.take k)).length = 0 := by simp; omega
  rw [e2]
  rfl
theorem part_end (l : List (BitVec 64)) : part l.length l = (l.map canon).flatMap flF.e := by
  unfold part
  simp
  induction l with
  | nil => rfl
  | cons a l ih => rw [List.map_cons, ih, List.map_cons, List.flatMap_cons]; rfl
theorem datum_eq_symm (d e : Datum) : Datum.order d e = some .eq → Datum.order e d = some .eq := by
  have hc : ∀ a b : Int, compare a b = .eq ↔ a = b := fun a b => Std.LawfulEqOrd.compare_eq_iff_eq
  have hn : ∀ a b : Nat, compare a b = .eq ↔ a = b := fun a b => Std.LawfulEqOrd.compare_eq_iff_eq
  cases d <;> cases e <;> simp only [Datum.order, Option.some.injEq, hc, hn, reduceCtorEq, imp_self]
  · intro h; rw [Int.min_comm]; exact h.symm
  all_goals first
    | (intro h; exact h.symm)
    | (intro h; revert h; split <;> intro h <;> cases h)
theorem feq_symm {x y : BitVec 64} (h : feq x y) : feq y x := datum_eq_symm _ _ h
/-- A canonical value is equal to the value itself, as far as this is to itself. -/
theorem canon_feq {x : BitVec 64} (h : feq x x) : feq (canon x) x := by
  by_cases h2 : feq x 0#64
  · rw [canon_zero (fun h3 => h3 h) h2]; exact feq_symm h2
  · rw [canon_else (fun h3 => h3 h) h2]; exact h
theorem canon_nfeq {x : BitVec 64} (h : ¬ feq x x) : ¬ feq (canon x) (canon x) := by
  rw [canon_nan h, feq_self]
  decide

/-! the order of numbers is that of their keys -/
/-- How great a number's rung makes it, in units of the least place. -/
def mag (r : Nat) : Nat := if r < 4503599627370496 then r else (4503599627370496 + r % 4503599627370496) * 2 ^ (r / 4503599627370496 - 1)
theorem mag_mono {r s : Nat} (h : r < s) : mag r < mag s := by
  unfold mag
  by_cases hs : s < 4503599627370496
  · rw [if_pos (by omega), if_pos hs]; exact h
  · rw [if_neg hs]
    have hp : 0 < 2 ^ (s / 4503599627370496 - 1) := Nat.pow_pos (by decide)
    by_cases hr : r < 4503599627370496
    · rw [if_pos hr]
      have h1 : 4503599627370496 * 1 ≤ (4503599627370496 + s % 4503599627370496) * 2 ^ (s / 4503599627370496 - 1) := Nat.mul_le_mul (Nat.le_add_right _ _) hp
      omega
    · rw [if_neg hr]
      by_cases hq : r / 4503599627370496 = s / 4503599627370496
      · rw [hq]
        exact Nat.mul_lt_mul_of_pos_right (by omega) hp
      · have hlt : r / 4503599627370496 < s / 4503599627370496 := by
          have : r / 4503599627370496 ≤ s / 4503599627370496 := Nat.div_le_div_right (by omega)
          omega
        obtain ⟨k, hk⟩ : ∃ k, s / 4503599627370496 - 1 = (r / 4503599627370496 - 1) + 1 + k := ⟨s / 4503599627370496 - 1 - (r / 4503599627370496 - 1) - 1, by omega⟩
        rw [hk]
        have hk1 : 0 < 2 ^ k := Nat.pow_pos (by decide)
        have hr1 : 0 < 2 ^ (r / 4503599627370496 - 1) := Nat.pow_pos (by decide)
        have e : 2 ^ (r / 4503599627370496 - 1 + 1 + k) = 2 ^ (r / 4503599627370496 - 1) * 2 * 2 ^ k := by rw [Nat.pow_add, Nat.pow_succ]
        rw [e]
        generalize 2 ^ (r / 4503599627370496 - 1) = p at *
        generalize 2 ^ k = q at *
        have hm : r % 4503599627370496 < 4503599627370496 := Nat.mod_lt _ (by decide)
        have h1 : (4503599627370496 + r % 4503599627370496) * p < (2 * 4503599627370496) * p := Nat.mul_lt_mul_of_pos_right (by omega) hr1
        have h2 : 4503599627370496 * (p * 2) ≤ (4503599627370496 + s % 4503599627370496) * (p * 2 * q) := Nat.mul_le_mul (Nat.le_add_right _ _) (Nat.le_mul_of_pos_right _ hk1)
        omega
theorem mag_le {r s : Nat} (h : mag r < mag s) : r < s := by
  rcases Nat.lt_or_ge r s with h1 | h1
  · exact h1
  · rcases Nat.lt_or_eq_of_le h1 with h2 | rfl
    · have := mag_mono h2; omega
    · omega
theorem read_mag {x : BitVec 64} (h : rung x < 9218868437227405312) : ∃ m e : Nat, FloatKind.f64.format.read x.toNat = .number (sg x) m (Format.leastPlace FloatKind.f64.format + (e : Int)) ∧ m * 2 ^ e = mag (rung x) := by
  by_cases h2 : rung x < 4503599627370496
  · refine ⟨rung x, 0, ?_, ?_⟩
    · rw [read_sub h2]; simp
    · unfold mag; rw [if_pos h2]; simp
  · refine ⟨_, _, read_norm h2 h, ?_⟩
    unfold mag; rw [if_neg h2]
def sv (s : Bool) (m : Nat) : Int := if s then -(m : Int) else m
theorem compare_scale (x y : Int) (c : Nat) (hc : 0 < c) : compare x y = compare (x * c) (y * c) := by
  have hc' : (0 : Int) < c := by omega
  have h1 : x < y ↔ x * c < y * c := (Int.mul_lt_mul_right hc').symm
  have h2 : x = y ↔ x * c = y * c := ⟨fun h => by rw [h], fun h => Int.eq_of_mul_eq_mul_right (by omega) h⟩
  show compareOfLessAndEq x y = compareOfLessAndEq (x * c) (y * c)
  unfold compareOfLessAndEq
  by_cases hl : x < y
  · rw [if_pos hl, if_pos (h1.1 hl)]
  · rw [if_neg hl, if_neg (fun h => hl (h1.2 h))]
    by_cases he : x = y
    · rw [if_pos he, if_pos (h2.1 he)]
    · rw [if_neg he, if_neg (fun h => he (h2.2 h))]
theorem sv_mul (s : Bool) (m c : Nat) : sv s m * c = sv s (m * c) := by
  unfold sv
  cases s
  · simp
  · simp [Int.neg_mul]
theorem order_num (s t : Bool) (m n e1 e2 : Nat) (L : Int) : Datum.order (.number s m (L + e1)) (.number t n (L + e2)) = some (compare (sv s (m * 2 ^ e1)) (sv t (n * 2 ^ e2))) := by
  have a1 : (L + (e1 : Int) - min (L + e1) (L + e2)).toNat = e1 - min e1 e2 := by omega
  have a2 : (L + (e2 : Int) - min (L + e1) (L + e2)).toNat = e2 - min e1 e2 := by omega
  simp only [Datum.order, a1, a2]
  have b : ∀ (s : Bool) (m j : Nat), signed s m j = sv s (m * 2 ^ j) := by
    intro s m j
    unfold signed sv
    rw [Nat.shiftLeft_eq]
  rw [b, b, compare_scale _ _ (2 ^ min e1 e2) (Nat.pow_pos (by decide)), sv_mul, sv_mul, Nat.mul_assoc, Nat.mul_assoc, ← Nat.pow_add, ← Nat.pow_add, Nat.sub_add_cancel (Nat.min_le_left _ _), Nat.sub_add_cancel (Nat.min_le_right _ _)]
theorem key_sg (x : BitVec 64) : (key x).toNat = if sg x then 9223372036854775807 - rung x else 9223372036854775808 + rung x := by
  have hx := x.isLt
  rw [key_nat]
  unfold sg rung
  by_cases h : x.toNat < 9223372036854775808
  · have h1 : x.toNat / 9223372036854775808 % 2 = 0 := by omega
    have h2 : x.toNat % 9223372036854775808 = x.toNat := by omega
    rw [if_pos h, h1, h2]; rfl
  · have h1 : x.toNat / 9223372036854775808 % 2 = 1 := by omega
    rw [if_neg h, h1]
    show _ = 9223372036854775807 - x.toNat % 9223372036854775808
    omega
theorem rung_lt (x : BitVec 64) : rung x < 9223372036854775808 := Nat.mod_lt _ (by decide)
theorem comp_lt (a b : Int) : compare a b = .lt ↔ a < b := by
  show compareOfLessAndEq a b = .lt ↔ a < b
  unfold compareOfLessAndEq
  split
  · simp [*]
  · split <;> simp [*]
theorem comp_gt (a b : Int) : compare a b = .gt ↔ b < a := by
  show compareOfLessAndEq a b = .gt ↔ b < a
  unfold compareOfLessAndEq
  split
  · simp; omega
  · split
    · simp; omega
    · simp; omega
theorem compn_lt (a b : Nat) : compare a b = .lt ↔ a < b := by
  show compareOfLessAndEq a b = .lt ↔ a < b
  unfold compareOfLessAndEq
  split
  · simp [*]
  · split <;> simp [*]
theorem compn_gt (a b : Nat) : compare a b = .gt ↔ b < a := by
  show compareOfLessAndEq a b = .gt ↔ b < a
  unfold compareOfLessAndEq
  split
  · simp; omega
  · split
    · simp; omega
    · simp; omega
/-- A number that is less than another one has the smaller key. -/
theorem ord_key (x y : BitVec 64) : (flt x y → key x < key y) ∧ (fgt x y → key y < key x) := by
  have kx := key_sg x
  have ky := key_sg y
  have lx := rung_lt x
  have ly := rung_lt y
  simp only [BitVec.lt_def, kx, ky]
  unfold flt fgt ford Format.order
  rcases Nat.lt_trichotomy (rung x) 9218868437227405312 with hx | hx | hx
  · obtain ⟨m, e1, rx, hm⟩ := read_mag hx
    rw [rx]
    rcases Nat.lt_trichotomy (rung y) 9218868437227405312 with hy | hy | hy
    · obtain ⟨n, e2, ry, hn⟩ := read_mag hy
      rw [ry, order_num, hm, hn]
      simp only [Option.some.injEq, comp_lt, comp_gt]
      have q1 : mag (rung x) < mag (rung y) → rung x < rung y := mag_le
      have q2 : mag (rung y) < mag (rung x) → rung y < rung x := mag_le
      unfold sv
      cases sg x <;> cases sg y <;> simp only [if_true, if_false, Bool.false_eq_true] <;> constructor <;> intro h <;> omega
    · rw [read_inf hy]
      simp only [Datum.order, Option.some.injEq]
      cases sg x <;> cases sg y <;> simp <;> omega
    · rw [read_nan hy]
      simp [Datum.order]
  · rw [read_inf hx]
    rcases Nat.lt_trichotomy (rung y) 9218868437227405312 with hy | hy | hy
    · obtain ⟨n, e2, ry, hn⟩ := read_mag hy
      rw [ry]
      simp only [Datum.order, Option.some.injEq]
      cases sg x <;> cases sg y <;> simp <;> omega
    · rw [read_inf hy]
      simp only [Datum.order, Option.some.injEq, compn_lt, compn_gt]
      cases sg x <;> cases sg y <;> simp <;> omega
    · rw [read_nan hy]
      simp [Datum.order]
  · rw [read_nan hx]
    simp [Datum.order]
theorem flt_cmp {x y : BitVec 64} (h : flt x y) : cmp x y = -1 := ucmp_lt ((ord_key x y).1 h)
theorem fgt_cmp {x y : BitVec 64} (h : fgt x y) : cmp x y = 1 := ucmp_gt ((ord_key x y).2 h)
theorem cmp_ini (a b : BitVec 64) : InI (-cmp a b) := by
  unfold InI cmp ucmp
  split
  · omega
  · split <;> omega
theorem sorted_step (l : List (BitVec 64)) {i k : Nat} (hi : i < (sorted l).length) (hk : k < (sorted l).length) (h : i ≤ k) : ¬ cmp (sorted l)[i] (sorted l)[k] > 0 := by
  unfold cmp
  rw [ucmp_le]
  rcases Nat.lt_or_eq_of_le h with h1 | rfl
  · exact List.pairwise_iff_getElem.1 (sorted_asc l) i k hi hk h1
  · rw [BitVec.le_def]; omega
/-- A value, or the one that stands in its place. -/
def swap1 (other x : BitVec 64) : BitVec 64 := if cmp (canon x) (canon other) = 0 then other else x
def back (other : BitVec 64) (l : List (BitVec 64)) (k : Nat) : List (BitVec 64) := (l.reverse.take k).map (swap1 other)
theorem back_length {other : BitVec 64} {l : List (BitVec 64)} {k : Nat} (h : k ≤ l.length) : (back other l k).length = k := by unfold back; simp; omega
theorem back_succ {other : BitVec 64} {l : List (BitVec 64)} {k : Nat} (h : k < l.length) : back other l (k + 1) = back other l k ++ [swap1 other (l[l.length - 1 - k]'(by omega))] := by
  unfold back
  rw [List.take_succ_eq_append_getElem (by simpa using h), List.map_append, List.getElem_reverse]
  rfl
theorem canon_swap (other x : BitVec 64) : canon (swap1 other x) = canon x := by
  unfold swap1
  split
  · rename_i h
    exact ((cmp_zero _ _).1 h).symm
  · rfl
theorem tot_back (other : BitVec 64) (l : List (BitVec 64)) : tot (back other l l.length) = tot l := by
  apply tot_perm
  have e : (back other l l.length).map canon = (l.map canon).reverse := by
    unfold back
    rw [List.take_of_length_le (by simp), List.map_map, ← List.map_reverse]
    congr 1
    funext x
    exact canon_swap other x
  rw [e]
  exact List.reverse_perm _
theorem tot_turn (l : List (BitVec 64)) (k : Nat) : tot ([] ++ (l.take l.length).drop k ++ (l.take k).drop 0) = tot l := by
  apply tot_perm
  rw [List.nil_append, List.take_length, List.drop_zero]
  refine (List.Perm.map canon (List.perm_append_comm (l₁ := l.drop k) (l₂ := l.take k))).trans ?_
  rw [List.take_append_drop]
end Go.Pn.Fl
