/-
  PLAIN LAWS OF CARTS AS BYTES: what loops gather. Of no program.
-/
import Derived.Test.YtnkcmaoaagnopaaGreatDoorCn
namespace Go.Pn.Cn
open Go Go.Pn
/-! searching -/
/-- Where the first one is, or -1. -/
def idx {α : Type} (p : α → Bool) : List α → Int
  | [] => -1
  | a :: l => if p a then 0 else if idx p l = -1 then -1 else idx p l + 1
section
variable {α : Type} {p : α → Bool} {l : List α}
theorem idx_ge : ∀ l : List α, -1 ≤ idx p l
  | [] => by simp [idx]
  | a :: l => by
    have := idx_ge l
    rw [idx]
    split
    · omega
    · split <;> omega
theorem idx_no : ∀ {l : List α}, (∀ i, ∀ h : i < l.length, p l[i] = false) → idx p l = -1
  | [], _ => rfl
  | a :: l, h => by
    have h0 := h 0 (by simp)
    have h1 := idx_no (l := l) fun i hi => by
      have := h (i + 1) (by simpa using hi)
      simpa using this
    simp only [List.getElem_cons_zero] at h0
    rw [idx, h0, h1]
    rfl
theorem idx_yes : ∀ {l : List α} {k : Nat} (hk : k < l.length), p l[k] = true → (∀ i, ∀ h : i < l.length, i < k → p l[i] = false) → idx p l = k
  | [], k, hk, _, _ => by simp at hk
  | a :: l, 0, _, h, _ => by
    simp only [List.getElem_cons_zero] at h
    rw [idx, h]
    rfl
  | a :: l, k + 1, hk, h, hb => by
    have h0 := hb 0 (by simp) (by omega)
    simp only [List.getElem_cons_zero] at h0
    have h1 := idx_yes (l := l) (k := k) (by simpa using hk) (by simpa using h) fun i hi hik => by
      have := hb (i + 1) (by simpa using hi) (by omega)
      simpa using this
    rw [idx, h0, h1, if_neg (by decide), if_neg (by omega)]
    omega
theorem idx_any : ∀ l : List α, decide (idx p l ≥ 0) = l.any p
  | [] => rfl
  | a :: l => by
    have ih := idx_any l
    have := idx_ge (p := p) l
    rw [idx, List.any_cons]
    by_cases h : p a = true
    · rw [if_pos h, h]; rfl
    · rw [if_neg h]
      have h' : p a = false := by simpa using h
      rw [h', Bool.false_or, ← ih]
      apply decide_eq_decide.2
      split <;> omega
theorem idx_lt {l : List α} (h : 0 ≤ idx p l) : (idx p l).toNat < l.length := by
  induction l with
  | nil => simp [idx] at h
  | cons a l ih =>
    rw [idx] at h ⊢
    split
    · simp
    · split
      · rename_i h1 h2
        rw [if_neg h1, if_pos h2] at h
        omega
      · rename_i h1 h2
        rw [if_neg h1, if_neg h2] at h
        have := idx_ge (p := p) l
        have := ih (by omega)
        simp only [List.length_cons]
        omega
end
theorem get_no {v : List Dot} {r : Int} (h : idx (fun d : Dot => decide (d.1 = r)) v < 0) : get v r = 0 := by
  induction v with
  | nil => rfl
  | cons a v ih =>
    rw [idx] at h
    split at h
    · omega
    · rename_i h1
      have h2 := idx_ge (p := fun d : Dot => decide (d.1 = r)) v
      have h3 : idx (fun d : Dot => decide (d.1 = r)) v < 0 := by
        split at h <;> omega
      have h4 : ¬ a.1 = r := by simpa using h1
      unfold get at ih ⊢
      rw [List.find?_cons_of_neg (by simpa using h4)]
      exact ih h3
theorem get_yes {v : List Dot} {r : Int} {k : Nat} (h : idx (fun d : Dot => decide (d.1 = r)) v = k) : ∃ hk : k < v.length, get v r = v[k].2 := by
  induction v generalizing k with
  | nil => simp [idx] at h
  | cons a v ih =>
    rw [idx] at h
    have h2 := idx_ge (p := fun d : Dot => decide (d.1 = r)) v
    split at h
    · rename_i h1
      obtain rfl : k = 0 := by omega
      have h4 : a.1 = r := by simpa using h1
      refine ⟨by simp, ?_⟩
      unfold get
      rw [List.find?_cons_of_pos (by simpa using h4)]
      try rfl
    · rename_i h1
      have h4 : ¬ a.1 = r := by simpa using h1
      split at h
      · omega
      · obtain ⟨j, rfl⟩ : ∃ j, k = j + 1 := ⟨k - 1, by omega⟩
        obtain ⟨hj, e⟩ := ih (k := j) (by omega)
        refine ⟨by simpa using hj, ?_⟩
        unfold get at e ⊢
        rw [List.find?_cons_of_neg (by simpa using h4)]
        simpa using e
theorem get_yes2 {v : List Dot} {r : Int} (h : ¬ idx (fun d : Dot => decide (d.1 = r)) v < 0) : ∃ hk : (idx (fun d : Dot => decide (d.1 = r)) v).toNat < v.length, get v r = v[(idx (fun d : Dot => decide (d.1 = r)) v).toNat].2 := get_yes (by omega)
theorem get_bound {x : Ctx} (h : ctxValid x = true) : ∀ r, 0 ≤ get x.1 r ∧ get x.1 r ≤ 4294967295 := by
  intro r
  unfold ctxValid vecValid at h
  simp only [Bool.and_eq_true] at h
  have h1 := any_false h.1.2
  have h2 := idx_ge (p := fun d : Dot => decide (d.1 = r)) x.1
  by_cases h3 : idx (fun d : Dot => decide (d.1 = r)) x.1 < 0
  · rw [get_no h3]
    omega
  · obtain ⟨hk, e⟩ := get_yes (v := x.1) (r := r) (k := (idx (fun d : Dot => decide (d.1 = r)) x.1).toNat) (by omega)
    have h4 := okD_of (h1 _ (List.getElem_mem hk))
    unfold Dt.Valid at h4
    omega
/-! neighbours -/
section
variable {α : Type} {r : α → α → Bool}
theorem adj_yes : ∀ {l : List α}, (∀ i, ∀ h : i + 1 < l.length, r l[i] l[i + 1] = true) → adj r l = true
  | [], _ => rfl
  | [_], _ => rfl
  | a :: b :: l, h => by
    have h0 := h 0 (by simp)
    have h1 := adj_yes (l := b :: l) fun i hi => by
      have := h (i + 1) (by simpa using hi)
      simpa using this
    simp only [List.getElem_cons_zero, List.getElem_cons_succ] at h0
    rw [adj, h0, h1]
    rfl
theorem adj_of : ∀ {l : List α}, adj r l = true → ∀ i, ∀ h : i + 1 < l.length, r l[i] l[i + 1] = true
  | [], _, i, hi => by simp at hi
  | [_], _, i, hi => by simp at hi
  | a :: b :: l, h, 0, hi => by
    rw [adj, Bool.and_eq_true] at h
    simpa using h.1
  | a :: b :: l, h, i + 1, hi => by
    rw [adj, Bool.and_eq_true] at h
    have := adj_of (l := b :: l) h.2 i (by simpa using hi)
    simpa using this
theorem adj_no {l : List α} {i j : Nat} (hi : i < l.length) (hj : j < l.length) (hij : i = j + 1) (h : r l[j] l[i] = false) : adj r l = false := by
  subst hij
  cases hq : adj r l with
  | false => rfl
  | true =>
    have := adj_of hq j hi
    rw [this] at h
    cases h
end
theorem any_yes {α : Type} {p : α → Bool} {l : List α} {k : Nat} (hk : k < l.length) (h : p l[k] = true) : l.any p = true := List.any_eq_true.2 ⟨l[k], List.getElem_mem _, h⟩
theorem any_no {α : Type} {p : α → Bool} {l : List α} (h : ∀ i, ∀ hi : i < l.length, p l[i] = false) : l.any p = false := by
  rw [List.any_eq_false]
  intro x hx
  obtain ⟨i, hi, rfl⟩ := List.getElem_of_mem hx
  rw [h i hi]
  decide
theorem all_yes {α : Type} {p : α → Bool} {l : List α} (h : ∀ i, ∀ hi : i < l.length, p l[i] = true) : l.all p = true := by
  rw [List.all_eq_true]
  intro x hx
  obtain ⟨i, hi, rfl⟩ := List.getElem_of_mem hx
  exact h i hi
theorem all_no {α : Type} {p : α → Bool} {l : List α} {k : Nat} (hk : k < l.length) (h : p l[k] = false) : l.all p = false := by
  cases hq : l.all p with
  | false => rfl
  | true =>
    have := (List.all_eq_true.1 hq) _ (List.getElem_mem hk)
    rw [this] at h
    cases h
theorem flatMap_take {α β : Type} (f : α → List β) {l : List α} {k : Nat} (hk : k < l.length) : (l.take (k + 1)).flatMap f = (l.take k).flatMap f ++ f l[k] := by
  rw [List.take_succ_eq_append_getElem hk, List.flatMap_append, List.flatMap_singleton]
theorem map_take {α β : Type} (f : α → β) {l : List α} {k : Nat} (hk : k < l.length) : (l.take (k + 1)).map f = (l.take k).map f ++ [f l[k]] := by
  rw [List.take_succ_eq_append_getElem hk, List.map_append]
  rfl
theorem count_take {l : List Item} {k : Nat} (hk : k < l.length) : count (l.take (k + 1)) = count (l.take k) + l[k].2.length := by
  unfold count
  rw [map_take _ hk, List.sum_append]
  simp
theorem flat_len {l : List Item} {b : Nat} (h : ∀ x ∈ l, x.2.length ≤ b) : (l.flatMap fun x => mdots x.2).length ≤ l.length * b := by
  induction l with
  | nil => simp
  | cons a l ih =>
    have h1 := h a (by simp)
    have h2 := ih fun x hx => h x (by simp [hx])
    rw [List.flatMap_cons, List.length_append, List.length_cons, Nat.add_mul, Nat.one_mul]
    have : (mdots a.2).length = a.2.length := by unfold mdots; simp
    omega
theorem flat_take {l : List Item} {b k : Nat} (h : ∀ x ∈ l, x.2.length ≤ b) (hk : k ≤ l.length) : ((l.take k).flatMap fun x => mdots x.2).length ≤ k * b := by
  have := flat_len (l := l.take k) fun x hx => h x (List.mem_of_mem_take hx)
  rwa [List.length_take, Nat.min_eq_left hk] at this
theorem dotsOf_len {l : List Item} {b : Nat} (h : ∀ x ∈ l, x.2.length ≤ b) : (dotsOf l).length ≤ l.length * b := by
  have h1 := flat_len h
  have h2 := Dt.addAll_length (l.flatMap fun x => mdots x.2) []
  simp only [List.length_nil, Nat.zero_add] at h2
  unfold dotsOf Dt.set
  omega
theorem count_le {l : List Item} {b : Nat} (h : ∀ x ∈ l, x.2.length ≤ b) : count l ≤ l.length * b := by
  induction l with
  | nil => simp [count]
  | cons a l ih =>
    have h1 := h a (by simp)
    have h2 := ih fun x hx => h x (by simp [hx])
    unfold count at h2 ⊢
    rw [List.map_cons, List.sum_cons, List.length_cons, Nat.add_mul, Nat.one_mul]
    omega
theorem count_take_le {l : List Item} {b k : Nat} (h : ∀ x ∈ l, x.2.length ≤ b) (hk : k ≤ l.length) : count (l.take k) ≤ k * b := by
  have := count_le (l := l.take k) fun x hx => h x (List.mem_of_mem_take hx)
  rwa [List.length_take, Nat.min_eq_left hk] at this
theorem okName_all {s : List UInt8} {k : Nat} (hk : k < s.length) (h : okC s[k] = false) : okName s = false := by
  unfold okName
  rw [all_no hk h]
  rfl
theorem okC_lo {c : UInt8} (h : c.toNat < 32) : okC c = false := by unfold okC; rw [decide_eq_true h]; rfl
theorem okC_hi {c : UInt8} (h : c.toNat > 126) : okC c = false := by
  unfold okC
  rw [decide_eq_true h, Bool.or_true]
  rfl
theorem okC_ok {c : UInt8} (h : ¬ c.toNat < 32) (k : ¬ c.toNat > 126) : okC c = true := by unfold okC; rw [decide_eq_false h, decide_eq_false k]; rfl
theorem filter_none {α : Type} {p : α → Bool} {l : List α} (h : idx p l = -1) : (l.filter fun x => !p x) = l := by
  rw [List.filter_eq_self]
  intro x hx
  obtain ⟨i, hi, rfl⟩ := List.getElem_of_mem hx
  have h1 := idx_any (p := p) l
  rw [h] at h1
  have h2 : l.any p = false := by rw [← h1]; decide
  have := List.any_eq_false.1 h2 _ hx
  simpa using this
theorem filter_take {α : Type} (p : α → Bool) {l : List α} {k : Nat} (hk : k < l.length) : ((l.take (k + 1)).filter fun x => !p x) = ((l.take k).filter fun x => !p x) ++ (if p l[k] then [] else [l[k]]) := by
  rw [List.take_succ_eq_append_getElem hk, List.filter_append, List.filter_cons]
  cases p l[k] <;> rfl
theorem idx_at {α : Type} {p : α → Bool} : ∀ {l : List α} {k : Nat}, idx p l = (k : Int) → (∃ hk : k < l.length, p l[k] = true) ∧ ∀ i, ∀ h : i < l.length, i < k → p l[i] = false
  | [], k, h => by simp [idx] at h
  | a :: l, k, h => by
    rw [idx] at h
    have h2 := idx_ge (p := p) l
    split at h
    · rename_i h1
      obtain rfl : k = 0 := by omega
      exact ⟨⟨by simp, by simpa using h1⟩, fun i _ hi => absurd hi (Nat.not_lt_zero _)⟩
    · rename_i h1
      split at h
      · omega
      · obtain ⟨j, rfl⟩ : ∃ j, k = j + 1 := ⟨k - 1, by omega⟩
        obtain ⟨⟨hj, e⟩, hb⟩ := idx_at (p := p) (l := l) (k := j) (by omega)
        refine ⟨⟨by simpa using hj, by simpa using e⟩, fun i hi hik => ?_⟩
        cases i with
        | zero => simpa using h1
        | succ i => simpa using hb i (by simpa using hi) (by omega)
theorem filter_first {α : Type} {p : α → Bool} {l : List α} {k : Nat} (h : idx p l = (k : Int)) : (l.take k).filter (fun x => !p x) = l.take k ∧ (l.take (k + 1)).filter (fun x => !p x) = l.take k := by
  obtain ⟨⟨hk, h1⟩, h2⟩ := idx_at h
  have e : (l.take k).filter (fun x => !p x) = l.take k := by
    rw [List.filter_eq_self]
    intro x hx
    obtain ⟨i, hi, rfl⟩ := List.getElem_of_mem hx
    have hi2 : i < k := by simp at hi; omega
    rw [List.getElem_take, h2 i (by omega) hi2]
    rfl
  exact ⟨e, by rw [filter_take p hk, e, h1]; simp⟩
/-! numbers -/
theorem num_step {m : BitVec 64} (h : ¬ m.toNat < 128) : num m.toNat = UInt8.ofBitVec (m.setWidth 8 ||| 128#8) :: num (m >>> 7).toNat := by
  have e1 : (m >>> 7).toNat = m.toNat / 128 := by rw [BitVec.toNat_ushiftRight, Nat.shiftRight_eq_div_pow]
  have e2 : UInt8.ofNat (128 + m.toNat % 128) = UInt8.ofBitVec (m.setWidth 8 ||| 128#8) := by
    apply UInt8.toNat_inj.1
    have h1 : (UInt8.ofBitVec (m.setWidth 8 ||| 128#8)).toNat = (m.setWidth 8 ||| 128#8).toNat := rfl
    rw [h1, UInt8.toNat_ofNat']
    have h2 : ∀ x : BitVec 8, (x ||| 128#8).toNat = 128 + x.toNat % 128 := by decide +kernel
    rw [h2, BitVec.toNat_setWidth]
    omega
  rw [num_ge h, e1, e2]
theorem num_last {m : BitVec 64} (h : m.toNat < 128) : num m.toNat = [UInt8.ofBitVec (m.setWidth 8)] := by
  rw [num_lt h]
  refine congrArg (fun x => [x]) ?_
  apply UInt8.toNat_inj.1
  have h1 : (UInt8.ofBitVec (m.setWidth 8)).toNat = (m.setWidth 8).toNat := rfl
  rw [h1, UInt8.toNat_ofNat', BitVec.toNat_setWidth]
theorem num_step2 {m : BitVec 64} (h : ¬ m.toNat < 128) : num m.toNat = UInt8.ofBitVec ((128#64 + m % 128#64).setWidth 8) :: num (m / 128#64).toNat := by
  have e1 : (m / 128#64).toNat = m.toNat / 128 := by rw [BitVec.toNat_udiv]; rfl
  have e2 : UInt8.ofNat (128 + m.toNat % 128) = UInt8.ofBitVec ((128#64 + m % 128#64).setWidth 8) := by
    apply UInt8.toNat_inj.1
    have h1 : (UInt8.ofBitVec ((128#64 + m % 128#64).setWidth 8)).toNat = ((128#64 + m % 128#64).setWidth 8).toNat := rfl
    have h2 : (128#64 + m % 128#64).toNat = 128 + m.toNat % 128 := by
      rw [BitVec.toNat_add, BitVec.toNat_umod]
      simp
      omega
    rw [h1, UInt8.toNat_ofNat', BitVec.toNat_setWidth, h2]
  rw [num_ge h, e1, e2]
theorem num_le (n : Nat) : n < 2 ^ 64 → (num n).length ≤ 10 := by
  have key : ∀ (g n : Nat), n < 128 ^ (g + 1) → (num n).length ≤ g + 1 := by
    intro g
    induction g with
    | zero => intro n h; rw [num_lt (by simpa using h)]; simp
    | succ g ih =>
      intro n h
      by_cases h1 : n < 128
      · rw [num_lt h1]; simp
      · rw [num_ge h1, List.length_cons]
        have := ih (n / 128) (by rw [Nat.div_lt_iff_lt_mul (by decide), ← Nat.pow_succ]; exact h)
        omega
  intro h
  exact key 9 n (by omega)
theorem num_u (x : BitVec 64) : (num x.toNat).length ≤ 10 := num_le _ x.isLt
theorem u_def (x : Int) : (BitVec.ofInt 64 x).toNat = u x := rfl
theorem u_nat {n : Nat} (h : n < 2 ^ 64) : u (n : Int) = n := by
  unfold u
  rw [BitVec.ofInt_natCast, BitVec.toNat_ofNat, Nat.mod_eq_of_lt h]
theorem flatten_take {α : Type} {l : List (List α)} {k : Nat} (hk : k < l.length) : (l.take (k + 1)).flatten = (l.take k).flatten ++ l[k] := by
  rw [List.take_succ_eq_append_getElem hk, List.flatten_append, List.flatten_singleton]
theorem flatten_take_le {α : Type} (l : List (List α)) (k : Nat) : (l.take k).flatten.length ≤ l.flatten.length := by
  conv => rhs; rw [← List.take_append_drop k l]
  rw [List.flatten_append, List.length_append]
  omega
theorem num_u' (n : Int) : (num (u n)).length ≤ 10 := num_le _ (BitVec.isLt _)
theorem flatMap_le {α β : Type} {f : α → List β} {b : Nat} {l : List α} (h : ∀ x ∈ l, (f x).length ≤ b) : (l.flatMap f).length ≤ b * l.length := by
  induction l with
  | nil => simp
  | cons a l ih =>
    have h1 := h a (by simp)
    have h2 := ih fun x hx => h x (by simp [hx])
    rw [List.flatMap_cons, List.length_append, List.length_cons, Nat.mul_add, Nat.mul_one]
    omega
theorem flatMap_take_le {α β : Type} {f : α → List β} {b k : Nat} {l : List α} (h : ∀ x ∈ l, (f x).length ≤ b) (hk : k ≤ l.length) : ((l.take k).flatMap f).length ≤ b * k := by
  have := flatMap_le (l := l.take k) fun x hx => h x (List.mem_of_mem_take hx)
  rwa [List.length_take, Nat.min_eq_left hk] at this
theorem dotB_le (d : Dot) : (dotB d).length ≤ 20 := by
  have h1 := num_u' d.1
  have h2 := num_u' d.2
  unfold dotB
  rw [List.length_append]
  omega
theorem markB_le (m : Mark) : (markB m).length ≤ 40 := by
  have h1 := num_u' m.1.1
  have h2 := num_u' m.1.2
  have h3 := num_u' m.2.1
  have h4 := num_u m.2.2
  unfold markB
  simp only [List.length_append]
  omega
theorem dotsB_le {l : List Dot} (h : l.length ≤ 1000000) : (dotsB l).length ≤ 20000010 := by
  have h1 := num_le l.length (by omega)
  have h2 := flatMap_le (f := dotB) (b := 20) (l := l) fun x _ => dotB_le x
  unfold dotsB
  rw [List.length_append]
  omega
theorem itemB_le {x : Item} (h : x.1.length ≤ 1000000 ∧ x.2.length ≤ 1000000) : (itemB x).length ≤ 41000020 := by
  have h1 := num_le x.1.length (by omega)
  have h2 := num_le x.2.length (by omega)
  have h3 := flatMap_le (f := markB) (b := 40) (l := x.2) fun x _ => markB_le x
  unfold itemB strB
  simp only [List.length_append]
  omega
theorem bytes_le {a : Cart} (hn : a.2.length ≤ 1000000) (hS : ∀ x ∈ a.2, x.1.length ≤ 1000000 ∧ x.2.length ≤ 1000000) (hp : a.1.1.length ≤ 1000000) (hq : a.1.2.length ≤ 1000000) : (bytes a).length ≤ 42000000000000 := by
  have h1 := dotsB_le hp
  have h2 := dotsB_le hq
  have h3 := num_le a.2.length (by omega)
  have h4 := flatMap_le (f := itemB) (b := 41000020) (l := a.2) fun x hx => itemB_le (hS x hx)
  unfold bytes ctxB itemsB
  simp only [List.length_append]
  omega
theorem err_yes {b : Bool} (h : (if b then (0 : Int) else 2) ≠ 0) : b = false := by cases b <;> simp_all
theorem err_no {b : Bool} (h : ¬ (if b then (0 : Int) else 2) ≠ 0) : b = true := by cases b <;> simp_all
theorem smallI_yes {x : Item} (h : x.2.length ≤ 20) (k : x.1.length ≤ 100) : smallI x = true := by unfold smallI; rw [decide_eq_true h, decide_eq_true k]; rfl
theorem smallI_no {x : Item} (h : 20 < x.2.length ∨ 100 < x.1.length) : smallI x = false := by
  unfold smallI
  rcases h with h | h
  · rw [decide_eq_false (by omega)]; rfl
  · rw [decide_eq_false (p := x.1.length ≤ 100) (by omega), Bool.and_false]
theorem small_of {a : Cart} (h : a.2.length ≤ 20 → ∀ i, ∀ hi : i < a.2.length, smallI a.2[i] = true) : decide ((((a.1.1.length : Nat) : Int) ≤ 40 ∧ ((a.1.2.length : Nat) : Int) ≤ 40) ∧ ((a.2.length : Nat) : Int) ≤ 20) = small a := by
  unfold small
  by_cases hs : (a.1.1.length ≤ 40 ∧ a.1.2.length ≤ 40) ∧ a.2.length ≤ 20
  · rw [decide_eq_true hs, all_yes (h hs.2), decide_eq_true (by omega)]
    rfl
  · rw [decide_eq_false hs, decide_eq_false (by omega)]
    rfl
theorem small_iff {a : Cart} (h : small a = true) : a.1.1.length ≤ 40 ∧ a.1.2.length ≤ 40 ∧ a.2.length ≤ 20 ∧ ∀ x ∈ a.2, x.2.length ≤ 20 ∧ x.1.length ≤ 100 := by
  unfold small at h
  rw [Bool.and_eq_true, decide_eq_true_eq, List.all_eq_true] at h
  refine ⟨h.1.1.1, h.1.1.2, h.1.2, fun x hx => ?_⟩
  have := h.2 x hx
  unfold smallI at this
  simpa using this
theorem ne_of {α : Type} [DecidableEq α] {x y : α} (h : (!decide (x = y)) = true) : ¬ x = y := by simpa using h
theorem item_of {a b : Cart} (h : a = b) {i : Nat} (h1 : i < a.2.length) (h2 : i < b.2.length) : a.2[i] = b.2[i] := by subst h; rfl
theorem mark_of {u v : Item} (h : u = v) {i : Nat} (h1 : i < u.2.length) (h2 : i < v.2.length) : u.2[i] = v.2[i] := by subst h; rfl
/-! order of bytes -/
theorem cmpB_next {x y : List UInt8} {k : Nat} (hx : k < x.length) (hy : k < y.length) (h : x[k] = y[k]) : cmpB (x.drop (k + 1)) (y.drop (k + 1)) = cmpB (x.drop k) (y.drop k) := by
  rw [List.drop_eq_getElem_cons hx, List.drop_eq_getElem_cons hy, cmpB, if_pos h]
theorem cmpB_differ {x y : List UInt8} {k : Nat} (hx : k < x.length) (hy : k < y.length) (h : x[k] ≠ y[k]) : cmpB (x.drop k) (y.drop k) = if x[k] < y[k] then -1 else 1 := by
  rw [List.drop_eq_getElem_cons hx, List.drop_eq_getElem_cons hy, cmpB, if_neg h]
theorem cmpB_end {x y : List UInt8} {k : Nat} (hx : k ≤ x.length) (hy : k ≤ y.length) (h : k = x.length ∨ k = y.length) : cmpB (x.drop k) (y.drop k) = if x.length < y.length then -1 else if y.length < x.length then 1 else 0 := by
  by_cases h1 : k = x.length
  · by_cases h2 : k = y.length
    · rw [List.drop_of_length_le (by omega), List.drop_of_length_le (by omega), if_neg (by omega), if_neg (by omega)]
      rfl
    · rw [List.drop_of_length_le (by omega), List.drop_eq_getElem_cons (by omega), if_pos (by omega)]
      rfl
  · have h2 : k = y.length := by omega
    rw [List.drop_eq_getElem_cons (by omega), List.drop_of_length_le (l := y) (by omega), if_neg (by omega), if_pos (by omega)]
    rfl
theorem eq_of_three {x y : UInt8} {q : Int} (hq : q = (if x.toNat < y.toNat then -1 else if y.toNat < x.toNat then 1 else 0)) (h : ¬ q ≠ 0) : x = y := by
  rw [u8_eq]
  split at hq
  · omega
  · split at hq
    · omega
    · omega
theorem cmpB_three {x y : List UInt8} {k : Nat} (hx : k < x.length) (hy : k < y.length) {q : Int} (hq : q = (if (x[k]).toNat < (y[k]).toNat then -1 else if (y[k]).toNat < (x[k]).toNat then 1 else 0)) (h : q ≠ 0) : cmpB (x.drop k) (y.drop k) = q := by
  have hne : x[k] ≠ y[k] := by
    intro e
    rw [e] at hq
    simp at hq
    exact h hq
  rw [cmpB_differ hx hy hne, hq]
  by_cases h1 : x[k] < y[k]
  · rw [if_pos h1, if_pos (u8_lt.1 h1)]
  · have h2 : ¬ (x[k]).toNat < (y[k]).toNat := fun h => h1 (u8_lt.2 h)
    rw [if_neg h1, if_neg h2, if_pos (by rw [Ne, u8_eq] at hne; omega)]
theorem cmpB_in (a b : List UInt8) : cmpB a b = -1 ∨ cmpB a b = 0 ∨ cmpB a b = 1 := by
  induction a generalizing b with
  | nil => cases b <;> simp [cmpB]
  | cons x a ih =>
    cases b with
    | nil => simp [cmpB]
    | cons y b =>
      rw [cmpB]
      split
      · exact ih b
      · split <;> simp
end Go.Pn.Cn
