/-
  Plain laws of dots: their order, sets of them. No program in sight. No condition.
-/
import Derived.Test.YtnkcmaoaagnopaaGreatDoorFw11
namespace Go.Pn
section
variable {P : Program} {n : Nat} {ops rest : List Oper} {N : Val → World → Prop} {Z : List PanicEntry → World → Prop} {f : Val} {w : World}
  {d : Nat} {x : Operand} {t ty : TypeId} {pos : String} {after : Array Edge} {F : Nat → Prop}
/-- A load of one cell of flat data. -/
theorem O.load1F {α : Type} {G : Flat α} {a : Addr} {z : α} {u : Value} (hag : ∀ w, (isAgg t).run P w = .ok false w) (h1 : G.sz = 1) (hu : G.e z = [u]) (hx : ev n f x = .pointer (some a)) (ha : At G.enc w F a z)
    (h : O P n ops rest N Z (upd f d u) w) : O P n ops ({ dst := some d, op := .load t x, type := ty, pos := pos, after := after, guard := .none } :: rest) N Z f w :=
  O.load1 (E := G.enc) hag h1 hx ha fun v hv => by
    have e : [v] = G.e z := hv
    rw [hu] at e
    obtain rfl : v = u := by simpa using e
    exact h
end
end Go.Pn
namespace Go.Pn.Dt
/-- A dot: its replica, its counter. -/
abbrev Dot := Int × Int
def dotF : Flat Dot := ⟨2, fun d => [.int .i64 d.1, .int .i64 d.2], fun _ => rfl, by simp [Value.oneCell'], by decide⟩
def intF : Flat Int := ⟨1, fun x => [.int .i64 x], fun _ => rfl, by simp [Value.oneCell'], by decide⟩
abbrev intE : Enc Int := intF.enc
theorem intE.inv {w : World} {F : Nat → Prop} {v : Value} {x : Int} (h : intE.rep w F [v] x) : v = .int .i64 x := by
  have : [v] = [Value.int .i64 x] := h
  simpa using this
/-- The value of a dot. -/
def dv (d : Dot) : Value := .agg #[.int .i64 d.1, .int .i64 d.2]
def Valid (d : Dot) : Prop := 1 ≤ d.1 ∧ d.1 ≤ 65535 ∧ 1 ≤ d.2 ∧ d.2 ≤ 4294967295
instance (d : Dot) : Decidable (Valid d) := by unfold Valid; infer_instance
def Less (a b : Dot) : Prop := a.2 < b.2 ∨ (a.2 = b.2 ∧ a.1 < b.1)
instance (a b : Dot) : Decidable (Less a b) := by unfold Less; infer_instance
def cmp (a b : Dot) : Int := if Less a b then -1 else if Less b a then 1 else 0
theorem less_irrefl (a : Dot) : ¬ Less a a := by unfold Less; omega
theorem less_trans {a b c : Dot} (h : Less a b) (k : Less b c) : Less a c := by unfold Less at *; omega
theorem less_total (a b : Dot) : Less a b ∨ a = b ∨ Less b a := by
  unfold Less
  rcases Int.lt_trichotomy a.2 b.2 with h | h | h
  · exact .inl (.inl h)
  · rcases Int.lt_trichotomy a.1 b.1 with k | k | k
    · exact .inl (.inr ⟨h, k⟩)
    · exact .inr (.inl (Prod.ext k h))
    · exact .inr (.inr (.inr ⟨h.symm, k⟩))
  · exact .inr (.inr (.inl h))
/-- How two whole numbers stand to each other. -/
def icmp (a b : Int) : Int := if a < b then -1 else if b < a then 1 else 0
theorem cmp_or (a b : Dot) : cmp a b = if icmp a.2 b.2 ≠ 0 then icmp a.2 b.2 else icmp a.1 b.1 := by
  unfold cmp icmp Less
  repeat' split
  all_goals first | rfl | omega
theorem cmp_lt (a b : Dot) : cmp a b < 0 ↔ Less a b := by
  unfold cmp
  split
  · simp [*]
  · split <;> simp [*]
theorem cmp_zero (a b : Dot) : cmp a b = 0 ↔ a = b := by
  unfold cmp
  constructor
  · intro h
    split at h
    · cases h
    · split at h
      · cases h
      · rcases less_total a b with k | k | k
        · contradiction
        · exact k
        · contradiction
  · rintro rfl
    rw [if_neg (less_irrefl a), if_neg (less_irrefl a)]
theorem cmp_gt (a b : Dot) : cmp a b > 0 ↔ Less b a := by
  unfold cmp
  split
  · rename_i h
    constructor
    · intro k; cases k
    · intro k; exact absurd (less_trans h k) (less_irrefl a)
  · split <;> simp [*]
theorem cmp_ge (a b : Dot) : cmp a b ≥ 0 ↔ ¬ Less a b := by rw [← cmp_lt]; omega

/-! sets -/
abbrev Sset (l : List Dot) : Prop := l.Pairwise Less
theorem sset_ext : ∀ {l l' : List Dot}, Sset l → Sset l' → (∀ x, x ∈ l ↔ x ∈ l') → l = l' := by
  intro l
  induction l with
  | nil =>
    intro l' _ _ h
    cases l' with
    | nil => rfl
    | cons b l' => exact absurd ((h b).2 (by simp)) (by simp)
  | cons a l ih =>
    intro l' h1 h2 h
    cases l' with
    | nil => exact absurd ((h a).1 (by simp)) (by simp)
    | cons b l' =>
      have p1 := List.pairwise_cons.1 h1
      have p2 := List.pairwise_cons.1 h2
      have hab : a = b := by
        rcases List.mem_cons.1 ((h a).1 (by simp)) with e | ha
        · exact e
        · rcases List.mem_cons.1 ((h b).2 (by simp)) with e | hb
          · exact e.symm
          · exact absurd (less_trans (p2.1 a ha) (p1.1 b hb)) (less_irrefl b)
      subst hab
      rw [ih p1.2 p2.2]
      intro x
      constructor
      · intro hx
        rcases List.mem_cons.1 ((h x).1 (List.mem_cons_of_mem _ hx)) with e | hx2
        · subst e; exact absurd (p1.1 x hx) (less_irrefl x)
        · exact hx2
      · intro hx
        rcases List.mem_cons.1 ((h x).2 (List.mem_cons_of_mem _ hx)) with e | hx2
        · subst e; exact absurd (p2.1 x hx) (less_irrefl x)
        · exact hx2
/-- A set with one more dot. -/
def withD (s : List Dot) (d : Dot) : List Dot := if d ∈ s then s else s.takeWhile (fun y => decide (Less y d)) ++ d :: s.dropWhile (fun y => decide (Less y d))
theorem with_mem (s : List Dot) (d x : Dot) : x ∈ withD s d ↔ x ∈ s ∨ x = d := by
  unfold withD
  split
  · rename_i h
    constructor
    · exact .inl
    · rintro (h2 | rfl) <;> assumption
  · have e := List.takeWhile_append_dropWhile (p := fun y => decide (Less y d)) (l := s)
    rw [List.mem_append, List.mem_cons]
    have e2 : x ∈ s ↔ x ∈ s.takeWhile (fun y => decide (Less y d)) ∨ x ∈ s.dropWhile (fun y => decide (Less y d)) := by rw [← List.mem_append, e]
    rw [e2]
    constructor
    · rintro (h | h | h)
      · exact .inl (.inl h)
      · exact .inr h
      · exact .inl (.inr h)
    · rintro ((h | h) | h)
      · exact .inl h
      · exact .inr (.inr h)
      · exact .inr (.inl h)
theorem with_sset {s : List Dot} (d : Dot) (h : Sset s) : Sset (withD s d) := by
  unfold withD
  split
  · exact h
  · rename_i hd
    induction s with
    | nil => simp [Sset]
    | cons y s ih =>
      have p := List.pairwise_cons.1 h
      by_cases hy : Less y d
      · have e1 : (y :: s).takeWhile (fun z => decide (Less z d)) = y :: s.takeWhile (fun z => decide (Less z d)) := by simp [hy]
        have e2 : (y :: s).dropWhile (fun z => decide (Less z d)) = s.dropWhile (fun z => decide (Less z d)) := by simp [hy]
        rw [e1, e2, List.cons_append]
        have hd2 : d ∉ s := fun k => hd (List.mem_cons_of_mem _ k)
        refine List.pairwise_cons.2 ⟨?_, ih p.2 hd2⟩
        intro z hz
        have hz2 : z ∈ withD s d := by unfold withD; rw [if_neg hd2]; exact hz
        rcases (with_mem s d z).1 hz2 with k | rfl
        · exact p.1 z k
        · exact hy
      · have e1 : (y :: s).takeWhile (fun z => decide (Less z d)) = [] := by simp [hy]
        have e2 : (y :: s).dropWhile (fun z => decide (Less z d)) = y :: s := by simp [hy]
        rw [e1, e2, List.nil_append]
        have hdy : Less d y := by
          rcases less_total d y with k | k | k
          · exact k
          · subst k; exact absurd (by simp) hd
          · exact absurd k hy
        refine List.pairwise_cons.2 ⟨?_, h⟩
        intro z hz
        rcases List.mem_cons.1 hz with rfl | hz
        · exact hdy
        · exact less_trans hdy (p.1 z hz)
theorem with_at {s : List Dot} {d : Dot} {j : Nat} (hd : d ∉ s) (hj : j ≤ s.length) (hall : ∀ y ∈ s.take j, Less y d) (hend : j = s.length ∨ ∃ h : j < s.length, ¬ Less s[j] d) : s.take j ++ d :: s.drop j = withD s d := by
  unfold withD
  rw [if_neg hd]
  have h1 : s.takeWhile (fun y => decide (Less y d)) = s.take j ∧ s.dropWhile (fun y => decide (Less y d)) = s.drop j := by
    clear hd
    induction s generalizing j with
    | nil => simp at hj; subst hj; simp
    | cons y s ih =>
      cases j with
      | zero =>
        rcases hend with h | ⟨_, h⟩
        · simp at h
        · simp only [List.getElem_cons_zero] at h
          simp [h]
      | succ j =>
        have hy : Less y d := hall y (by simp)
        have := ih (j := j) (by simpa using hj) (fun z hz => hall z (by simp [hz])) (by
          rcases hend with h | ⟨h, h2⟩
          · left; simpa using h
          · right; exact ⟨by simpa using h, by simpa using h2⟩)
        simp [hy, this.1, this.2]
  rw [h1.1, h1.2]
/-- The set of a list, behind a set. -/
def addAll (s l : List Dot) : List Dot := l.foldl withD s
def set (l : List Dot) : List Dot := addAll [] l
theorem addAll_mem (l : List Dot) : ∀ (s : List Dot) (x : Dot), x ∈ addAll s l ↔ x ∈ s ∨ x ∈ l := by
  unfold addAll
  induction l with
  | nil => intro s x; simp
  | cons a l ih =>
    intro s x
    rw [List.foldl_cons, ih, with_mem, List.mem_cons]
    constructor
    · rintro ((h | h) | h)
      · exact .inl h
      · exact .inr (.inl h)
      · exact .inr (.inr h)
    · rintro (h | h | h)
      · exact .inl (.inl h)
      · exact .inl (.inr h)
      · exact .inr h
theorem addAll_sset (l : List Dot) : ∀ {s : List Dot}, Sset s → Sset (addAll s l) := by
  unfold addAll
  induction l with
  | nil => intro s h; exact h
  | cons a l ih => intro s h; exact ih (with_sset a h)
theorem set_mem (l : List Dot) (x : Dot) : x ∈ set l ↔ x ∈ l := by unfold set; rw [addAll_mem]; simp
theorem set_sset (l : List Dot) : Sset (set l) := addAll_sset l List.Pairwise.nil
theorem addAll_take {s l : List Dot} {k : Nat} (h : k < l.length) : addAll s (l.take (k + 1)) = withD (addAll s (l.take k)) l[k] := by
  unfold addAll
  rw [List.take_succ_eq_append_getElem h, List.foldl_append]
  rfl
theorem with_length (s : List Dot) (d : Dot) : (withD s d).length ≤ s.length + 1 := by
  unfold withD
  split
  · omega
  · have e := congrArg List.length (List.takeWhile_append_dropWhile (p := fun y => decide (Less y d)) (l := s))
    rw [List.length_append] at e
    rw [List.length_append, List.length_cons]
    omega
theorem addAll_length (l : List Dot) : ∀ (s : List Dot), (addAll s l).length ≤ s.length + l.length := by
  unfold addAll
  induction l with
  | nil => intro s; simp
  | cons a l ih =>
    intro s
    rw [List.foldl_cons, List.length_cons]
    have := ih (withD s a)
    have := with_length s a
    omega
/-- A list in order, each dot once. -/
def compact : List Dot → List Dot
  | [] => []
  | [a] => [a]
  | a :: b :: l => if a = b then compact (b :: l) else a :: compact (b :: l)
theorem compact_mem : ∀ (l : List Dot) (x : Dot), x ∈ compact l ↔ x ∈ l
  | [], x => by simp [compact]
  | [a], x => by simp [compact]
  | a :: b :: l, x => by
    unfold compact
    have ih := compact_mem (b :: l) x
    split
    · rename_i h
      subst h
      rw [ih]
      simp
    · simp only [List.mem_cons, ih]
theorem compact_head : ∀ (a : Dot) (l : List Dot), ∃ r, compact (a :: l) = a :: r
  | a, [] => ⟨[], rfl⟩
  | a, b :: l => by
    unfold compact
    split
    · rename_i h
      subst h
      exact compact_head a l
    · exact ⟨_, rfl⟩
theorem compact_sset : ∀ {l : List Dot}, l.Pairwise (fun a b => ¬ Less b a) → Sset (compact l)
  | [], _ => by simp [compact, Sset]
  | [a], _ => by simp [compact, Sset]
  | a :: b :: l, h => by
    have p := List.pairwise_cons.1 h
    have ih := compact_sset p.2
    unfold compact
    split
    · exact ih
    · rename_i hab
      refine List.pairwise_cons.2 ⟨?_, ih⟩
      intro z hz
      have hb : Less a b := by
        rcases less_total a b with k | k | k
        · exact k
        · exact absurd k hab
        · exact absurd k (p.1 b (by simp))
      obtain ⟨r, hr⟩ := compact_head b l
      rw [hr] at hz ih
      rcases List.mem_cons.1 hz with rfl | hz
      · exact hb
      · exact less_trans hb ((List.pairwise_cons.1 ih).1 z hz)
theorem set_of_sorted {l l' : List Dot} (hp : l'.Perm l) (hs : l'.Pairwise (fun a b => ¬ Less b a)) : compact l' = set l := by
  refine sset_ext (compact_sset hs) (set_sset l) fun x => ?_
  rw [compact_mem, set_mem]
  exact hp.mem_iff
/-- In order, each dot once. -/
def isSet : List Dot → Bool
  | a :: b :: l => decide (Less a b) && isSet (b :: l)
  | _ => true
theorem isSet_iff : ∀ (l : List Dot), isSet l = true ↔ ∀ i, ∀ h : i + 1 < l.length, Less l[i] l[i + 1]
  | [] => by simp [isSet]
  | [a] => by simp [isSet]
  | a :: b :: l => by
    have ih := isSet_iff (b :: l)
    unfold isSet
    rw [Bool.and_eq_true, decide_eq_true_eq, ih]
    constructor
    · rintro ⟨h1, h2⟩ i hi
      cases i with
      | zero => exact h1
      | succ i => exact h2 i (by simpa using hi)
    · intro h
      refine ⟨h 0 (by simp), fun i hi => ?_⟩
      exact h (i + 1) (by simpa using hi)
theorem isSet_no {l : List Dot} {i j : Nat} (hi : i < l.length) (hj : j < l.length) (hij : i = j + 1) (h : ¬ Less l[j] l[i]) : isSet l = false := by
  cases hb : isSet l with
  | false => rfl
  | true => subst hij; exact absurd ((isSet_iff l).1 hb j hi) h
theorem isSet_yes {l : List Dot} (h : ∀ i, ∀ h : i + 1 < l.length, Less l[i] l[i + 1]) : isSet l = true := (isSet_iff l).2 h
theorem not_mem {l : List Dot} {d : Dot} (h : ∀ i, ∀ hi : i < l.length, l[i] ≠ d) : d ∉ l := by
  intro hm
  obtain ⟨i, hi, e⟩ := List.mem_iff_getElem.1 hm
  exact h i hi e
theorem compact_snoc : ∀ (xs : List Dot) (a b : Dot), compact (xs ++ [a, b]) = compact (xs ++ [a]) ++ (if a = b then [] else [b])
  | [], a, b => by
    simp only [List.nil_append, compact]
    split
    · rename_i h; subst h; rfl
    · rfl
  | [c], a, b => by
    have ih := compact_snoc [] a b
    simp only [List.nil_append] at ih
    show compact (c :: a :: [b]) = compact (c :: a :: []) ++ _
    unfold compact
    split
    · exact ih
    · rw [ih]; rfl
  | c :: e :: xs, a, b => by
    have ih := compact_snoc (e :: xs) a b
    show compact (c :: e :: (xs ++ [a, b])) = compact (c :: e :: (xs ++ [a])) ++ _
    rw [compact, compact]
    split
    · exact ih
    · rw [List.cons_append]
      exact congrArg (c :: ·) ih
theorem compact_take {l : List Dot} {n : Nat} (h1 : 1 ≤ n) (h : n < l.length) : compact (l.take (n + 1)) = compact (l.take n) ++ (if l[n - 1] = l[n] then [] else [l[n]]) := by
  obtain ⟨m, rfl⟩ : ∃ m, n = m + 1 := ⟨n - 1, by omega⟩
  have e1 : l.take (m + 1) = l.take m ++ [l[m]] := List.take_succ_eq_append_getElem (by omega)
  have e2 : l.take (m + 1 + 1) = l.take m ++ [l[m], l[m + 1]] := by
    rw [List.take_succ_eq_append_getElem h, e1, List.append_assoc]
    rfl
  rw [e2, e1, compact_snoc]
  rfl
theorem compact_distinct : ∀ {l : List Dot}, (∀ i, ∀ h : i + 1 < l.length, l[i] ≠ l[i + 1]) → compact l = l
  | [], _ => rfl
  | [a], _ => rfl
  | a :: b :: l, h => by
    have h0 : a ≠ b := h 0 (by simp)
    rw [compact, if_neg h0, compact_distinct (l := b :: l) (fun i hi => h (i + 1) (by simpa using hi))]
theorem compact_length : ∀ (l : List Dot), (compact l).length ≤ l.length
  | [] => by simp [compact]
  | [a] => by simp [compact]
  | a :: b :: l => by
    have ih := compact_length (b :: l)
    rw [compact]
    split
    · simp at ih ⊢; omega
    · simp at ih ⊢; omega
/-- The dots of two sets, those kept that are in the first one alone (p), in both (q), in the second one alone (r). -/
def mg (p q r : Bool) : Nat → List Dot → List Dot → List Dot
  | 0, _, _ => []
  | _ + 1, [], [] => []
  | n + 1, a :: x, [] => (if p then [a] else []) ++ mg p q r n x []
  | n + 1, [], b :: y => (if r then [b] else []) ++ mg p q r n [] y
  | n + 1, a :: x, b :: y =>
    if Less a b then (if p then [a] else []) ++ mg p q r n x (b :: y)
    else if Less b a then (if r then [b] else []) ++ mg p q r n (a :: x) y
    else (if q then [a] else []) ++ mg p q r n x y
theorem mg_fuel (p q r : Bool) : ∀ (n m : Nat) (x y : List Dot), x.length + y.length ≤ n → x.length + y.length ≤ m → mg p q r n x y = mg p q r m x y := by
  intro n
  induction n with
  | zero =>
    intro m x y h _
    have hx : x = [] := List.eq_nil_of_length_eq_zero (by omega)
    have hy : y = [] := List.eq_nil_of_length_eq_zero (by omega)
    subst hx hy
    cases m <;> simp [mg]
  | succ n ih =>
    intro m x y h k
    cases m with
    | zero =>
      have hx : x = [] := List.eq_nil_of_length_eq_zero (by omega)
      have hy : y = [] := List.eq_nil_of_length_eq_zero (by omega)
      subst hx hy
      simp [mg]
    | succ m =>
      cases x with
      | nil =>
        cases y with
        | nil => simp [mg]
        | cons b y => rw [mg, mg, ih m [] y (by simp at h ⊢; omega) (by simp at k ⊢; omega)]
      | cons a x =>
        cases y with
        | nil => rw [mg, mg, ih m x [] (by simp at h ⊢; omega) (by simp at k ⊢; omega)]
        | cons b y =>
          simp only [List.length_cons] at h k
          rw [mg, mg, ih m x (b :: y) (by simp; omega) (by simp; omega), ih m (a :: x) y (by simp; omega) (by simp; omega), ih m x y (by omega) (by omega)]
def merge (p q r : Bool) (x y : List Dot) : List Dot := mg p q r (x.length + y.length) x y
theorem merge_nil (p q r : Bool) : merge p q r [] [] = [] := by simp [merge, mg]
theorem merge_first {p q r : Bool} {a : Dot} {x y : List Dot} (h : y = [] ∨ ∃ b y', y = b :: y' ∧ Less a b) : merge p q r (a :: x) y = (if p then [a] else []) ++ merge p q r x y := by
  unfold merge
  rcases h with rfl | ⟨b, y', rfl, h⟩
  · simp [mg]
  · have e : (a :: x).length + (b :: y').length = (x.length + (b :: y').length) + 1 := by simp; omega
    rw [e, mg, if_pos h]
theorem merge_second {p q r : Bool} {b : Dot} {x y : List Dot} (h : x = [] ∨ ∃ a x', x = a :: x' ∧ Less b a) : merge p q r x (b :: y) = (if r then [b] else []) ++ merge p q r x y := by
  unfold merge
  rcases h with rfl | ⟨a, x', rfl, h⟩
  · have e : ([] : List Dot).length + (b :: y).length = (([] : List Dot).length + y.length) + 1 := by simp
    rw [e, mg]
  · have e : (a :: x').length + (b :: y).length = ((a :: x').length + y.length) + 1 := by simp; omega
    rw [e, mg, if_neg (fun k => less_irrefl a (less_trans k h)), if_pos h]
theorem merge_both {p q r : Bool} {a b : Dot} {x y : List Dot} (h1 : ¬ Less a b) (h2 : ¬ Less b a) : merge p q r (a :: x) (b :: y) = (if q then [a] else []) ++ merge p q r x y := by
  unfold merge
  have e : (a :: x).length + (b :: y).length = (x.length + y.length + 1) + 1 := by simp; omega
  rw [e, mg, if_neg h1, if_neg h2, mg_fuel p q r (x.length + y.length + 1) (x.length + y.length) x y (by omega) (Nat.le_refl _)]
theorem cmp_gt0 (a b : Dot) : cmp a b > 0 ↔ Less b a := by
  unfold cmp
  split
  · next h => exact ⟨fun k => absurd k (by decide), fun k => absurd (less_trans h k) (less_irrefl a)⟩
  · split <;> simp [*]
theorem first_of {a : Dot} {y : List Dot} (hy : 0 < y.length) (c : cmp a (y[0]'hy) < 0) : y = [] ∨ ∃ b y', y = b :: y' ∧ Less a b := by
  cases y with
  | nil => exact .inl rfl
  | cons b y' => exact .inr ⟨b, y', rfl, (cmp_lt a b).1 c⟩
theorem second_of {b : Dot} {x : List Dot} (hx : 0 < x.length) (c : cmp (x[0]'hx) b > 0) : x = [] ∨ ∃ a x', x = a :: x' ∧ Less b a := by
  cases x with
  | nil => exact .inl rfl
  | cons a x' => exact .inr ⟨a, x', rfl, (cmp_gt0 a b).1 c⟩
theorem keepA {p q r : Bool} {out x y R : List Dot} {a : Dot} (hI : out ++ merge p q r (a :: x) y = R) (h : y = [] ∨ ∃ b y', y = b :: y' ∧ Less a b) : (if p then out ++ [a] else out) ++ merge p q r x y = R := by
  rw [merge_first h] at hI
  cases p <;> simpa using hI
theorem keepC {p q r : Bool} {out x y R : List Dot} {b : Dot} (hI : out ++ merge p q r x (b :: y) = R) (h : x = [] ∨ ∃ a x', x = a :: x' ∧ Less b a) : (if r then out ++ [b] else out) ++ merge p q r x y = R := by
  rw [merge_second h] at hI
  cases r <;> simpa using hI
theorem keepB {p q r : Bool} {out x y R : List Dot} {a b : Dot} (hI : out ++ merge p q r (a :: x) (b :: y) = R) (h1 : ¬ cmp a b < 0) (h2 : ¬ cmp a b > 0) : (if q then out ++ [a] else out) ++ merge p q r x y = R := by
  rw [cmp_lt] at h1
  rw [cmp_gt0] at h2
  rw [merge_both h1 h2] at hI
  cases q <;> simpa using hI
end Go.Pn.Dt
