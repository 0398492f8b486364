/-
  PLAIN LAWS OF CARTS AS BYTES: what a valid cart is, its bytes, and that no bytes are the beginning of others. Of no program.
-/
import Derived.Test.YtnkcmaoaagnopaaGreatDoorFw19
import Derived.Test.YtnkcmaoaagnopaaGreatDoorPlain
import Derived.Lib.IndexMore
import Derived.Lib.TrimByte
namespace Go.Pn.Cn
open Go Go.Pn
abbrev Dot := Dt.Dot
abbrev Mark := MarkT
abbrev Item := ItemT
abbrev Ctx := List Dot × List Dot
abbrev Cart := Ctx × List Item
instance decItem : DecidableEq Item := inferInstanceAs (DecidableEq (List UInt8 × List MarkT))
instance decCart : DecidableEq Cart := inferInstanceAs (DecidableEq ((List Dt.Dot × List Dt.Dot) × List Item))
/-! the bytes -/
/-- The bytes of a number. -/
def num (n : Nat) : List UInt8 := if n < 128 then [UInt8.ofNat n] else UInt8.ofNat (128 + n % 128) :: num (n / 128)
termination_by n
decreasing_by omega
theorem num_lt {n : Nat} (h : n < 128) : num n = [UInt8.ofNat n] := by rw [num, if_pos h]
theorem num_ge {n : Nat} (h : ¬ n < 128) : num n = UInt8.ofNat (128 + n % 128) :: num (n / 128) := by rw [num, if_neg h]
/-- A whole number as one without sign. -/
def u (x : Int) : Nat := (BitVec.ofInt 64 x).toNat
def dotB (d : Dot) : List UInt8 := num (u d.1) ++ num (u d.2)
def dotsB (l : List Dot) : List UInt8 := num l.length ++ l.flatMap dotB
def ctxB (x : Ctx) : List UInt8 := dotsB x.1 ++ dotsB x.2
def markB (m : Mark) : List UInt8 := num (u m.1.1) ++ (num (u m.1.2) ++ (num (u m.2.1) ++ num m.2.2.toNat))
def strB (s : List UInt8) : List UInt8 := num s.length ++ s
def itemB (x : Item) : List UInt8 := strB x.1 ++ (num x.2.length ++ x.2.flatMap markB)
def itemsB (l : List Item) : List UInt8 := num l.length ++ l.flatMap itemB
def bytes (c : Cart) : List UInt8 := ctxB c.1 ++ itemsB c.2
/-! what is allowed -/
def get (v : List Dot) (r : Int) : Int := match v.find? (fun d => d.1 == r) with
  | some d => d.2
  | none => 0
/-- Each one and the next one. -/
def adj {α : Type} (r : α → α → Bool) : List α → Bool
  | a :: b :: l => r a b && adj r (b :: l)
  | _ => true
def incr (v : List Dot) : Bool := adj (fun a b => decide (a.1 < b.1)) v
def okD (d : Dot) : Bool := decide (Dt.Valid d)
def badD (d : Dot) : Bool := !okD d
def vecValid (v : List Dot) : Bool := incr v && !v.any badD
def ctxValid (x : Ctx) : Bool := vecValid x.1 && (Dt.isSet x.2 && !x.2.any badD)
def near (v : List Dot) (d : Dot) : Bool := decide (d.2 ≤ get v d.1 + 1)
def isCompact (x : Ctx) : Bool := ctxValid x && !x.2.any (near x.1)
def okC (c : UInt8) : Bool := !(decide (c.toNat < 32) || decide (c.toNat > 126))
def okName (s : List UInt8) : Bool := s.all okC && (decide (1 ≤ s.length ∧ s.length ≤ 64) && (decide (Lib.trimB s 32 = s) && !Lib.contains s [32, 32]))
def okM (m : Mark) : Bool := okD m.1 && (decide (1 ≤ m.2.1 ∧ m.2.1 ≤ 2147483647) && decide (0 < m.2.2.toNat))
def badM (m : Mark) : Bool := !okM m
def mdots (l : List Mark) : List Dot := l.map (·.1)
def badI (x : Item) : Bool := !okName x.1 || (decide (x.2.length = 0) || (!Dt.isSet (mdots x.2) || x.2.any badM))
def names (l : List Item) : Bool := adj (fun a b => Op.bytesLess a.1 b.1) l
def dotsOf (l : List Item) : List Dot := Dt.set (l.flatMap fun x => mdots x.2)
def count (l : List Item) : Nat := (l.map fun x => x.2.length).sum
def itemsValid (l : List Item) : Bool := !l.any badI && (names l && decide ((dotsOf l).length = count l))
def vecHas (v : List Dot) (d : Dot) : Bool := okD d && decide (d.2 ≤ get v d.1)
def ctxHas (x : Ctx) (d : Dot) : Bool := vecHas x.1 d || (okD d && decide (d ∈ x.2))
def missing (x : Ctx) (l : List Dot) : List Dot := (Dt.set l).filter fun d => !ctxHas x d
def valid (c : Cart) : Bool := isCompact c.1 && (itemsValid c.2 && decide ((missing c.1 (dotsOf c.2)).length = 0))
def smallI (x : Item) : Bool := decide (x.2.length ≤ 20) && decide (x.1.length ≤ 100)
def small (a : Cart) : Bool := decide ((a.1.1.length ≤ 40 ∧ a.1.2.length ≤ 40) ∧ a.2.length ≤ 20) && a.2.all smallI
/-! no bytes are the beginning of others -/
def InR (x : Int) : Prop := -9223372036854775808 ≤ x ∧ x ≤ 9223372036854775807
theorem u_inj {x y : Int} (hx : InR x) (hy : InR y) (h : u x = u y) : x = y := by
  unfold InR at hx hy
  unfold u at h
  rw [BitVec.toNat_ofInt, BitVec.toNat_ofInt] at h
  omega
theorem num_ne (n : Nat) : num n ≠ [] := by
  by_cases h : n < 128
  · rw [num_lt h]; simp
  · rw [num_ge h]; simp
theorem num_pre : ∀ (n m : Nat) (r s : List UInt8), num n ++ r = num m ++ s → n = m ∧ r = s := by
  intro n
  induction n using Nat.strongRecOn with
  | _ n ih =>
    intro m r s h
    by_cases h1 : n < 128 <;> by_cases h2 : m < 128
    · rw [num_lt h1, num_lt h2] at h
      simp only [List.cons_append, List.nil_append, List.cons.injEq] at h
      have h3 := congrArg UInt8.toNat h.1
      simp only [UInt8.toNat_ofNat'] at h3
      exact ⟨by omega, h.2⟩
    · rw [num_lt h1, num_ge h2] at h
      simp only [List.cons_append, List.nil_append, List.cons.injEq] at h
      have h3 := congrArg UInt8.toNat h.1
      simp only [UInt8.toNat_ofNat'] at h3
      omega
    · rw [num_ge h1, num_lt h2] at h
      simp only [List.cons_append, List.nil_append, List.cons.injEq] at h
      have h3 := congrArg UInt8.toNat h.1
      simp only [UInt8.toNat_ofNat'] at h3
      omega
    · rw [num_ge h1, num_ge h2] at h
      simp only [List.cons_append, List.cons.injEq] at h
      have h3 := congrArg UInt8.toNat h.1
      simp only [UInt8.toNat_ofNat'] at h3
      obtain ⟨h4, h5⟩ := ih (n / 128) (by omega) (m / 128) r s h.2
      exact ⟨by omega, h5⟩
/-- Of bytes that begin with those of one that Q allows, it is known which and what follows. -/
def Pre {α : Type} (Q : α → Prop) (f : α → List UInt8) : Prop := ∀ x y r s, Q x → Q y → f x ++ r = f y ++ s → x = y ∧ r = s
theorem pre_u : Pre InR fun x => num (u x) := fun x y r s hx hy h => by
  obtain ⟨h1, h2⟩ := num_pre _ _ _ _ h
  exact ⟨u_inj hx hy h1, h2⟩
theorem pre_pair {α β : Type} {Q : α → Prop} {Q' : β → Prop} {f : α → List UInt8} {g : β → List UInt8} (h : Pre Q f) (k : Pre Q' g) : Pre (fun x : α × β => Q x.1 ∧ Q' x.2) fun x => f x.1 ++ g x.2 := by
  rintro ⟨a, b⟩ ⟨a', b'⟩ r s ⟨h1, h2⟩ ⟨h3, h4⟩ e
  simp only [List.append_assoc] at e
  obtain ⟨rfl, e2⟩ := h _ _ _ _ h1 h3 e
  obtain ⟨rfl, e3⟩ := k _ _ _ _ h2 h4 e2
  exact ⟨rfl, e3⟩
theorem pre_many {α : Type} {Q : α → Prop} {f : α → List UInt8} (h : Pre Q f) : ∀ (l l' : List α) (r s : List UInt8), (∀ x ∈ l, Q x) → (∀ x ∈ l', Q x) → l.length = l'.length → l.flatMap f ++ r = l'.flatMap f ++ s → l = l' ∧ r = s
  | [], [], r, s, _, _, _, e => ⟨rfl, by simpa using e⟩
  | [], _ :: _, _, _, _, _, hl, _ => by simp at hl
  | _ :: _, [], _, _, _, _, hl, _ => by simp at hl
  | a :: l, b :: l', r, s, h1, h2, hl, e => by
    simp only [List.flatMap_cons, List.append_assoc] at e
    obtain ⟨rfl, e2⟩ := h _ _ _ _ (h1 a (by simp)) (h2 b (by simp)) e
    obtain ⟨rfl, e3⟩ := pre_many h l l' r s (fun x hx => h1 x (by simp [hx])) (fun x hx => h2 x (by simp [hx])) (by simpa using hl) e2
    exact ⟨rfl, e3⟩
theorem pre_list {α : Type} {Q : α → Prop} {f : α → List UInt8} (h : Pre Q f) : Pre (fun l : List α => ∀ x ∈ l, Q x) fun l => num l.length ++ l.flatMap f := by
  intro l l' r s h1 h2 e
  simp only [List.append_assoc] at e
  obtain ⟨hl, e2⟩ := num_pre _ _ _ _ e
  exact pre_many h l l' r s h1 h2 hl e2
theorem pre_str : Pre (fun _ => True) strB := by
  intro a b r s _ _ e
  unfold strB at e
  simp only [List.append_assoc] at e
  obtain ⟨hl, e2⟩ := num_pre _ _ _ _ e
  exact List.append_inj e2 hl
def dotR (d : Dot) : Prop := InR d.1 ∧ InR d.2
def markR (m : Mark) : Prop := InR m.1.1 ∧ InR m.1.2 ∧ InR m.2.1
def cartR (c : Cart) : Prop := ((∀ d ∈ c.1.1, dotR d) ∧ ∀ d ∈ c.1.2, dotR d) ∧ ∀ x ∈ c.2, ∀ m ∈ x.2, markR m
theorem pre_dot : Pre dotR dotB := pre_pair pre_u pre_u
theorem pre_mark : Pre markR markB := by
  rintro ⟨⟨a, b⟩, q, t⟩ ⟨⟨a', b'⟩, q', t'⟩ r s ⟨h1, h2, h3⟩ ⟨k1, k2, k3⟩ e
  unfold markB at e
  simp only [List.append_assoc] at e h1 h2 h3 k1 k2 k3
  obtain ⟨g1, e1⟩ := pre_u _ _ _ _ h1 k1 e
  obtain ⟨g2, e2⟩ := pre_u _ _ _ _ h2 k2 e1
  obtain ⟨g3, e3⟩ := pre_u _ _ _ _ h3 k3 e2
  obtain ⟨g4, e4⟩ := num_pre _ _ _ _ e3
  subst g1; subst g2; subst g3
  obtain rfl := BitVec.eq_of_toNat_eq g4
  exact ⟨rfl, e4⟩
theorem pre_item : Pre (fun x : Item => ∀ m ∈ x.2, markR m) itemB := by
  rintro ⟨a, l⟩ ⟨b, l'⟩ r s h k e
  unfold itemB at e
  have e1 : strB a ++ ((num l.length ++ l.flatMap markB) ++ r) = strB b ++ ((num l'.length ++ l'.flatMap markB) ++ s) := by rw [← List.append_assoc (strB a), ← List.append_assoc (strB b)]; exact e
  obtain ⟨g1, e2⟩ := pre_str _ _ _ _ trivial trivial e1
  obtain ⟨g2, e3⟩ := pre_list pre_mark _ _ _ _ h k e2
  subst g1; subst g2
  exact ⟨rfl, e3⟩
theorem pre_cart : Pre cartR bytes := by
  rintro ⟨⟨v, w⟩, l⟩ ⟨⟨v', w'⟩, l'⟩ r s ⟨⟨h1, h2⟩, h3⟩ ⟨⟨k1, k2⟩, k3⟩ e
  have e1 : dotsB v ++ (dotsB w ++ (itemsB l ++ r)) = dotsB v' ++ (dotsB w' ++ (itemsB l' ++ s)) := by
    rw [← List.append_assoc, ← List.append_assoc, ← List.append_assoc (dotsB v'), ← List.append_assoc]
    exact e
  obtain ⟨g1, e2⟩ := pre_list pre_dot _ _ _ _ h1 k1 e1
  obtain ⟨g2, e3⟩ := pre_list pre_dot _ _ _ _ h2 k2 e2
  obtain ⟨g3, e4⟩ := pre_list pre_item _ _ _ _ h3 k3 e3
  subst g1; subst g2; subst g3
  exact ⟨rfl, e4⟩
/-- Two carts are equal if and only if their bytes are. -/
theorem bytes_inj {a b : Cart} (ha : cartR a) (hb : cartR b) : bytes a = bytes b ↔ a = b := by
  refine ⟨fun h => (pre_cart a b [] [] ha hb (by rw [h])).1, fun h => by rw [h]⟩
/-- The bytes of a cart are no proper beginning of those of another one. -/
theorem bytes_take {a b : Cart} (ha : cartR a) (hb : cartR b) (h : (bytes b).take (bytes a).length = bytes a) : (bytes a).length = (bytes b).length := by
  have e : bytes a ++ (bytes b).drop (bytes a).length = bytes b ++ [] := by
    conv => rhs; rw [List.append_nil, ← List.take_append_drop (bytes a).length (bytes b), h]
  obtain ⟨rfl, _⟩ := pre_cart a b _ _ ha hb e
  rfl
theorem num_len (n : Nat) : 1 ≤ (num n).length := by
  have := num_ne n
  cases h : num n with
  | nil => exact absurd h this
  | cons a l => simp
theorem bytes_len (c : Cart) : 3 ≤ (bytes c).length := by
  have h1 := num_len c.1.1.length
  have h2 := num_len c.1.2.length
  have h3 := num_len c.2.length
  unfold bytes ctxB dotsB itemsB
  simp only [List.length_append]
  omega
theorem any_false {α : Type} {p : α → Bool} {l : List α} (h : (!l.any p) = true) : ∀ x ∈ l, p x = false := by
  intro x hx
  have h2 : l.any p = false := by simpa using h
  rw [List.any_eq_false] at h2
  have := h2 x hx
  simpa using this
theorem okD_of {d : Dot} (h : badD d = false) : Dt.Valid d := by
  unfold badD okD at h
  simpa using h
theorem validR {c : Cart} (h : valid c = true) : cartR c := by
  unfold valid isCompact ctxValid vecValid itemsValid at h
  simp only [Bool.and_eq_true] at h
  obtain ⟨⟨⟨⟨_, h1⟩, _, h2⟩, _⟩, ⟨h3, _⟩, _⟩ := h
  refine ⟨⟨fun d hd => ?_, fun d hd => ?_⟩, fun x hx m hm => ?_⟩
  · have := okD_of (any_false h1 d hd)
    unfold Dt.Valid at this
    unfold dotR InR
    omega
  · have := okD_of (any_false h2 d hd)
    unfold Dt.Valid at this
    unfold dotR InR
    omega
  · have h4 := any_false h3 x hx
    unfold badI at h4
    simp only [Bool.or_eq_false_iff] at h4
    have h5 := (List.any_eq_false.1 h4.2.2.2) m hm
    unfold badM okM okD at h5
    simp at h5
    obtain ⟨h6, h7, _⟩ := h5
    unfold Dt.Valid at h6
    unfold markR InR
    omega
/-! order -/
/-- The order of bytes. -/
def cmpB : List UInt8 → List UInt8 → Int
  | [], [] => 0
  | [], _ :: _ => -1
  | _ :: _, [] => 1
  | a :: l, b :: l' => if a = b then cmpB l l' else if a < b then -1 else 1
theorem cmpB_self : ∀ l : List UInt8, cmpB l l = 0
  | [] => rfl
  | a :: l => by rw [cmpB, if_pos rfl]; exact cmpB_self l
theorem cmpB_zero : ∀ l l' : List UInt8, cmpB l l' = 0 ↔ l = l'
  | [], [] => by simp [cmpB]
  | [], _ :: _ => by simp [cmpB]
  | _ :: _, [] => by simp [cmpB]
  | a :: l, b :: l' => by
    rw [cmpB]
    by_cases h : a = b
    · rw [if_pos h, cmpB_zero l l', h]
      simp
    · rw [if_neg h]
      by_cases h2 : a < b
      · rw [if_pos h2]; simp [h]
      · rw [if_neg h2]; simp [h]
theorem u8_lt {a b : UInt8} : a < b ↔ a.toNat < b.toNat := UInt8.lt_iff_toNat_lt
theorem u8_eq {a b : UInt8} : a = b ↔ a.toNat = b.toNat := ⟨fun h => by rw [h], fun h => UInt8.toNat_inj.1 h⟩
theorem cmpB_neg : ∀ l l' : List UInt8, cmpB l' l = -cmpB l l'
  | [], [] => rfl
  | [], _ :: _ => rfl
  | _ :: _, [] => rfl
  | a :: l, b :: l' => by
    rw [cmpB, cmpB]
    by_cases h : a = b
    · rw [if_pos h, if_pos h.symm, cmpB_neg l l']
    · rw [if_neg h, if_neg (fun e => h e.symm)]
      by_cases h2 : a < b
      · have h3 : ¬ b < a := by rw [u8_lt] at h2 ⊢; omega
        rw [if_pos h2, if_neg h3]
        rfl
      · have h3 : b < a := by rw [u8_lt] at h2 ⊢; rw [u8_eq] at h; omega
        rw [if_neg h2, if_pos h3]
theorem cmpB_trans : ∀ a b c : List UInt8, cmpB a b ≤ 0 → cmpB b c ≤ 0 → cmpB a c ≤ 0
  | [], _, [], _, _ => by simp [cmpB]
  | [], _, _ :: _, _, _ => by simp [cmpB]
  | _ :: _, [], _, h, _ => by simp [cmpB] at h
  | _ :: _, _ :: _, [], _, h => by simp [cmpB] at h
  | x :: a, y :: b, z :: c, h, k => by
    rw [cmpB] at h k ⊢
    by_cases h1 : x = y
    · rw [if_pos h1] at h
      subst h1
      by_cases h2 : x = z
      · rw [if_pos h2] at k ⊢
        exact cmpB_trans a b c h k
      · rw [if_neg h2] at k ⊢
        exact k
    · rw [if_neg h1] at h
      have h2 : x < y := by
        by_cases h2 : x < y
        · exact h2
        · rw [if_neg h2] at h; omega
      by_cases h3 : y = z
      · subst h3
        rw [if_neg h1, if_pos h2]
        omega
      · rw [if_neg h3] at k
        have h4 : y < z := by
          by_cases h4 : y < z
          · exact h4
          · rw [if_neg h4] at k; omega
        rw [u8_lt] at h2 h4
        rw [if_neg (by rw [u8_eq]; omega), if_pos (by rw [u8_lt]; omega)]
        omega
end Go.Pn.Cn
