/-
  Regions that draw, where many operations may come up; a region whose ways meet. No condition.
-/
import Derived.Test.YtnkcmaoaagnopaaGreatDoorFw15
namespace Go.Pn
section
variable {P : Program} {n : Nat} {c : Code} {N : Val → World → Prop} {X : Nat → Val → World → Prop} {R : Val → World → Prop} {Z : List PanicEntry → World → Prop} {f : Val} {w wB : World}
  {l : List Oper} {pos : String} {after : Array Edge}
/-- The ways of a piece of code meet behind it. -/
theorem C.join (Q : Val → World → Val → World → Prop) (h1 : C P n c (Q f w) X R Z f w) (h2 : ∀ f' w', Q f w f' w' → N f' w') : C P n c N X R Z f w := h1.mono h2
/-- One that comes up. -/
def DStep (P : Program) (n : Nat) (l : List Oper) (listed : Array Bool) (N : Val → World → Prop) (Z : List PanicEntry → World → Prop) (wB : World) (fuel : Nat) (f : Val) (w : World) (j : Nat) : Prop :=
  wpOp P l.toArray (Q0 n N Z) j (fun a' w' => Le wB w' ∧ wpAnyH P .any l.toArray (Q0 n N Z) (fun w' => Le wB w') fuel (listed.setIfInBounds j true) a' w') (Fr n f) w
def allP (p : Nat → Prop) : List Nat → Prop
  | [] => True
  | i :: r => p i ∧ allP p r
theorem allP_mem {p : Nat → Prop} : ∀ {l : List Nat}, allP p l → ∀ i ∈ l, p i
  | [], _, i, h => by cases h
  | j :: r, h, i, hi => by
    rcases List.mem_cons.1 hi with rfl | hi
    · exact h.1
    · exact allP_mem h.2 i hi
theorem D.many {listed : Array Bool} {fuel : Nat} (is : List Nat) (hr : Region.ready .any l.toArray listed = is) (hne : is ≠ []) (h : allP (DStep P n l listed N Z wB fuel f w) is) : D P n l listed N Z wB (fuel + 1) f w := by
  subst hr
  exact wpAnyH_all rfl hne (allP_mem h)
theorem D.stepU {listed : Array Bool} {fuel j : Nat} {o : Oper} (hi : l[j]? = some o) (hg : o.guard = .none)
    (hO : O P n [o] [o] (fun f' w' => Le wB w' ∧ D P n l (listed.setIfInBounds j true) N Z wB fuel f' w') Z f w) : DStep P n l listed N Z wB fuel f w j := D.step hi hg hO
theorem D.stepG {listed : Array Bool} {fuel i : Nat} {dst : Option Nat} {op : Op} {ty : TypeId} {j dj : Nat} {b : Bool}
    (hi : l[i]? = some { dst := dst, op := op, type := ty, pos := pos, after := after, guard := some (j, b) }) (hj : (l[j]?).bind (·.dst) = some dj) (hv : ev n f (.tmp dj) = .bool b)
    (hO : O P n [{ dst := dst, op := op, type := ty, pos := pos, after := after, guard := .none }] [{ dst := dst, op := op, type := ty, pos := pos, after := after, guard := .none }] (fun f' w' => Le wB w' ∧ D P n l (listed.setIfInBounds i true) N Z wB fuel f' w') Z f w) : DStep P n l listed N Z wB fuel f w i := by
  have hy0 : yielded l.toArray (Fr n f).tmps j = some b := by
    have hd := getD_Fr n f dj
    rw [hv] at hd
    unfold yielded
    have h1 : (l.toArray[j]?).bind (·.dst) = some dj := by simpa using hj
    rw [h1]
    simp only [Option.bind_some]
    rw [Array.getD_eq_getD_getElem?] at hd
    cases hx : (Fr n f).tmps[dj]? with
    | none => rw [hx] at hd; simp [undef] at hd
    | some v => rw [hx] at hd; simp at hd; subst hd; rfl
  unfold DStep wpOp
  have hi2 : l.toArray[i]? = some { dst := dst, op := op, type := ty, pos := pos, after := after, guard := some (j, b) } := by simpa using hi
  rw [hi2]
  unfold O at hO
  simp only [wpList, Region.wanted, if_true, hy0, beq_self_eq_true] at hO ⊢
  have key : ∀ a' w', Q0 n (fun f' w' => Le wB w' ∧ D P n l (listed.setIfInBounds i true) N Z wB fuel f' w') Z .normal a' w' → Le wB w' ∧ wpAnyH P .any l.toArray (Q0 n N Z) (fun w' => Le wB w') fuel (listed.setIfInBounds i true) a' w' := by
    rintro a' w' ⟨f', rfl, h1, h2⟩
    exact ⟨h1, h2⟩
  rcases hO with h | ⟨_, a0, w0, h0⟩
  · left
    unfold Oper.wp at h ⊢
    have hex : execOp (Fr n f).eval { dst := dst, op := op, type := ty, pos := pos, after := after, guard := some (j, b) } = execOp (Fr n f).eval { dst := dst, op := op, type := ty, pos := pos, after := after, guard := .none } := rfl
    rw [hex]
    generalize (execOp (Fr n f).eval { dst := dst, op := op, type := ty, pos := pos, after := after, guard := .none }).run P w = r at h ⊢
    cases r with
    | ok nx w' =>
      cases nx with
      | value v => exact key _ _ h
      | skip => exact key _ _ h
      | defer d => exact key _ _ h
      | enter k args =>
        refine Calls.mono h ?_
        intro e w'' he
        cases e with
        | returned v => exact key _ _ he
        | panicked ch => exact he
        | outgrown => obtain ⟨a0, w0, h0⟩ := he; exact h0.elim
      | row r args => exact Rows.mono h fun v w'' hv => key _ _ hv
      | _ => exact h.elim
    | halt hh w' => cases hh <;> first | exact h | exact h.elim
  · exact h0.elim
end
end Go.Pn
