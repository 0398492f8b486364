/-
  REGIONS THAT DRAW THEIR ORDER: what yields the same in every later world is taken first; a call is taken alone. No condition.
-/
import Derived.Test.YtnkcmaoaagnopaaGreatDoorFw5
import Derived.OrdersHeld
namespace Go.Pn
section
variable {P : Program} {n : Nat} {l : List Oper} {N : Val → World → Prop} {X : Nat → Val → World → Prop} {R : Val → World → Prop} {Z : List PanicEntry → World → Prop} {f : Val} {w wB : World}
/-- The outcomes of a region. -/
abbrev Q0 (n : Nat) (N : Val → World → Prop) (Z : List PanicEntry → World → Prop) : Exit → Act → World → Prop := Ex n N (fun _ _ _ => False) (fun _ _ => False) Z
/-- Whatever order is drawn from here on; every world behind has the blocks of this one. -/
def D (P : Program) (n : Nat) (l : List Oper) (listed : Array Bool) (N : Val → World → Prop) (Z : List PanicEntry → World → Prop) (wB : World) (fuel : Nat) (f : Val) (w : World) : Prop :=
  wpAnyH P .any l.toArray (Q0 n N Z) (fun w' => Le wB w') fuel listed (Fr n f) w
theorem wpAnyH_strong {ops : Array Oper} {Q : Exit → Act → World → Prop} {S S' : World → Prop} (hs : ∀ w, S' w → S w) : ∀ (fuel : Nat) (listed : Array Bool) (a : Act) (w : World), wpAnyH P .any ops Q S' fuel listed a w → wpAnyH P .any ops Q S fuel listed a w
  | 0, _, _, _, h => h
  | fuel + 1, _, _, _, h => ⟨h.1, fun i hi => wpOp_mono (fun a' w' h' => ⟨hs _ h'.1, wpAnyH_strong hs fuel _ a' w' h'.2⟩) (h.2 i hi)⟩
theorem Q0_put (o : Option Nat) (v : Value) : ∀ c a w, Q0 n N Z (.panic c) (a.put o v) w → Q0 n N Z (.panic c) a w := by
  intro c a w h
  cases o <;> exact h
/-- A region that draws. -/
theorem C.draw {id : Nat} (hm : P.follows .mixedOrders = true) (h : ∀ w1, Le w w1 → D P n l (Array.replicate l.toArray.size false) N Z w1 l.toArray.size f w1) : C P n (.region id l.toArray true) N X R Z f w := by
  refine wp_mono (wp_region_held (S := fun w' => Le { w with drawn := w.drawn + 1 } w') hm (h { w with drawn := w.drawn + 1 } ⟨rfl, rfl, rfl, Nat.le_refl _, fun _ _ _ => rfl⟩)) ?_
  intro e a w he
  cases e with
  | normal => exact he
  | exit i => obtain ⟨_, _, h⟩ := he; exact h.elim
  | goto l => exact he
  | ret => obtain ⟨_, _, h⟩ := he; exact h.elim
  | panic ch => exact he
  | outgrown => exact he
/-- A region that draws, over a base world. -/
theorem C.drawB {id : Nat} (hm : P.follows .mixedOrders = true) (h : ∀ w1, Le w w1 → D P n l (Array.replicate l.toArray.size false) N Z wB l.toArray.size f w1) : C P n (.region id l.toArray true) N X R Z f w := by
  refine wp_mono (wp_region_held (S := fun w' => Le wB w') hm (h { w with drawn := w.drawn + 1 } ⟨rfl, rfl, rfl, Nat.le_refl _, fun _ _ _ => rfl⟩)) ?_
  intro e a w he
  cases e with
  | normal => exact he
  | exit i => obtain ⟨_, _, h⟩ := he; exact h.elim
  | goto l => exact he
  | ret => obtain ⟨_, _, h⟩ := he; exact h.elim
  | panic ch => exact he
  | outgrown => exact he
theorem D.done {listed : Array Bool} {fuel : Nat} (hr : Region.ready .any l.toArray listed = []) (h : N f w) : D P n l listed N Z wB fuel f w := wpAnyH_done hr ⟨f, rfl, h⟩ fuel
/-- What an operation that yields a value in every world that comes yields. -/
theorem run_of_O {o : Oper} {d : Nat} {v : Value} {w' : World} (hg : o.guard = .none) (hd : o.dst = some d) (hdn : d < n) (hX : ∃ X : Sem Value, execOp (ev n f) o = (do pure (.value (← X))))
    (hO : ∀ N : Val → World → Prop, N (upd f d v) w' → O P n [o] [o] N (fun _ _ => False) f w') : (execOp (ev n f) o).run P w' = .ok (.value v) w' := by
  have h := hO (fun f' w'' => f' = upd f d v ∧ w'' = w') ⟨rfl, rfl⟩
  obtain ⟨X, hX⟩ := hX
  unfold O at h
  simp only [wpList, Region.wanted, hg, if_true] at h
  rcases h with h | ⟨_, _, _, h⟩
  · unfold Oper.wp at h
    rw [eval_Fr, hX, Sem.run_bind] at h
    rw [hX, Sem.run_bind]
    cases hr : X.run P w' with
    | ok u w'' =>
      rw [hr] at h
      simp only [Result.andThen, Sem.run_pure, Oper.upon, hd] at h
      obtain ⟨f', e1, rfl, rfl⟩ := h
      rw [put_Fr] at e1
      have h2 := congrArg (fun a : Act => a.eval (.tmp d)) e1
      simp only [eval_Fr, ev, Nat.ble_eq_true_of_le hdn, cond_true, upd, nbeq_self] at h2
      subst h2
      rfl
    | halt x w'' =>
      rw [hr] at h
      simp only [Result.andThen, Oper.upon] at h
      cases x <;> first | exact h.2.elim | exact h.elim
  · exact h.elim
/-- An operation that yields a value in every later world is taken. -/
theorem D.take {listed : Array Bool} {fuel i : Nat} {o : Oper} {d : Nat} {v : Value} (hi : l[i]? = some o) (hg : o.guard = .none) (hd : o.dst = some d) (hdn : Nat.ble (d + 1) n = true)
    (hk : (Region.noSelect l.toArray && Region.free .any l.toArray listed i && (Region.ready .any l.toArray listed).contains i) = true)
    (hS : Le wB w) (hX : ∃ X : Sem Value, execOp (ev n f) o = (do pure (.value (← X))))
    (hO : ∀ w', Le wB w' → ∀ N : Val → World → Prop, N (upd f d v) w' → O P n [o] [o] N (fun _ _ => False) f w')
    (h : D P n l (listed.setIfInBounds i true) N Z wB fuel (upd f d v) w) : D P n l listed N Z wB (fuel + 1) f w := by
  simp only [Bool.and_eq_true] at hk
  have hy : YieldsIf P l.toArray (fun w' => Le wB w') o v (Fr n f) :=
    .inl ⟨by simp [Region.wanted, hg], fun w' hw => by rw [eval_Fr]; exact run_of_O hg hd (Nat.le_of_ble_eq_true hdn) hX (hO w' hw)⟩
  refine wpAnyH_take (i := i) (oi := o) (v := v) (by simpa using hi) hk.1.1 hk.1.2 hk.2 (Q0_put _ _) hy hS ?_
  rw [hd, put_Fr]
  exact h
/-- An operation whose guard says yes. -/
theorem D.takeYes {listed : Array Bool} {fuel i : Nat} {dst : Option Nat} {op : Op} {ty : TypeId} {pos : String} {after : Array Edge} {j dj : Nat} {b : Bool} {d : Nat} {v : Value}
    (hi : l[i]? = some { dst := dst, op := op, type := ty, pos := pos, after := after, guard := some (j, b) }) (hd : dst = some d) (hdn : Nat.ble (d + 1) n = true)
    (hk : (Region.noSelect l.toArray && Region.free .any l.toArray listed i && (Region.ready .any l.toArray listed).contains i) = true)
    (hj : (l[j]?).bind (·.dst) = some dj) (hv : ev n f (.tmp dj) = .bool b)
    (hS : Le wB w) (hX : ∃ X : Sem Value, execOp (ev n f) { dst := dst, op := op, type := ty, pos := pos, after := after, guard := .none } = (do pure (.value (← X))))
    (hO : ∀ w', Le wB w' → ∀ N : Val → World → Prop, N (upd f d v) w' → O P n [{ dst := dst, op := op, type := ty, pos := pos, after := after, guard := .none }] [{ dst := dst, op := op, type := ty, pos := pos, after := after, guard := .none }] N (fun _ _ => False) f w')
    (h : D P n l (listed.setIfInBounds i true) N Z wB fuel (upd f d v) w) : D P n l listed N Z wB (fuel + 1) f w := by
  simp only [Bool.and_eq_true] at hk
  have hy0 : yielded l.toArray (Fr n f).tmps j = some b := by
    have hd := getD_Fr n f dj
    rw [hv] at hd
    unfold yielded
    have h1 : (l.toArray[j]?).bind (·.dst) = some dj := by simpa using hj
    rw [h1]
    simp only [Option.bind_some]
    rw [Array.getD_eq_getD_getElem?] at hd
    cases hx : (Fr n f).tmps[dj]? with
    | none => rw [hx] at hd; simp [undef] at hd
    | some v => rw [hx] at hd; simp at hd; subst hd; rfl
  have hy : YieldsIf P l.toArray (fun w' => Le wB w') { dst := dst, op := op, type := ty, pos := pos, after := after, guard := some (j, b) } v (Fr n f) :=
    .inl ⟨by simp [Region.wanted, hy0], fun w' hw => by rw [eval_Fr]; exact run_of_O (o := { dst := dst, op := op, type := ty, pos := pos, after := after, guard := .none }) rfl hd (Nat.le_of_ble_eq_true hdn) hX (hO w' hw)⟩
  refine wpAnyH_take (i := i) (v := v) (by simpa using hi) hk.1.1 hk.1.2 hk.2 (Q0_put _ _) hy hS ?_
  simp only [hd]
  rw [put_Fr]
  exact h
/-- An operation that comes up. -/
theorem D.step {listed : Array Bool} {fuel j : Nat} {o : Oper} (hi : l[j]? = some o) (hg : o.guard = .none)
    (hO : O P n [o] [o] (fun f' w' => Le wB w' ∧ D P n l (listed.setIfInBounds j true) N Z wB fuel f' w') Z f w) :
    wpOp P l.toArray (Q0 n N Z) j (fun a' w' => Le wB w' ∧ wpAnyH P .any l.toArray (Q0 n N Z) (fun w' => Le wB w') fuel (listed.setIfInBounds j true) a' w') (Fr n f) w := by
  unfold wpOp
  have hi2 : l.toArray[j]? = some o := by simpa using hi
  rw [hi2]
  unfold O at hO
  simp only [wpList, Region.wanted, hg, if_true] at hO ⊢
  have key : ∀ a' w', Q0 n (fun f' w' => Le wB w' ∧ D P n l (listed.setIfInBounds j true) N Z wB fuel f' w') Z .normal a' w' → Le wB w' ∧ wpAnyH P .any l.toArray (Q0 n N Z) (fun w' => Le wB w') fuel (listed.setIfInBounds j true) a' w' := by
    rintro a' w' ⟨f', rfl, h1, h2⟩
    exact ⟨h1, h2⟩
  rcases hO with h | ⟨_, a0, w0, h0⟩
  · left
    unfold Oper.wp at h ⊢
    generalize (execOp (Fr n f).eval o).run P w = r at h ⊢
    cases r with
    | ok nx w' =>
      cases nx with
      | value v => exact key _ _ h
      | skip => exact key _ _ h
      | defer d => exact key _ _ h
      | enter k args =>
        refine Calls.mono h ?_
        intro e w'' he
        cases e with
        | returned v => exact key _ _ he
        | panicked ch => exact he
        | outgrown => obtain ⟨a0, w0, h0⟩ := he; exact h0.elim
      | row r args => exact Rows.mono h fun v w'' hv => key _ _ hv
      | _ => exact h.elim
    | halt hh w' => cases hh <;> first | exact h | exact h.elim
  · exact h0.elim
/-- An operation that is the only one that may come up. -/
theorem D.one {listed : Array Bool} {fuel i : Nat} {o : Oper} (hi : l[i]? = some o) (hg : o.guard = .none) (hr : Region.ready .any l.toArray listed = [i])
    (hO : O P n [o] [o] (fun f' w' => Le wB w' ∧ D P n l (listed.setIfInBounds i true) N Z wB fuel f' w') Z f w) : D P n l listed N Z wB (fuel + 1) f w := by
  refine wpAnyH_all hr (by simp) ?_
  intro j hj
  obtain rfl : j = i := by simpa using hj
  exact D.step hi hg hO
/-- Two that may come up. -/
theorem D.two {listed : Array Bool} {fuel i i' : Nat} {o o' : Oper} (hi : l[i]? = some o) (hg : o.guard = .none) (hi' : l[i']? = some o') (hg' : o'.guard = .none) (hr : Region.ready .any l.toArray listed = [i, i'])
    (hO : O P n [o] [o] (fun f' w' => Le wB w' ∧ D P n l (listed.setIfInBounds i true) N Z wB fuel f' w') Z f w)
    (hO' : O P n [o'] [o'] (fun f' w' => Le wB w' ∧ D P n l (listed.setIfInBounds i' true) N Z wB fuel f' w') Z f w) : D P n l listed N Z wB (fuel + 1) f w := by
  refine wpAnyH_all hr (by simp) ?_
  intro j hj
  simp only [List.mem_cons, List.not_mem_nil, or_false] at hj
  rcases hj with rfl | rfl
  · exact D.step hi hg hO
  · exact D.step hi' hg' hO'
end
end Go.Pn
