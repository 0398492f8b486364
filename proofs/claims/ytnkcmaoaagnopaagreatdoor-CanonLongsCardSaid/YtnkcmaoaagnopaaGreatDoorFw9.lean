/-
  A part of a slice. No condition.
-/
import Derived.Test.YtnkcmaoaagnopaaGreatDoorFw8
namespace Go.Pn
section
variable {P : Program} {n : Nat} {ops rest : List Oper} {N : Val → World → Prop} {Z : List PanicEntry → World → Prop} {f : Val} {w wB : World}
  {d : Nat} {x : Operand} {t e tr : TypeId} {pos : String} {after : Array Edge} {α : Type} {E : Enc α} {F : Nat → Prop}
/-- v[lo:hi]: what it is, and that the operation gives it in whatever world. -/
theorem Sl.sub {s : Nat} {v : Value} {xs : List α} (lo hi : Nat) (ht : P.underlying t = some (.slice e)) (hsz : ∀ w, (sizeOf e).run P w = .ok s w) (hs : E.sz = s) (hv : Sl E w F v xs) (h1 : lo ≤ hi) (h2 : hi ≤ xs.length) :
    ∃ v', Sl E w F v' ((xs.take hi).drop lo) ∧ ∀ low high : Option Value, ((low = .none ∧ lo = 0) ∨ ∃ k, low = some (.int k lo)) → ((high = .none ∧ hi = xs.length) ∨ ∃ k, high = some (.int k hi)) →
      ∀ w', (Instr.sliceAt t v low high .none).run P w' = .ok v' w' := by
  have hlen : ((xs.take hi).drop lo).length = hi - lo := by simp; omega
  have run : ∀ (a : Option Addr) (cap : Nat), v = .slice a xs.length cap → xs.length ≤ cap → ∀ low high : Option Value, ((low = .none ∧ lo = 0) ∨ ∃ k, low = some (.int k lo)) → ((high = .none ∧ hi = xs.length) ∨ ∃ k, high = some (.int k hi)) →
      ∀ w', (Instr.sliceAt t v low high .none).run P w' = .ok (.slice (if cap = lo then a else a.map (·.add (lo * s))) (hi - lo) (cap - lo)) w' := by
    rintro a cap rfl hc low high hlo hhi w'
    have hbl : ∀ (k : IntKind) (x : Nat) (y : Nat) (c : BoundsCode), x ≤ y → (Instr.sliceBound (.int k (x : Int)) y c).run P w' = .ok x w' := by
      intro k x y c h1
      have : (x : Int) ≤ y := by omega
      simp [Instr.sliceBound, asIntOf, this]
    unfold Instr.sliceAt
    rw [Sem.run_bind, run_underlying ht, Result.andThen_ok]
    simp only []
    unfold Instr.slice
    rw [Sem.run_bind, run_underlying ht, Result.andThen_ok]
    simp only [Instr.sliceBounds]
    rcases hhi with ⟨rfl, rfl⟩ | ⟨k, rfl⟩ <;> rcases hlo with ⟨rfl, rfl⟩ | ⟨k', rfl⟩
    · simp [hsz]
    · have h6 := hbl k' lo xs.length .sliceB h1
      simp [hsz, h6]
    · have h5 := hbl k hi cap .sliceAcap (by omega)
      simp [hsz, h5]
    · have h5 := hbl k hi cap .sliceAcap (by omega)
      have h6 := hbl k' lo hi .sliceB h1
      simp [hsz, h5, h6]
  rcases hv.2 with ⟨a0, rfl, rfl⟩ | ⟨b, off, cap, cur, ty, fr, rfl, hF, hb, hc1, hc2, hc3, hr⟩
  · have e1 : lo = 0 := by simp at h2; omega
    have e2 : hi = 0 := by simpa using h2
    subst e1; subst e2
    exact ⟨.slice a0 0 0, ⟨by simp, .inl ⟨a0, rfl, by simp⟩⟩, by simpa using run a0 0 rfl (by simp)⟩
  · refine ⟨_, ?_, run (some ⟨b, off, none⟩) cap rfl hc1⟩
    by_cases hq : cap = lo
    · rw [if_pos hq]
      have e0 : (xs.take hi).drop lo = [] := List.eq_nil_of_length_eq_zero (by rw [hlen]; omega)
      rw [e0]
      refine ⟨by simp, .inr ⟨b, off, cap - lo, cur, ty, fr, by simp; omega, hF, hb, by simp, by omega, by simp, by simp⟩⟩
    · rw [if_neg hq]
      simp only [Option.map_some, Addr.add_none]
      refine ⟨by have := hv.1; omega, .inr ⟨b, off + lo * s, cap - lo, cur, ty, fr, by rw [hlen], hF, hb, by omega, by omega, ?_, ?_⟩⟩
      · intro h0
        have h3 := hc3 (by omega)
        rw [hs] at h3 ⊢
        have h4 : lo * s + (cap - lo) * s = cap * s := by rw [← Nat.add_mul]; congr 1; omega
        omega
      · intro i hi2
        have h5 : lo + i < xs.length := by omega
        have h6 := hr (lo + i) h5
        have e1 : ((xs.take hi).drop lo)[i] = xs[lo + i] := by simp
        rw [e1]
        have e2 : off + lo * s + i * E.sz = off + (lo + i) * E.sz := by rw [hs, Nat.add_mul]; omega
        rw [e2]
        exact h6
theorem O.subR {lo hi : Nat} {v v' : Value} {xs : List α} {ol oh : Option Operand} (hx : ev n f x = v)
    (hr : ∀ low high : Option Value, ((low = .none ∧ lo = 0) ∨ ∃ k, low = some (.int k lo)) → ((high = .none ∧ hi = xs.length) ∨ ∃ k, high = some (.int k hi)) → ∀ w', (Instr.sliceAt t v low high .none).run P w' = .ok v' w')
    (hlo : (ol = .none ∧ lo = 0) ∨ ∃ z k, ol = some z ∧ ev n f z = .int k lo) (hhi : (oh = .none ∧ hi = xs.length) ∨ ∃ z k, oh = some z ∧ ev n f z = .int k hi)
    (h : O P n ops rest N Z (upd f d v') w) :
    O P n ops ({ dst := some d, op := .slice t x ol oh .none, type := tr, pos := pos, after := after, guard := .none } :: rest) N Z f w := by
  refine O.val rfl rfl ?_ h
  have h3 : execOp (ev n f) { dst := some d, op := .slice t x ol oh .none, type := tr, pos := pos, after := after, guard := .none } = (do pure (.value (← Instr.sliceAt t (ev n f x) (ol.map (ev n f)) (oh.map (ev n f)) .none))) := rfl
  have h4 := hr (ol.map (ev n f)) (oh.map (ev n f))
    (by rcases hlo with ⟨rfl, e⟩ | ⟨z, k, rfl, e⟩
        · exact .inl ⟨rfl, e⟩
        · exact .inr ⟨k, by simp [e]⟩)
    (by rcases hhi with ⟨rfl, e⟩ | ⟨z, k, rfl, e⟩
        · exact .inl ⟨rfl, e⟩
        · exact .inr ⟨k, by simp [e]⟩) w
  rw [h3, Sem.run_bind, hx, h4]
  rfl
/-- An operation whose guard says yes, the only one that may come up. -/
theorem D.oneYes {l : List Oper} {listed : Array Bool} {fuel i : Nat} {dst : Option Nat} {op : Op} {ty : TypeId} {j dj : Nat} {b : Bool}
    (hi : l[i]? = some { dst := dst, op := op, type := ty, pos := pos, after := after, guard := some (j, b) }) (hj : (l[j]?).bind (·.dst) = some dj) (hv : ev n f (.tmp dj) = .bool b) (hr : Region.ready .any l.toArray listed = [i])
    (hO : O P n [{ dst := dst, op := op, type := ty, pos := pos, after := after, guard := .none }] [{ dst := dst, op := op, type := ty, pos := pos, after := after, guard := .none }] (fun f' w' => Le wB w' ∧ D P n l (listed.setIfInBounds i true) N Z wB fuel f' w') Z f w) : D P n l listed N Z wB (fuel + 1) f w := by
  refine wpAnyH_all hr (by simp) ?_
  intro i' hi'
  obtain rfl : i' = i := by simpa using hi'
  have hy0 : yielded l.toArray (Fr n f).tmps j = some b := by
    have hd := getD_Fr n f dj
    rw [hv] at hd
    unfold yielded
    have h1 : (l.toArray[j]?).bind (·.dst) = some dj := by simpa using hj
    rw [h1]
    simp only [Option.bind_some]
    rw [Array.getD_eq_getD_getElem?] at hd
    cases hx : (Fr n f).tmps[dj]? with
    | none => rw [hx] at hd; simp [undef] at hd
    | some v => rw [hx] at hd; simp at hd; subst hd; rfl
  unfold wpOp
  have hi2 : l.toArray[i']? = some { dst := dst, op := op, type := ty, pos := pos, after := after, guard := some (j, b) } := by simpa using hi
  rw [hi2]
  unfold O at hO
  simp only [wpList, Region.wanted, if_true, hy0, beq_self_eq_true] at hO ⊢
  have key : ∀ a' w', Q0 n (fun f' w' => Le wB w' ∧ D P n l (listed.setIfInBounds i' true) N Z wB fuel f' w') Z .normal a' w' → Le wB w' ∧ wpAnyH P .any l.toArray (Q0 n N Z) (fun w' => Le wB w') fuel (listed.setIfInBounds i' true) a' w' := by
    rintro a' w' ⟨f', rfl, h1, h2⟩
    exact ⟨h1, h2⟩
  rcases hO with h | ⟨_, a0, w0, h0⟩
  · left
    unfold Oper.wp at h ⊢
    have hex : execOp (Fr n f).eval { dst := dst, op := op, type := ty, pos := pos, after := after, guard := some (j, b) } = execOp (Fr n f).eval { dst := dst, op := op, type := ty, pos := pos, after := after, guard := .none } := rfl
    rw [hex]
    generalize (execOp (Fr n f).eval { dst := dst, op := op, type := ty, pos := pos, after := after, guard := .none }).run P w = r at h ⊢
    cases r with
    | ok nx w' =>
      cases nx with
      | value v => exact key _ _ h
      | skip => exact key _ _ h
      | defer d => exact key _ _ h
      | enter k args =>
        refine Calls.mono h ?_
        intro e w'' he
        cases e with
        | returned v => exact key _ _ he
        | panicked ch => exact he
        | outgrown => obtain ⟨a0, w0, h0⟩ := he; exact h0.elim
      | row r args => exact Rows.mono h fun v w'' hv => key _ _ hv
      | _ => exact h.elim
    | halt hh w' => cases hh <;> first | exact h | exact h.elim
  · exact h0.elim
end
end Go.Pn
