/-
  Calls that may panic; a panic of the text's own. No condition.
-/
import Derived.Test.YtnkcmaoaagnopaaGreatDoorFw22
namespace Go.Pn
section
variable {P : Program} {n : Nat} {ops rest : List Oper} {N : Val → World → Prop} {Z : List PanicEntry → World → Prop} {f : Val} {w : World}

/-- A call of a function that returns or panics. -/
theorem O.callZ {d k : Nat} {xs : List Operand} {vs : List Value} {ats : Array TypeId} {ty : TypeId} {pos : String} {after : Array Edge} {Post : Value → World → Prop} {Z' : List PanicEntry → World → Prop}
    (hk : ∀ args w, (callFunc k args).run P w = .ok (.enter k args) w) (hxs : xs.map (ev n f) = vs)
    (hc : RetZ P k vs.toArray w Post Z') (hz : ∀ ch w', Z' ch w' → Z ch w') (h : ∀ v w', Post v w' → O P n ops rest N Z (upd f d v) w') :
    O P n ops ({ dst := some d, op := .call { callee := .value (.func k), args := xs.toArray, argTypes := ats }, type := ty, pos := pos, after := after, guard := .none } :: rest) N Z f w := by
  subst hxs
  unfold O at h ⊢
  refine wpList_plain rfl fun K hK => ?_
  have hrun : (execOp (ev n f) { dst := some d, op := .call { callee := .value (.func k), args := xs.toArray, argTypes := ats }, type := ty, pos := pos, after := after, guard := .none }).run P w = .ok (.enter k (xs.map (ev n f)).toArray) w := by
    simp [execOp, resolve, Deferred.ofValue, invoke, ev, hk]
  simp only [Oper.wp, eval_Fr, hrun, Oper.upon_enter]
  refine Calls.mono hc ?_
  intro e w' he
  cases e with
  | returned v => show K ((Fr n f).put (some d) v) w'; rw [put_Fr]; exact hK _ _ (h v w' he)
  | panicked ch => exact ⟨rfl, hz ch w' he⟩
  | outgrown => exact he.elim
theorem O.callNZ {k : Nat} {xs : List Operand} {vs : List Value} {ats : Array TypeId} {ty : TypeId} {pos : String} {after : Array Edge} {Post : Value → World → Prop} {Z' : List PanicEntry → World → Prop}
    (hk : ∀ args w, (callFunc k args).run P w = .ok (.enter k args) w) (hxs : xs.map (ev n f) = vs)
    (hc : RetZ P k vs.toArray w Post Z') (hz : ∀ ch w', Z' ch w' → Z ch w') (h : ∀ v w', Post v w' → O P n ops rest N Z f w') :
    O P n ops ({ dst := .none, op := .call { callee := .value (.func k), args := xs.toArray, argTypes := ats }, type := ty, pos := pos, after := after, guard := .none } :: rest) N Z f w := by
  subst hxs
  unfold O at h ⊢
  refine wpList_plain rfl fun K hK => ?_
  have hrun : (execOp (ev n f) { dst := .none, op := .call { callee := .value (.func k), args := xs.toArray, argTypes := ats }, type := ty, pos := pos, after := after, guard := .none }).run P w = .ok (.enter k (xs.map (ev n f)).toArray) w := by
    simp [execOp, resolve, Deferred.ofValue, invoke, ev, hk]
  simp only [Oper.wp, eval_Fr, hrun, Oper.upon_enter]
  refine Calls.mono hc ?_
  intro e w' he
  cases e with
  | returned v => exact hK _ _ (h v w' he)
  | panicked ch => exact ⟨rfl, hz ch w' he⟩
  | outgrown => exact he.elim
/-- A panic of the text's own. -/
theorem O.panics {dst : Option Nat} {x : Operand} {t : TypeId} {v : Value} {ty : TypeId} {pos : String} {after : Array Edge} (hx : ev n f x = .iface t v) (h : Z [{ v := .iface t v, recovered := false }] w) :
    O P n ops ({ dst := dst, op := .panic x, type := ty, pos := pos, after := after, guard := .none } :: rest) N Z f w := by
  unfold O
  refine wpList_plain rfl fun K hK => ?_
  have hrun : (execOp (ev n f) { dst := dst, op := .panic x, type := ty, pos := pos, after := after, guard := .none }).run P w = .halt (.panic (.iface t v)) w := by
    simp [execOp, hx, run_panic_iface]
  simp only [Oper.wp, eval_Fr, hrun, Oper.upon_panic]
  exact ⟨rfl, h⟩
end
section
variable {P : Program} {n : Nat} {ops rest : List Oper} {N : Val → World → Prop} {Z : List PanicEntry → World → Prop} {f : Val} {w : World}
  {d : Nat} {x y : Operand} {t t' ty : TypeId} {pos : String} {after : Array Edge} {a b : Int} {k : IntKind}
theorem O.lssK (hx : ev n f x = .int k a) (hy : ev n f y = .int k b) (h : O P n ops rest N Z (upd f d (.bool (decide (a < b)))) w) :
    O P n ops ({ dst := some d, op := .binOp .lss t x y t', type := ty, pos := pos, after := after, guard := .none } :: rest) N Z f w :=
  O.val rfl rfl (by simp [execOp, hx, hy, eqGuard, binOp, Op.intCmp]) h
theorem O.convKI (ht : P.underlying t = some (.int k)) (ht' : P.underlying t' = some (.int .i64)) (ha : InI a) (hx : ev n f x = .int k a)
    (h : O P n ops rest N Z (upd f d (i64 a)) w) :
    O P n ops ({ dst := some d, op := .convert t t' x, type := ty, pos := pos, after := after, guard := .none } :: rest) N Z f w :=
  O.val rfl rfl (by
    simp [execOp, hx, convert, run_underlying ht, run_underlying ht', Conv.intToInt, wrap_in ha]) h
end
end Go.Pn
