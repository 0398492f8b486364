/-
  Function values with what they capture; a result that lies in one cell. No condition.
-/
import Derived.Test.YtnkcmaoaagnopaaGreatDoorFw14
namespace Go.Pn
open Go.RowKit
section
variable {P : Program} {n : Nat} {ops rest : List Oper} {N : Val → World → Prop} {Z : List PanicEntry → World → Prop} {f : Val} {w : World}
  {d : Nat} {x : Operand} {t tr : TypeId} {pos : String} {after : Array Edge}
/-- A function literal. -/
theorem O.makeF {g : Fn} {first cap : List Operand} {v1 v2 : List Value} (h1 : first.map (ev n f) = v1) (h2 : cap.map (ev n f) = v2) (h : O P n ops rest N Z (upd f d (.func g v1.toArray v2.toArray)) w) :
    O P n ops ({ dst := some d, op := .makeFunc g first.toArray cap.toArray, type := tr, pos := pos, after := after, guard := .none } :: rest) N Z f w := by
  refine O.val rfl rfl ?_ h
  have h3 : execOp (ev n f) { dst := some d, op := .makeFunc g first.toArray cap.toArray, type := tr, pos := pos, after := after, guard := .none } = (do pure (.value (← Instr.makeFunc g (first.toArray.map (ev n f)) (cap.toArray.map (ev n f))))) := rfl
  rw [h3, ← h1, ← h2]
  simp [Instr.makeFunc]
/-- A call of a function value. -/
theorem O.callV {g : Nat} {cs : List Value} {xs : List Operand} {vs : List Value} {ats : Array TypeId} {Post : Value → World → Prop}
    (hk : ∀ args w, (callFunc g args).run P w = .ok (.enter g args) w) (hx : ev n f x = .func (.func g) #[] cs.toArray) (hxs : xs.map (ev n f) = vs)
    (hc : Ret P g (vs ++ cs).toArray w Post) (h : ∀ v w', Post v w' → O P n ops rest N Z (upd f d v) w') :
    O P n ops ({ dst := some d, op := .call { callee := .value x, args := xs.toArray, argTypes := ats }, type := tr, pos := pos, after := after, guard := .none } :: rest) N Z f w := by
  subst hxs
  unfold O at h ⊢
  refine wpList_plain rfl fun K hK => ?_
  have hrun : (execOp (ev n f) { dst := some d, op := .call { callee := .value x, args := xs.toArray, argTypes := ats }, type := tr, pos := pos, after := after, guard := .none }).run P w = .ok (.enter g ((xs.map (ev n f)) ++ cs).toArray) w := by
    simp [execOp, resolve, Deferred.ofValue, invoke, hx, hk]
  simp only [Oper.wp, eval_Fr, hrun, Oper.upon_enter]
  refine Calls.mono hc ?_
  intro e w' he
  cases e with
  | returned v => show K ((Fr n f).put (some d) v) w'; rw [put_Fr]; exact hK _ _ (h v w' he)
  | panicked ch => exact he.elim
  | outgrown => exact he.elim
end
/-- A result that lies in one cell of a block of the call's own. -/
theorem Outs.cell1 {P : Program} {fn : Func} {n : Nat} {Post : Value → World → Prop} {f : Val} {w : World} {t b : Nat} {ty ty' : TypeId} {v : Value} (hr : fn.results = #[.cell t ty]) (hag : ∀ w, (isAgg ty).run P w = .ok false w)
    (hv : ev n f (.tmp t) = .pointer (some ⟨b, 0, Option.none⟩)) (ho : Own w b ty' [v]) (h : Post v w) : Outs P fn n Post f w := by
  refine ⟨_, ?_, h⟩
  have hg : (Fr n f).tmps.getD t undef = .pointer (some ⟨b, 0, Option.none⟩) := (getD_Fr n f t).trans hv
  have hc := ho.cell (i := 0) (v := v) rfl
  simp [results, hr, -Array.getD_eq_getD_getElem?, hg, asAddr, loadVar, hag, hc]
theorem OwnF.one {α : Type} {G : Flat α} {ty : TypeId} {B : Nat} {w : World} {v : Value} {xs : List α} (h : OwnF G ty B w v xs) : v.oneCell' = true := by
  rcases h.1.2 with ⟨rfl, _⟩ | ⟨g, cap, cur, rfl, _⟩ <;> rfl
end Go.Pn
