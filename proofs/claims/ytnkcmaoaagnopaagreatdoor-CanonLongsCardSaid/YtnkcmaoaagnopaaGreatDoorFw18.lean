/-
  Function values that decide; structs whose parts lie elsewhere; a writer of bytes. No condition beyond what each rule asks.
-/
import Derived.Test.YtnkcmaoaagnopaaGreatDoorFw17
namespace Go.Pn
open Go.RowKit
/-! function values that decide -/
/-- A function value decides p, wherever the blocks outside M are as they were. -/
def Pred {α : Type} (P : Program) (M : Nat → Prop) (w : World) (v : Value) (arg : α → Value) (p : α → Bool) : Prop :=
  ∃ (g : Nat) (cs : List Value), v = .func (.func g) #[] cs.toArray ∧ (∀ args w, (callFunc g args).run P w = .ok (.enter g args) w) ∧
    ∀ x w', Ext M w w' → Ret P g (arg x :: cs).toArray w' (fun v w'' => v = .bool (p x) ∧ Le w' w'')
section
variable {α : Type} {P : Program} {M : Nat → Prop} {w w' : World} {v : Value} {arg : α → Value} {p : α → Bool}
theorem Pred.keepM {M' : Nat → Prop} (h : Pred P M w v arg p) (e : Ext M' w w') (hM : ∀ k, M' k → M k) : Pred P M w' v arg p := by
  obtain ⟨g, cs, h1, h2, h3⟩ := h
  exact ⟨g, cs, h1, h2, fun x w'' e' => h3 x w'' (Ext.trans (e.mono fun k _ h => hM k h) e')⟩
theorem Pred.weak {M' : Nat → Prop} (h : Pred P M w v arg p) (hM : ∀ k, M' k → M k) : Pred P M' w v arg p := by
  obtain ⟨g, cs, h1, h2, h3⟩ := h
  exact ⟨g, cs, h1, h2, fun x w'' e' => h3 x w'' (e'.mono fun k _ h => hM k h)⟩
theorem Pred.keep (h : Pred P M w v arg p) (e : Le w w') : Pred P M w' v arg p := h.keepM e fun _ h => h.elim
end
section
variable {P : Program} {n : Nat} {ops rest : List Oper} {N : Val → World → Prop} {Z : List PanicEntry → World → Prop} {f : Val} {w : World}
  {d : Nat} {x y : Operand} {t tr ty : TypeId} {pos : String} {after : Array Edge}
theorem O.callP {α : Type} {M : Nat → Prop} {v : Value} {arg : α → Value} {p : α → Bool} {ats : Array TypeId} (z : α) (hp : Pred P M w v arg p) (hx : ev n f x = v) (hy : ev n f y = arg z) (h : ∀ w', Le w w' → O P n ops rest N Z (upd f d (.bool (p z))) w') :
    O P n ops ({ dst := some d, op := .call { callee := .value x, args := [y].toArray, argTypes := ats }, type := tr, pos := pos, after := after, guard := .none } :: rest) N Z f w := by
  obtain ⟨g, cs, rfl, hk, hr⟩ := hp
  exact O.callV (vs := [arg z]) hk hx (by simp [hy]) (hr z w (Ext.refl _ _)) fun v w' h' => by obtain ⟨rfl, e⟩ := h'; exact h w' e
/-- A call of a function value that hands nothing back. -/
theorem O.callVN {g : Nat} {cs : List Value} {xs : List Operand} {vs : List Value} {ats : Array TypeId} {Post : Value → World → Prop}
    (hk : ∀ args w, (callFunc g args).run P w = .ok (.enter g args) w) (hx : ev n f x = .func (.func g) #[] cs.toArray) (hxs : xs.map (ev n f) = vs)
    (hc : Ret P g (vs ++ cs).toArray w Post) (h : ∀ v w', Post v w' → O P n ops rest N Z f w') :
    O P n ops ({ dst := .none, op := .call { callee := .value x, args := xs.toArray, argTypes := ats }, type := tr, pos := pos, after := after, guard := .none } :: rest) N Z f w := by
  subst hxs
  unfold O at h ⊢
  refine wpList_plain rfl fun K hK => ?_
  have hrun : (execOp (ev n f) { dst := .none, op := .call { callee := .value x, args := xs.toArray, argTypes := ats }, type := tr, pos := pos, after := after, guard := .none }).run P w = .ok (.enter g ((xs.map (ev n f)) ++ cs).toArray) w := by
    simp [execOp, resolve, Deferred.ofValue, invoke, hx, hk]
  simp only [Oper.wp, eval_Fr, hrun, Oper.upon_enter]
  refine Calls.mono hc ?_
  intro e w' he
  cases e with
  | returned v => show K ((Fr n f).put .none v) w'; rw [put_none]; exact hK _ _ (h v w' he)
  | panicked ch => exact he.elim
  | outgrown => exact he.elim
/-! structs -/
/-- A field of some cells; the cells as a list. -/
theorem O.fieldL {fields : Array Field} {fd : Field} {k s : Nat} {vs : List Value} (ht : P.underlying t = some (.struct fields)) (hf : fields[k]? = some fd) (ha : ∀ w, (isAgg fd.type).run P w = .ok true w) (hs : ∀ w, (sizeOf fd.type).run P w = .ok s w) (hx : ev n f x = .agg vs.toArray)
    (h : O P n ops rest N Z (upd f d (.agg ((vs.drop fd.offset).take s).toArray)) w) : O P n ops ({ dst := some d, op := .field t x k, type := tr, pos := pos, after := after, guard := .none } :: rest) N Z f w := by
  refine O.fieldA ht hf ha hs hx ?_
  have e : vs.toArray.extract fd.offset (fd.offset + s) = ((vs.drop fd.offset).take s).toArray := by
    simp [List.extract_toArray]
  rwa [e]
theorem run_loadCells_at {α : Type} {E : Enc α} {w : World} {F : Nat → Prop} {a : Addr} {z : α} (ha : At E w F a z) : ∃ cs, E.rep w F cs z ∧ (loadCells a E.sz).run P w = .ok cs.toArray w := by
  obtain ⟨cs, hr, hc⟩ := ha.cellAt
  refine ⟨cs, hr, ?_⟩
  have h := run_loadCells_list (P := P) w a cs fun j v hj => hc j v hj
  rwa [E.len hr] at h
/-- A load of a struct, whatever it holds. -/
theorem O.loadE {α : Type} {E : Enc α} {F : Nat → Prop} {a : Addr} {z : α} {s : Nat} (hag : ∀ w, (isAgg t).run P w = .ok true w) (hs : ∀ w, (sizeOf t).run P w = .ok s w) (hE : E.sz = s) (hx : ev n f x = .pointer (some a)) (ha : At E w F a z)
    (h : ∀ cs, E.rep w F cs z → O P n ops rest N Z (upd f d (.agg cs.toArray)) w) : O P n ops ({ dst := some d, op := .load t x, type := tr, pos := pos, after := after, guard := .none } :: rest) N Z f w := by
  subst hE
  obtain ⟨cs, hr, hl⟩ := run_loadCells_at (P := P) ha
  refine O.val rfl rfl ?_ (h cs hr)
  have h3 : execOp (ev n f) { dst := some d, op := .load t x, type := tr, pos := pos, after := after, guard := .none } = (do pure (.value (← Instr.loadAt t (ev n f x)))) := rfl
  rw [h3, Sem.run_bind, hx]
  have h4 : (Instr.loadAt t (.pointer (some a))).run P w = .ok (.agg cs.toArray) w := by
    simp [Instr.loadAt, Instr.sureAddr, loadVar, hag, hs, hl]
  rw [h4]
  rfl
/-! pointers compared with nil -/
theorem run_eql_nilP {e : TypeId} {a : Addr} (ht : P.underlying t = some (.pointer e)) : (Op.equal t (.pointer (some a)) (.pointer none)).run P w = .ok false w := by
  unfold Op.equal Op.maxDepth
  rw [Op.equalIn, Sem.run_bind, run_underlying ht]
  rfl
theorem O.neqP0 {e : TypeId} {a : Addr} (ht : P.underlying t = some (.pointer e)) (hx : ev n f x = .pointer (some a)) {t' : TypeId} (h : O P n ops rest N Z (upd f d (.bool true)) w) :
    O P n ops ({ dst := some d, op := .binOp .neq t x (.const (.pointer none)) t', type := tr, pos := pos, after := after, guard := .none } :: rest) N Z f w :=
  O.val rfl rfl (by
    refine run_bin hx (y := .const (.pointer none)) rfl rfl ?_ _ _
    have h2 : binOp .neq t (.pointer (some a)) (.pointer none) = (do pure (.bool (!(← Op.equal t (.pointer (some a)) (.pointer none))))) := rfl
    show Sem.run P (binOp .neq t (.pointer (some a)) (.pointer none)) w = _
    rw [h2, Sem.run_bind, run_eql_nilP ht]
    rfl) h
theorem O.eqlP0 {e : TypeId} {a : Addr} (ht : P.underlying t = some (.pointer e)) (hx : ev n f x = .pointer (some a)) {t' : TypeId} (h : O P n ops rest N Z (upd f d (.bool false)) w) :
    O P n ops ({ dst := some d, op := .binOp .eql t x (.const (.pointer none)) t', type := tr, pos := pos, after := after, guard := .none } :: rest) N Z f w :=
  O.val rfl rfl (by
    refine run_bin hx (y := .const (.pointer none)) rfl rfl ?_ _ _
    have h2 : binOp .eql t (.pointer (some a)) (.pointer none) = (do pure (.bool (← Op.equal t (.pointer (some a)) (.pointer none)))) := rfl
    show Sem.run P (binOp .eql t (.pointer (some a)) (.pointer none)) w = _
    rw [h2, Sem.run_bind, run_eql_nilP ht]
    rfl) h
end
/-! a writer of bytes -/
/-- The writer at bw has written xs; its bytes lie in g. -/
def Wr (ty te : TypeId) (w : World) (bw g : Nat) (xs : List UInt8) : Prop :=
  ∃ v, Own w bw ty [v] ∧ OwnF byteF te 0 w v xs ∧ (∀ k, bk v k → k = g) ∧ (∀ k, bk v k → k ≠ bw) ∧ g < w.heap.size
section
variable {ty te : TypeId} {w w' : World} {bw g : Nat} {xs : List UInt8}
theorem Wr.keepM {M : Nat → Prop} (h : Wr ty te w bw g xs) (e : Ext M w w') (hM : ∀ k, (k = bw ∨ k = g) → ¬ M k) : Wr ty te w' bw g xs := by
  obtain ⟨v, h1, h2, h3, h4, h5⟩ := h
  exact ⟨v, h1.keepM e (hM bw (.inl rfl)), h2.keepM e fun k hk => hM k (.inr (h3 k hk)), h3, h4, e.lt h5⟩
theorem Wr.keep (h : Wr ty te w bw g xs) (e : Le w w') : Wr ty te w' bw g xs := h.keepM e fun _ _ => not_false
theorem Wr.lt (h : Wr ty te w bw g xs) : bw < w.heap.size ∧ g < w.heap.size := by
  obtain ⟨v, h1, h2, h3, h4, h5⟩ := h
  exact ⟨h1.lt, h5⟩
/-- A new one. -/
theorem Wr.new (h : Own w bw ty [.slice none 0 0]) : Wr ty te w bw bw [] := ⟨_, h, OwnF.nil _ _ _ _, fun _ h => h.elim, fun _ h => h.elim, h.lt⟩
/-- What is in the writer's cell. -/
theorem Wr.cell (h : Wr ty te w bw g xs) : ∃ v, Own w bw ty [v] ∧ OwnF byteF te 0 w v xs ∧ (∀ k, bk v k → k = g) ∧ (∀ k, bk v k → k ≠ bw) := by
  obtain ⟨v, h1, h2, h3, h4, _⟩ := h
  exact ⟨v, h1, h2, h3, h4⟩
/-- Behind a write. -/
theorem Wr.put {v : Value} (h1 : Own w bw ty [v]) (h2 : OwnF byteF te 0 w v xs) (h3 : ∀ k, bk v k → k ≠ bw) : ∃ g', Wr ty te w bw g' xs ∧ ((bk v g' ∧ ∀ k, bk v k → k = g') ∨ g' = bw) := by
  by_cases h : ∃ k, bk v k
  · obtain ⟨k, hk⟩ := h
    have huniq : ∀ j, bk v j → j = k := by
      intro j hj
      cases v with
      | slice a n c =>
        cases a with
        | none => exact hj.elim
        | some a => simp only [bk] at hj hk; rw [hj, hk]
      | _ => exact hj.elim
    exact ⟨k, ⟨v, h1, h2, huniq, h3, (h2.bk_ge k hk).2⟩, .inl ⟨hk, huniq⟩⟩
  · exact ⟨bw, ⟨v, h1, h2, fun k hk => absurd ⟨k, hk⟩ h, h3, h1.lt⟩, .inr rfl⟩
end
end Go.Pn
