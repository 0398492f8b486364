/-
  A slice of the call's own whose block has a name. No condition beyond what each rule asks.
-/
import Derived.Test.YtnkcmaoaagnopaaGreatDoorFw20
namespace Go.Pn
open Go.RowKit
/-- A slice of the call's own; its cells lie in g, if there are any. -/
def OG {α : Type} (G : Flat α) (ty : TypeId) (w : World) (v : Value) (g : Nat) (xs : List α) : Prop := OwnF G ty 0 w v xs ∧ (∀ k, bk v k → k = g) ∧ g < w.heap.size
section
variable {α : Type} {G : Flat α} {ty : TypeId} {w w' : World} {v : Value} {g B : Nat} {xs ys : List α}
theorem OG.keepM {M : Nat → Prop} (h : OG G ty w v g xs) (e : Ext M w w') (hM : ∀ k, k = g → ¬ M k) : OG G ty w' v g xs := ⟨h.1.keepM e fun k hk => hM k (h.2.1 k hk), h.2.1, e.lt h.2.2⟩
theorem OG.keep (h : OG G ty w v g xs) (e : Le w w') : OG G ty w' v g xs := h.keepM e fun _ _ => not_false
theorem OG.lst (h : OG G ty w v g xs) (e : xs = ys) : OG G ty w v g ys := e ▸ h
theorem OG.of (h : OwnF G ty B w v xs) (hne : 0 < xs.length) : ∃ g, OG G ty w v g xs ∧ B ≤ g := by
  obtain ⟨g, cap, cs, rfl, _, _, _, _, _, hB⟩ := h.block hne
  exact ⟨g, ⟨h.low (Nat.zero_le _), fun k hk => hk, (h.bk_ge g rfl).2⟩, hB⟩
theorem OG.sl (h : OG G ty w v g xs) : Sl G.enc w (fun k => k = g) v xs := h.1.sl.weak h.2.1
theorem OG.bk (h : OG G ty w v g xs) (hne : 0 < xs.length) : Go.Pn.bk v g := by
  obtain ⟨g', cap, cs, rfl, _⟩ := h.1.block hne
  obtain rfl := h.2.1 g' rfl
  exact rfl
/-- A slice of its own again. -/
theorem OG.own (h : OG G ty w v g xs) (hB : B ≤ g) : OwnF G ty B w v xs := by
  refine ⟨⟨h.1.1.1, ?_⟩, h.1.2⟩
  rcases h.1.1.2 with hn | ⟨g', cap, cur, rfl, _, rest⟩
  · exact .inl hn
  · have e : g' = g := h.2.1 g' rfl
    exact .inr ⟨g', cap, cur, rfl, by omega, rest⟩
end
section
variable {P : Program} {n : Nat} {ops rest : List Oper} {N : Val → World → Prop} {Z : List PanicEntry → World → Prop} {f : Val} {w : World}
  {d : Nat} {x y : Operand} {t t' ty tr e : TypeId} {pos : String} {after : Array Edge} {α : Type} {G : Flat α} {F : Nat → Prop}
theorem O.appG {i : TypeInfo} {z v v2 : Value} {xs ys : List α} {g : Nat} (ht : P.underlying t = some (.slice e)) (hi : P.info? e = some i) (hz : i.zero = some z) (hsz : i.size = G.sz) (hzs : z.cells.size = G.sz)
    (hx : ev n f x = v) (hy : ev n f y = v2) (hown : OG G e w v g xs) (hv2 : Sl G.enc w F v2 ys) (hb : (xs.length + ys.length) * i.bytes ≤ 140737488355328) (hl : xs.length + ys.length ≤ maxLen)
    (h : ∀ v' g' w', OG G e w' v' g' (xs ++ ys) → (g' = g ∨ w.heap.size ≤ g') → Ext (bk v) w w' → (∀ k, bk v' k → bk v k ∨ w.heap.size ≤ k) → O P n ops rest N Z (upd f d v') w') :
    O P n ops ({ dst := some d, op := .call { callee := .builtin .append, args := [x, y].toArray, argTypes := [t, t].toArray }, type := tr, pos := pos, after := after, guard := .none } :: rest) N Z f w := by
  refine O.appW ht hi hz hsz hzs hx hy hown.1 hv2 hb hl (Nat.zero_le _) fun v' w' ho he hw => ?_
  by_cases hq : ∃ k, bk v' k
  · obtain ⟨k, hk⟩ := hq
    have huniq : ∀ j, bk v' j → j = k := by
      intro j hj
      cases v' with
      | slice a n c =>
        cases a with
        | none => exact hj.elim
        | some a => simp only [bk] at hj hk; rw [hj, hk]
      | _ => exact hj.elim
    refine h v' k w' ⟨ho, huniq, (ho.bk_ge k hk).2⟩ ?_ he hw
    rcases hw k hk with q | q
    · exact .inl (hown.2.1 k q)
    · exact .inr q
  · exact h v' g w' ⟨ho, fun k hk => absurd ⟨k, hk⟩ hq, he.lt hown.2.2⟩ (.inl rfl) he hw
end
theorem OG.nil {α : Type} {G : Flat α} {ty : TypeId} {w : World} {g : Nat} (h : g < w.heap.size) : OG G ty w (.slice none 0 0) g [] := ⟨OwnF.nil _ _ _ _, fun _ h => h.elim, h⟩
/-- An item's cells. -/
theorem At.raw {w : World} {F : Nat → Prop} {a : Addr} {z : ItemT} (h : At itemE w F a z) : ∃ s, At itemF.enc w F a (z.1, s) ∧ Sl markF.enc w F (slv s) z.2 := by
  obtain ⟨b, off, cur, ty, fr, rfl, hF, hb, hs, v, hv, hm⟩ := h
  obtain ⟨s, rfl⟩ := hm.slv
  exact ⟨s, ⟨b, off, cur, ty, fr, rfl, hF, hb, hs, hv⟩, hm⟩
theorem eq_of_bv {x y : UInt8} (h : ¬ x.toBitVec ≠ y.toBitVec) : x = y := UInt8.eq_of_toBitVec_eq (Decidable.of_not_not h)
end Go.Pn
