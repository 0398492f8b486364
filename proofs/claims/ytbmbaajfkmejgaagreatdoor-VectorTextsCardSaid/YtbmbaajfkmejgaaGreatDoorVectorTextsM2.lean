/-
  A slice of the call's own whose block has a name. No condition beyond what each rule asks.
-/
import Derived.Test.YtbmbaajfkmejgaaGreatDoorVectorTextsM1
import Derived.Defers
import Derived.Recover
import Derived.RangeFuncLeaves
import Derived.RangeFuncSeq
section
namespace Go.Pn
open Go.RowKit
/-- A slice of the call's own; its cells lie in g, if there are any. -/
def OG {α : Type} (G : Flat α) (ty : TypeId) (w : World) (v : Value) (g : Nat) (xs : List α) : Prop := OwnF G ty 0 w v xs ∧ (∀ k, bk v k → k = g) ∧ g < w.heap.size
section
variable {α : Type} {G : Flat α} {ty : TypeId} {w w' : World} {v : Value} {g B : Nat} {xs ys : List α}
theorem OG.keepM {M : Nat → Prop} (h : OG G ty w v g xs) (e : Ext M w w') (hM : ∀ k, k = g → ¬ M k) : OG G ty w' v g xs := ⟨h.1.keepM e fun k hk => hM k (h.2.1 k hk), h.2.1, e.lt h.2.2⟩
theorem OG.keep (h : OG G ty w v g xs) (e : Le w w') : OG G ty w' v g xs := h.keepM e fun _ _ => not_false
theorem OG.lst (h : OG G ty w v g xs) (e : xs = ys) : OG G ty w v g ys := e ▸ h
theorem OG.of (h : OwnF G ty B w v xs) (hne : 0 < xs.length) : ∃ g, OG G ty w v g xs ∧ B ≤ g := by
  obtain ⟨g, cap, cs, rfl, _, _, _, _, _, hB⟩ := h.block hne
  exact ⟨g, ⟨h.low (Nat.zero_le _), fun k hk => hk, (h.bk_ge g rfl).2⟩, hB⟩
theorem OG.sl (h : OG G ty w v g xs) : Sl G.enc w (fun k => k = g) v xs := h.1.sl.weak h.2.1
theorem OG.bk (h : OG G ty w v g xs) (hne : 0 < xs.length) : Go.Pn.bk v g := by
  obtain ⟨g', cap, cs, rfl, _⟩ := h.1.block hne
  obtain rfl := h.2.1 g' rfl
  exact rfl
/-- A slice of its own again. -/
theorem OG.own (h : OG G ty w v g xs) (hB : B ≤ g) : OwnF G ty B w v xs := by
  refine ⟨⟨h.1.1.1, ?_⟩, h.1.2⟩
  rcases h.1.1.2 with hn | ⟨g', cap, cur, rfl, _, rest⟩
  · exact .inl hn
  · have e : g' = g := h.2.1 g' rfl
    exact .inr ⟨g', cap, cur, rfl, by omega, rest⟩
end
section
variable {P : Program} {n : Nat} {ops rest : List Oper} {N : Val → World → Prop} {Z : List PanicEntry → World → Prop} {f : Val} {w : World}
  {d : Nat} {x y : Operand} {t t' ty tr e : TypeId} {pos : String} {after : Array Edge} {α : Type} {G : Flat α} {F : Nat → Prop}
end
theorem OG.nil {α : Type} {G : Flat α} {ty : TypeId} {w : World} {g : Nat} (h : g < w.heap.size) : OG G ty w (.slice none 0 0) g [] := ⟨OwnF.nil _ _ _ _, fun _ h => h.elim, h⟩
/-- An item's cells. -/
theorem At.raw {w : World} {F : Nat → Prop} {a : Addr} {z : ItemT} (h : At itemE w F a z) : ∃ s, At itemF.enc w F a (z.1, s) ∧ Sl markF.enc w F (slv s) z.2 := by
  obtain ⟨b, off, cur, ty, fr, rfl, hF, hb, hs, v, hv, hm⟩ := h
  obtain ⟨s, rfl⟩ := hm.slv
  exact ⟨s, ⟨b, off, cur, ty, fr, rfl, hF, hb, hs, hv⟩, hm⟩
end Go.Pn
end
section
/-
  A slice made with room, and what is appended into the room. No condition beyond what each rule asks.
-/
namespace Go.Pn
open Go.RowKit
section
variable {P : Program} {n : Nat} {ops rest : List Oper} {N : Val → World → Prop} {Z : List PanicEntry → World → Prop} {f : Val} {w : World}
  {d : Nat} {x y : Operand} {t ty tr e : TypeId} {pos : String} {after : Array Edge} {α : Type} {G : Flat α} {F : Nat → Prop}
theorem Own0.whole {b c : Nat} {ys zs : List α} (h : Own0 w b e ((ys ++ zs).flatMap G.e)) (hc : ys.length + zs.length = c) (hm : c ≤ maxLen) : Sl G.enc w (fun k => k = b) (.slice (some ⟨b, 0, none⟩) c c) (ys ++ zs) := by
  have hl : (ys ++ zs).length = c := by rw [List.length_append, hc]
  have := Sl.of_own (xs := ys ++ zs) (cap := c) h.own (by rw [← G.length, List.take_length]) (by omega) hm (by rw [G.length, hl]; exact Nat.le_refl _)
  rwa [hl] at this
end
end Go.Pn
end
section
/-
  Calls that may panic; a panic of the text's own. No condition.
-/
namespace Go.Pn
section
variable {P : Program} {n : Nat} {ops rest : List Oper} {N : Val → World → Prop} {Z : List PanicEntry → World → Prop} {f : Val} {w : World}

end
section
variable {P : Program} {n : Nat} {ops rest : List Oper} {N : Val → World → Prop} {Z : List PanicEntry → World → Prop} {f : Val} {w : World}
  {d : Nat} {x y : Operand} {t t' ty : TypeId} {pos : String} {after : Array Edge} {a b : Int} {k : IntKind}
end
end Go.Pn
end
section
/-
  Functions with one deferred call: what lies behind the defer runs in a frame that holds it; then the deferred call, entered as the frame returns or panics. No condition.
-/
namespace Go.Pn
/-- The frame of n slots that holds deferred calls. -/
def FrD (ds : List Deferred) (n : Nat) (f : Val) : Act := { Fr n f with defers := ds }
/-- An activation that holds more deferred calls. -/
def more (ds : List Deferred) (a : Act) : Act := { a with defers := a.defers ++ ds }
theorem more_Fr (ds : List Deferred) (n : Nat) (f : Val) : more ds (Fr n f) = FrD ds n f := rfl
theorem more_put (ds : List Deferred) (a : Act) (o : Option Nat) (v : Value) : (more ds a).put o v = more ds (a.put o v) := by cases o <;> rfl
theorem more_eval (ds : List Deferred) (a : Act) : (more ds a).eval = a.eval := by funext x; cases x <;> rfl
/-- The slots that are not written behind the defer. -/
def Holds9 (ks : List Nat) (f0 : Val) (a : Act) : Prop := ∀ t ∈ ks, a.tmps.getD t undef = f0 t
/-- What each way out of a piece of code behind the defer must give. -/
def ExD (ds : List Deferred) (ks : List Nat) (f0 : Val) (n : Nat) (N : Val → World → Prop) (R : Val → World → Prop) (Z : List PanicEntry → World → Prop) : Exit → Act → World → Prop
  | .normal, a, w => ∃ f, a = FrD ds n f ∧ N f w
  | .ret, a, w => ∃ f, a = FrD ds n f ∧ R f w
  | .panic ch, a, w => a.defers = ds ∧ Holds9 ks f0 a ∧ Z ch w
  | _, _, _ => False
/-- Code behind the defer. -/
def CD (P : Program) (n : Nat) (ds : List Deferred) (ks : List Nat) (f0 : Val) (c : Code) (N : Val → World → Prop) (R : Val → World → Prop) (Z : List PanicEntry → World → Prop) (f : Val) (w : World) : Prop :=
  c.wp P (ExD ds ks f0 n N R Z) (FrD ds n f) w
section
variable {P : Program} {n : Nat} {ds : List Deferred} {ks : List Nat} {f0 : Val} {N N' : Val → World → Prop} {R : Val → World → Prop} {Z : List PanicEntry → World → Prop} {f : Val} {w : World} {a b c : Code}
theorem CD.seqK (h : ∀ K : Val → World → Prop, (∀ f w, CD P n ds ks f0 b N R Z f w → K f w) → CD P n ds ks f0 a K R Z f w) : CD P n ds ks f0 (.seq a b) N R Z f w := by
  have h := h _ (fun _ _ h => h)
  refine wp_seq (wp_mono h ?_)
  intro e a w he
  cases e with
  | normal => obtain ⟨f, rfl, hb⟩ := he; exact hb
  | exit i => exact he
  | goto l => exact he
  | ret => exact he
  | panic ch => exact he
  | outgrown => exact he
theorem CD.skip (h : N f w) : CD P n ds ks f0 .skip N R Z f w := wp_skip ⟨f, rfl, h⟩
theorem CD.ret (h : R f w) : CD P n ds ks f0 .ret N R Z f w := wp_ret ⟨f, rfl, h⟩
/-- These operations write none of the slots. -/
def keepsB (ks : List Nat) (l : List Oper) : Bool := l.all fun o => match o.dst with
  | some d => !ks.contains d
  | none => true
theorem Holds9.put {a : Act} (h : Holds9 ks f0 a) {o : Option Nat} {v : Value} (ho : ∀ d, o = some d → d ∉ ks) : Holds9 ks f0 (a.put o v) := by
  intro t ht
  cases o with
  | none => exact h t ht
  | some d =>
    have hd : d ≠ t := fun q => ho d rfl (q ▸ ht)
    rw [← h t ht]
    simp only [Act.put, Array.getD_eq_getD_getElem?, Array.getElem?_setIfInBounds]
    rw [if_neg hd]
theorem keeps_cons {o : Oper} {l : List Oper} (h : keepsB ks (o :: l) = true) : (∀ d, o.dst = some d → d ∉ ks) ∧ keepsB ks l = true := by
  unfold keepsB at h ⊢
  simp only [List.all_cons, Bool.and_eq_true] at h
  refine ⟨fun d hd => ?_, h.2⟩
  have h1 := h.1
  rw [hd] at h1
  simpa using h1
theorem list_more {ops : Array Oper} : ∀ (l : List Oper) (a : Act) (w : World), keepsB ks l = true → Holds9 ks f0 a → (a.defers = []) → wpList P ops (Ex n N (fun _ _ _ => False) (fun _ _ => False) Z) l a w →
    wpList P ops (ExD ds ks f0 n N R Z) l (more ds a) w := by
  have key : ∀ (l : List Oper) (a : Act) (w : World), keepsB ks l = true → Holds9 ks f0 a → wpList P ops (Ex n N (fun _ _ _ => False) (fun _ _ => False) Z) l a w →
      wpList P ops (ExD ds ks f0 n N R Z) l (more ds a) w := by
    intro l
    induction l with
    | nil =>
      intro a w _ _ h
      obtain ⟨f, rfl, hN⟩ := h
      exact ⟨f, rfl, hN⟩
    | cons o l ih =>
      intro a w hk hh h
      obtain ⟨hk1, hk2⟩ := keeps_cons hk
      simp only [wpList] at h ⊢
      rw [more_put]
      have ht : (more ds a).tmps = a.tmps := rfl
      rw [ht]
      split at h
      · rename_i hw
        rw [if_pos hw]
        rcases h with h | ⟨_, a0, w0, h0⟩
        · left
          simp only [Oper.wp, more_eval] at h ⊢
          generalize (execOp a.eval o).run P w = r at h ⊢
          cases r with
          | ok nx w' =>
            cases nx with
            | value v => have := ih _ _ hk2 (hh.put hk1) h; rw [← more_put] at this; exact this
            | skip => have := ih _ _ hk2 (hh.put hk1) h; rw [← more_put] at this; exact this
            | defer d =>
              have := ih _ _ hk2 (Holds9.put (a := { a with defers := d :: a.defers }) hh hk1) h
              rw [← more_put] at this
              exact this
            | enter k args =>
              refine Calls.mono h ?_
              intro e w'' he
              cases e with
              | returned v => have := ih _ _ hk2 (hh.put hk1) he; rw [← more_put] at this; exact this
              | panicked ch => exact ⟨by show a.defers ++ ds = ds; rw [he.1]; rfl, hh, he.2⟩
              | outgrown => obtain ⟨a0, w0, h0⟩ := he; exact h0.elim
            | row r args => exact Rows.mono h fun v w'' hv => by have := ih _ _ hk2 (hh.put hk1) hv; rw [← more_put] at this; exact this
            | _ => exact h.elim
          | halt q w' =>
            cases q with
            | panic v => exact ⟨by show a.defers ++ ds = ds; rw [h.1]; rfl, hh, h.2⟩
            | _ => exact h.elim
        · exact h0.elim
      · rename_i hw
        rw [if_neg hw]
        exact ih _ _ hk2 (hh.put hk1) h
  exact fun l a w hk hh _ h => key l a w hk hh h
theorem CD.region {id : Nat} {l : List Oper} (hk : keepsB ks l = true) (hf : ks.map (fun t => ev n f (.tmp t)) = ks.map f0) (h : O P n l l N Z f w) : CD P n ds ks f0 (.region id l.toArray false) N R Z f w := by
  refine wp_region_lit ?_
  rw [← more_Fr]
  exact list_more l _ _ hk (fun t ht => (getD_Fr n f t).trans (List.map_inj_left.1 hf t ht)) rfl h
theorem any_more {ops : Array Oper} {S : World → Prop} : ∀ (fuel : Nat) (listed : Array Bool) (a : Act) (w : World), wpAnyH P .any ops (Q0 n N fun _ _ => False) S fuel listed a w →
    wpAnyH P .any ops (ExD ds ks f0 n N R Z) S fuel listed (more ds a) w
  | 0, _, a, w, h => by
    obtain ⟨h0, f, rfl, hN⟩ := h
    exact ⟨h0, f, rfl, hN⟩
  | fuel + 1, listed, a, w, h => by
    refine ⟨fun h0 => ?_, fun i hi => ?_⟩
    · obtain ⟨f, rfl, hN⟩ := h.1 h0
      exact ⟨f, rfl, hN⟩
    · have h2 := h.2 i hi
      unfold wpOp at h2 ⊢
      generalize ops[i]? = q at h2 ⊢
      cases q with
      | none => exact ⟨h2.1, any_more fuel _ a w h2.2⟩
      | some o =>
        simp only at h2 ⊢
        have ht : (more ds a).tmps = a.tmps := rfl
        rw [ht]
        split at h2
        · rename_i hw
          rw [if_pos hw]
          rcases h2 with h2 | ⟨_, a0, w0, h0⟩
          · left
            simp only [Oper.wp, more_eval] at h2 ⊢
            generalize (execOp a.eval o).run P w = r at h2 ⊢
            cases r with
            | ok nx w' =>
              cases nx with
              | value v => refine ⟨h2.1, ?_⟩; rw [more_put]; exact any_more fuel _ _ w' h2.2
              | skip => refine ⟨h2.1, ?_⟩; rw [more_put]; exact any_more fuel _ _ w' h2.2
              | defer d => refine ⟨h2.1, ?_⟩; have := any_more fuel _ ({ a with defers := d :: a.defers }.put o.dst undef) w' h2.2; rw [← more_put] at this; exact this
              | enter k args =>
                refine Calls.mono h2 ?_
                intro e w'' he
                cases e with
                | returned v => refine ⟨he.1, ?_⟩; rw [more_put]; exact any_more fuel _ _ w'' he.2
                | panicked ch => exact he.2.elim
                | outgrown => obtain ⟨a0, w0, h0⟩ := he; exact h0.elim
              | row r args => exact Rows.mono h2 fun v w'' hv => by refine ⟨hv.1, ?_⟩; rw [more_put]; exact any_more fuel _ _ w'' hv.2
              | _ => exact h2.elim
            | halt q w' =>
              cases q with
              | panic v => exact h2.2.elim
              | _ => exact h2.elim
          · exact h0.elim
        · rename_i hw
          rw [if_neg hw]
          refine ⟨h2.1, ?_⟩
          rw [more_put]
          exact any_more fuel _ _ w h2.2
theorem CD.draw {id : Nat} {l : List Oper} (hm : P.follows .mixedOrders = true) (h : ∀ w1, Le w w1 → D P n l (Array.replicate l.toArray.size false) N (fun _ _ => False) w1 l.toArray.size f w1) : CD P n ds ks f0 (.region id l.toArray true) N R Z f w := by
  have h1 := h { w with drawn := w.drawn + 1 } ⟨rfl, rfl, rfl, Nat.le_refl _, fun _ _ _ => rfl⟩
  unfold CD
  rw [← more_Fr]
  exact wp_region_held (S := fun w' => Le { w with drawn := w.drawn + 1 } w') hm (any_more _ _ _ _ h1)
theorem CD.drawB {wB : World} {id : Nat} {l : List Oper} (hm : P.follows .mixedOrders = true) (h : ∀ w1, Le w w1 → D P n l (Array.replicate l.toArray.size false) N (fun _ _ => False) wB l.toArray.size f w1) : CD P n ds ks f0 (.region id l.toArray true) N R Z f w := by
  have h1 := h { w with drawn := w.drawn + 1 } ⟨rfl, rfl, rfl, Nat.le_refl _, fun _ _ _ => rfl⟩
  unfold CD
  rw [← more_Fr]
  exact wp_region_held (S := fun w' => Le wB w') hm (any_more _ _ _ _ h1)
end
section
variable {P : Program} {n : Nat}
end
end Go.Pn
namespace Go.Pn
section
variable {P : Program} {fn : Func} {tmps : Array Value} {w : World} {t u q s b b2 : Nat} {ty ty' ty2 ty2' : TypeId} {cs : List Value} {x y : Value}
theorem load_one (hag : ∀ w, (isAgg ty).run P w = .ok false w) (ho : Own w b ty' [x]) : (loadVar ty ⟨b, 0, Option.none⟩).run P w = .ok x w := by
  have hc : w.cell? ⟨b, 0, Option.none⟩ = some x := ho.cell rfl
  simp [loadVar, hag, hc]
end
end Go.Pn
end
section
/-
  A range over a function: the rounds' bodies, the statement, the function that holds one; the call of yield in an iterator. No condition.
-/
namespace Go.Pn
open Go.RowKit
/-- A fence that lets everything in, in a round or not. -/
def FW (ro : Option Nat) : Fence := { Fence.wide with round := ro }
theorem FW_fn (ro : Option Nat) (k : FuncId) : (FW ro).fn k := trivial
theorem callsW {ro : Option Nat} {m : Nat} {P : Program} {k : FuncId} {args : Array Value} {w : World} {R : Ending → World → Prop} (h : Calls P k args w R) : CallsIn (FW ro) m P k args w R := by
  cases ro with
  | none => exact callsIn_wide.2 h
  | some r => exact (show CallsIn (Fence.wide.inRound r) m P k args w R from (callsIn_wide (n := m)).2 h)
theorem rowsW {ro : Option Nat} {m : Nat} {P : Program} {row : String} {args : Array Value} {w : World} {R : Value → World → Prop} (h : Rows P row args w R) : RowsIn (FW ro) m P row args w R := by
  have h0 : RowsIn Fence.wide m P row args w R := fun c cs _ => by
    obtain ⟨v, w', r, s⟩ := h c cs
    exact ⟨v, w', r, stepsIn_wide.2 s⟩
  cases ro with
  | none => exact h0
  | some r => exact h0
/-- No operation defers. -/
def calmB (l : List Oper) : Bool := l.all fun o => match o.op with | .defer _ => false | _ => true
theorem calm_cons {o : Oper} {l : List Oper} (h : calmB (o :: l) = true) : (∀ c, o.op ≠ .defer c) ∧ calmB l = true := by
  unfold calmB at h ⊢
  simp only [List.all_cons, Bool.and_eq_true] at h
  refine ⟨fun c hc => ?_, h.2⟩
  have h1 := h.1
  rw [hc] at h1
  cases h1
theorem semW (ro : Option Nat) (ρ : Operand → Value) (o : Oper) (h : ∀ c, o.op ≠ .defer c) : Oper.semAt ro ρ o = execOp ρ o := Oper.semAt_eq ro ρ o h
section
variable {P : Program} {n : Nat} {N : Val → World → Prop} {X : Nat → Val → World → Prop} {R : Val → World → Prop} {Z : List PanicEntry → World → Prop} {f : Val} {w : World} {ro : Option Nat}
/-- Operations, within a fence. -/
def OI (ro : Option Nat) (P : Program) (n : Nat) (ops : List Oper) (l : List Oper) (Q : Exit → Act → World → Prop) (f : Val) (w : World) : Prop := wpListIn (FW ro) 0 P ops.toArray Q l (Fr n f) w
theorem list_in {ops : Array Oper} {Q : Exit → Act → World → Prop} (hN : ∀ f w, N f w → Q .normal (Fr n f) w) (hZ : ∀ a ch w, a.defers = [] → Z ch w → Q (.panic ch) a w) : ∀ (l : List Oper) (a : Act) (w : World), calmB l = true → wpList P ops (Ex n N (fun _ _ _ => False) (fun _ _ => False) Z) l a w → wpListIn (FW ro) 0 P ops Q l a w := by
  intro l
  induction l with
  | nil =>
    intro a w _ h
    obtain ⟨f, rfl, h⟩ := h
    exact hN f w h
  | cons o l ih =>
    intro a w hk h
    obtain ⟨hk1, hk2⟩ := calm_cons hk
    simp only [wpList] at h
    simp only [wpListIn]
    split at h
    · rename_i hw
      rw [if_pos hw]
      rcases h with h | ⟨_, a0, w0, h0⟩
      · refine ⟨fun k _ => FW_fn ro k, ?_⟩
        rw [show (FW ro).round = ro from rfl, semW ro _ _ hk1]
        unfold Oper.wp at h
        generalize (execOp a.eval o).run P w = r at h ⊢
        cases r with
        | ok nx w' =>
          cases nx with
          | value v => exact ih _ _ hk2 h
          | skip => exact ih _ _ hk2 h
          | defer d => exact ih _ _ hk2 h
          | enter k args =>
            refine ⟨(fun q => by cases q), callsW (Calls.mono h ?_)⟩
            intro e w'' he
            cases e with
            | returned v => exact ih _ _ hk2 he
            | panicked ch => exact hZ _ _ _ he.1 he.2
            | outgrown => obtain ⟨a0, w0, h0⟩ := he; exact h0.elim
          | row r args => exact ⟨(fun q => by cases q), rowsW (Rows.mono h fun v w'' hv => ih _ _ hk2 hv)⟩
          | _ => exact h.elim
        | halt q w' =>
          cases q with
          | panic v => exact hZ _ _ _ h.1 h.2
          | _ => exact h.elim
      · exact h0.elim
    · rename_i hw
      rw [if_neg hw]
      exact ⟨fun k _ => FW_fn ro k, ih _ _ hk2 h⟩
end
/-! a round's body -/
/-- Code of a round of loop r. -/
def CR (r : Nat) (P : Program) (n : Nat) (c : Code) (N : Val → World → Prop) (X : Nat → Val → World → Prop) (R : Val → World → Prop) (f : Val) (w : World) : Prop := c.wpIn (FW (some r)) 0 P (Ex n N X R (fun _ _ => False)) (Fr n f) w
section
variable {P : Program} {n r : Nat} {N N' : Val → World → Prop} {X : Nat → Val → World → Prop} {R : Val → World → Prop} {f : Val} {w : World} {a b c : Code}
theorem CR.seqK (h : ∀ K : Val → World → Prop, (∀ f w, CR r P n b N X R f w → K f w) → CR r P n a K X R f w) : CR r P n (.seq a b) N X R f w := by
  have h := h _ (fun _ _ h => h)
  refine wpIn_seq (wpIn_mono h ?_)
  intro e a w he
  cases e with
  | normal => obtain ⟨f, rfl, hb⟩ := he; exact hb
  | exit i => exact he
  | goto l => exact he
  | ret => exact he
  | panic ch => exact he
  | outgrown => exact he
theorem CR.skip (h : N f w) : CR r P n .skip N X R f w := wpIn_skip ⟨f, rfl, h⟩
theorem CR.ret (h : R f w) : CR r P n .ret N X R f w := wpIn_ret ⟨f, rfl, h⟩
theorem CR.exit {i : Nat} (h : X i f w) : CR r P n (.exit i) N X R f w := wpIn_exit ⟨f, rfl, h⟩
theorem CR.block {i : Nat} (h : ∀ K : Val → World → Prop, (∀ f w, N f w → K f w) → CR r P n c K (fun j f w => cond (Nat.beq j i) (K f w) (X j f w)) R f w) : CR r P n (.block i c) N X R f w := by
  have h := h N (fun _ _ h => h)
  refine wpIn_block (wpIn_mono h ?_)
  intro e a w he
  cases e with
  | normal => exact he
  | exit j =>
    obtain ⟨f, rfl, hx⟩ := he
    simp only [Exit.inBlock]
    by_cases hj : j = i
    · subst hj
      rw [if_pos rfl]
      rw [nbeq_self] at hx
      exact ⟨f, rfl, hx⟩
    · rw [if_neg hj]
      rw [nbeq_false hj] at hx
      exact ⟨f, rfl, hx⟩
  | goto l => exact he
  | ret => exact he
  | panic ch => exact he
  | outgrown => exact he
theorem CR.cond {x : Operand} {t : Bool} (hx : ev n f x = .bool t) (h1 : t = true → CR r P n a N X R f w) (h2 : t = false → CR r P n b N X R f w) : CR r P n (.cond x a b) N X R f w :=
  wpIn_cond_split (by rw [eval_Fr]; exact hx) h1 h2
theorem CR.condD {x : Operand} {p : Prop} [Decidable p] (hx : ev n f x = .bool (decide p)) (h1 : p → CR r P n a N X R f w) (h2 : ¬ p → CR r P n b N X R f w) : CR r P n (.cond x a b) N X R f w :=
  CR.cond hx (fun h => h1 (of_decide_eq_true h)) (fun h => h2 (of_decide_eq_false h))
theorem CR.condT {x : Operand} (hx : ev n f x = .bool true) (h1 : CR r P n a N X R f w) : CR r P n (.cond x a b) N X R f w := CR.cond hx (fun _ => h1) (fun h => by cases h)
theorem CR.condF {x : Operand} (hx : ev n f x = .bool false) (h1 : CR r P n b N X R f w) : CR r P n (.cond x a b) N X R f w := CR.cond hx (fun h => by cases h) (fun _ => h1)
theorem CR.region {id : Nat} {l : List Oper} (hk : calmB l = true) (h : O P n l l N (fun _ _ => False) f w) : CR r P n (.region id l.toArray false) N X R f w :=
  wpIn_region_lit (list_in (fun f w h => ⟨f, rfl, h⟩) (fun _ _ _ _ h => h.elim) l _ _ hk h)
end
/-! a function that holds a range over a function -/
def ExM (n : Nat) (N R : List Deferred → Val → World → Prop) : Exit → Act → World → Prop
  | .normal, a, w => ∃ ds f, a = FrD ds n f ∧ N ds f w
  | .ret, a, w => ∃ ds f, a = FrD ds n f ∧ R ds f w
  | _, _, _ => False
/-- Code of a function that holds a range over a function. -/
def CM (P : Program) (n : Nat) (ds : List Deferred) (c : Code) (N R : List Deferred → Val → World → Prop) (f : Val) (w : World) : Prop := c.wp P (ExM n N R) (FrD ds n f) w
section
variable {P : Program} {n : Nat} {ds : List Deferred} {N R : List Deferred → Val → World → Prop} {f : Val} {w : World} {a b c : Code}
theorem eval_FrD (ds : List Deferred) (n : Nat) (f : Val) : (FrD ds n f).eval = ev n f := by rw [← more_Fr, more_eval, eval_Fr]
theorem CM.seqK (h : ∀ K : List Deferred → Val → World → Prop, (∀ ds f w, CM P n ds b N R f w → K ds f w) → CM P n ds a K R f w) : CM P n ds (.seq a b) N R f w := by
  have h := h _ (fun _ _ _ h => h)
  refine wp_seq (wp_mono h ?_)
  intro e a w he
  cases e with
  | normal => obtain ⟨ds, f, rfl, hb⟩ := he; exact hb
  | exit i => exact he
  | goto l => exact he
  | ret => exact he
  | panic ch => exact he
  | outgrown => exact he
theorem CM.skip (h : N ds f w) : CM P n ds .skip N R f w := wp_skip ⟨ds, f, rfl, h⟩
theorem CM.ret (h : R ds f w) : CM P n ds .ret N R f w := wp_ret ⟨ds, f, rfl, h⟩
theorem CM.block {i : Nat} (h : CM P n ds c N R f w) : CM P n ds (.block i c) N R f w := by
  refine wp_block (wp_mono h ?_)
  intro e a w he
  cases e with
  | normal => exact he
  | exit j => exact he.elim
  | goto l => exact he
  | ret => exact he
  | panic ch => exact he
  | outgrown => exact he
theorem CM.cond {x : Operand} {t : Bool} (hx : ev n f x = .bool t) (h1 : t = true → CM P n ds a N R f w) (h2 : t = false → CM P n ds b N R f w) : CM P n ds (.cond x a b) N R f w :=
  wp_cond_split (by rw [eval_FrD]; exact hx) h1 h2
theorem CM.condD {x : Operand} {p : Prop} [Decidable p] (hx : ev n f x = .bool (decide p)) (h1 : p → CM P n ds a N R f w) (h2 : ¬ p → CM P n ds b N R f w) : CM P n ds (.cond x a b) N R f w :=
  CM.cond hx (fun h => h1 (of_decide_eq_true h)) (fun h => h2 (of_decide_eq_false h))
theorem CM.condT {x : Operand} (hx : ev n f x = .bool true) (h1 : CM P n ds a N R f w) : CM P n ds (.cond x a b) N R f w := CM.cond hx (fun _ => h1) (fun h => by cases h)
theorem CM.condF {x : Operand} (hx : ev n f x = .bool false) (h1 : CM P n ds b N R f w) : CM P n ds (.cond x a b) N R f w := CM.cond hx (fun h => by cases h) (fun _ => h1)
theorem CM.region {id : Nat} {l : List Oper} (h : O P n l l (N ds) (fun _ _ => False) f w) : CM P n ds (.region id l.toArray false) N R f w := by
  have h1 := list_more (ks := []) (f0 := f) (ds := ds) (R := fun _ _ => False) l _ _ (by unfold keepsB; rw [List.all_eq_true]; intro o _; cases o.dst <;> rfl) (fun t ht => by cases ht) rfl h
  rw [more_Fr] at h1
  refine wp_mono (wp_region_lit h1) ?_
  intro e a w he
  cases e with
  | normal => obtain ⟨f, rfl, hN⟩ := he; exact ⟨ds, f, rfl, hN⟩
  | ret => obtain ⟨f, rfl, hN⟩ := he; exact hN.elim
  | panic ch => exact he.2.2.elim
  | exit j => exact he
  | goto l => exact he
  | outgrown => exact he
end
end Go.Pn
end
section
/-
  The contract of an iterator that may write what it has captured; the statement over it; yield's call. No condition.
-/
namespace Go.Pn
open Go.RowKit
/-- An iterator hands over these in their order. M: what it may write; K: what the rounds must keep. -/
def IterOn {α : Type} (P : Program) (gf : FuncId) (lb : Array Value) (enc : α → Value) (xs : List α) (M K : Nat → Prop) (w : World) : Prop :=
  ∀ (l : Nat) (J Jx : List α → World → Prop) (W : World), (∀ k, K k → W.heap[k]? = w.heap[k]?) →
    (∀ pre W W', J pre W → Ext M W W' → J pre W') → (∀ pre W W', Jx pre W → Ext M W W' → Jx pre W') →
    (∀ pre x W1, (pre ++ [x]) <+: xs → J pre W1 → YieldAt (FW none) 0 P l #[enc x] W1 fun e W' =>
      (e = .returned (.bool true) ∧ J (pre ++ [x]) W' ∧ Ext (fun k => ¬ K k) W1 W') ∨ (e = .returned (.bool false) ∧ Jx (pre ++ [x]) W')) →
    J [] W → Calls P gf (#[.func (.yield l) #[] #[]] ++ lb) W fun e W' => (∃ v, e = .returned v) ∧ (J xs W' ∨ ∃ pre, pre <+: xs ∧ Jx pre W')
/-- What holds between two rounds, through what the iterator does. -/
structure JAt {α : Type} (J : List α → World → Prop) (M : Nat → Prop) (pre : List α) (w : World) : Prop where
  h : J pre w
  a : ∀ pre W W', J pre W → Ext M W W' → J pre W'
section
variable {α : Type} {J : List α → World → Prop} {M M' : Nat → Prop} {pre : List α} {w w' : World}
theorem JAt.keepM (h : JAt J M pre w) (e : Ext M' w w') (hM : ∀ k, M' k → M k) : JAt J M pre w' := ⟨h.a pre w w' h.h (e.mono fun k _ hk => hM k hk), h.a⟩
theorem JAt.keep (h : JAt J M pre w) (e : Le w w') : JAt J M pre w' := h.keepM e fun _ hk => hk.elim
end
theorem Ext.putObj (w : World) (b : Nat) (o : Obj) : Ext (fun k => k = b) w (w.putObj b o) := ⟨rfl, rfl, rfl, by simp [World.putObj], fun _ _ hk => World.putObj_heap_other hk⟩
/-- The mark that a range over a function leaves. -/
def mark9 (w : World) : List Deferred := [{ target := .collected w.heap.size, args := #[] }]
section
variable {P : Program} {n : Nat} {N R : List Deferred → Val → World → Prop} {f : Val} {w : World} {α : Type}
theorem CM.rangeF {g : Operand} {p : Nat} {assign body : Code} {gf : Nat} {lb : Array Value} {enc : α → Value} {xs : List α} {M K : Nat → Prop} {fa : α → Val}
    (hg : ev n f g = .func (.func gf) #[] lb) (eg : ∀ args w, (callFunc gf args).run P w = .ok (.enter gf args) w) (it : IterOn P gf lb enc xs M K w)
    (hM : ∀ k, M k → k < w.heap.size) (hK : ∀ k, K k → k < w.heap.size) (I Ix : List α → World → Prop)
    (hI : ∀ pre W W', I pre W → Ext (fun k => M k ∨ k = w.heap.size ∨ k = w.heap.size + 1) W W' → I pre W') (hIx : ∀ pre W W', Ix pre W → Ext (fun k => M k ∨ k = w.heap.size ∨ k = w.heap.size + 1) W W' → Ix pre W')
    (h0 : I [] w)
    (hassign : ∀ (x : α) (W : World), CR (w.heap.size + 1) P n assign (fun f' W' => f' = fa x ∧ W' = W) (fun _ _ _ => False) (fun _ _ => False) (upd f p (enc x)) W)
    (hbody : ∀ (pre : List α) (x : α) (W : World), (pre ++ [x]) <+: xs → I pre W → w.heap.size + 2 ≤ W.heap.size →
      CR (w.heap.size + 1) P n body (fun _ W' => I (pre ++ [x]) W' ∧ Ext (fun k => k ≠ w.heap.size ∧ k ≠ w.heap.size + 1 ∧ ¬ K k) W W') (fun _ _ _ => False) (fun _ W' => Ix (pre ++ [x]) W' ∧ Ext (fun k => k ≠ w.heap.size ∧ k ≠ w.heap.size + 1 ∧ ¬ K k) W W') (fa x) W)
    (hdone : ∀ W, I xs W → w.heap.size + 2 ≤ W.heap.size → W.heap[w.heap.size]? = some (.deferred (some [])) → N (mark9 w) f W)
    (hstop : ∀ pre W, pre <+: xs → Ix pre W → w.heap.size + 2 ≤ W.heap.size → W.heap[w.heap.size]? = some (.deferred (some [])) → R (mark9 w) f W) :
    CM P n [] (.rangeFunc g #[p] assign body) N R f w := by
  refine (wpIn_wide (n := 0)).1 ?_
  refine wpIn_rangeFunc ?_
  intro fn _
  obtain ⟨rec, hrec⟩ : ∃ rec : LoopState → Option Code → Loop, rec = fun st pe => { state := st, pending := pe, fn, tmps := (FrD [] n f).tmps, params := #[p], assign, body, defers := w.heap.size } := ⟨_, rfl⟩
  obtain ⟨W1, hW1⟩ : ∃ W1, (w.alloc (.deferred (some []))).alloc (.loop (rec .ready none)) = W1 := ⟨_, rfl⟩
  have hsz : W1.heap.size = w.heap.size + 2 := by rw [← hW1]; simp
  have hL1 : W1.heap[w.heap.size + 1]? = some (.loop (rec .ready none)) := by
    rw [← hW1]
    have := heap_alloc_new (w.alloc (.deferred (some []))) (.loop (rec .ready none))
    rwa [World.size_alloc] at this
  have hD1 : W1.heap[w.heap.size]? = some (.deferred (some [])) := by
    rw [← hW1]
    exact (heap_alloc_old _ _ (by simp)).trans (heap_alloc_new w _)
  have hold : ∀ k, k < w.heap.size → W1.heap[k]? = w.heap[k]? := fun k hk => by
    rw [← hW1]
    exact (heap_alloc_old _ _ (by simp; omega)).trans (heap_alloc_old w _ hk)
  have hLe : Le w W1 := by rw [← hW1]; exact (Le.alloc _ _).trans (Le.alloc _ _)
  refine ⟨w.heap.size + 1, [{ target := .collected w.heap.size, args := #[] }], W1, { target := .fn (.func gf) lb, args := #[.func (.yield (w.heap.size + 1)) #[] #[]] }, W1, gf,
    #[.func (.yield (w.heap.size + 1)) #[] #[]] ++ lb, W1, ?_, ?_, fun _ _ => trivial, ?_, (fun q => by cases q), ?_⟩
  · rw [← hW1, hrec]
    exact run_enterLoop_outer _ _ _ _ _
  · simp only [resolve, eval_FrD, rangeCall, hg]
    simp [go_sem, hg]
    rfl
  · simp [invoke, go_sem, eg]
  · refine callsW (ro := none) (Calls.mono (it (w.heap.size + 1)
      (fun pre W => I pre W ∧ w.heap.size + 2 ≤ W.heap.size ∧ W.heap[w.heap.size + 1]? = some (.loop (rec .ready none)) ∧ W.heap[w.heap.size]? = some (.deferred (some [])))
      (fun pre W => Ix pre W ∧ w.heap.size + 2 ≤ W.heap.size ∧ W.heap[w.heap.size + 1]? = some (.loop (rec .done (some .ret))) ∧ W.heap[w.heap.size]? = some (.deferred (some [])))
      W1 (fun k hk => hold k (hK k hk)) ?_ ?_ ?_ ⟨hI [] w W1 h0 hLe.to, by omega, hL1, hD1⟩) ?_)
    · rintro pre A B ⟨h1, h2, h3, h4⟩ e
      exact ⟨hI pre A B h1 (e.mono fun k _ hk => .inl hk), Nat.le_trans h2 e.size, (e.block _ (by omega) fun q => by have := hM _ q; omega).trans h3, (e.block _ (by omega) fun q => by have := hM _ q; omega).trans h4⟩
    · rintro pre A B ⟨h1, h2, h3, h4⟩ e
      exact ⟨hIx pre A B h1 (e.mono fun k _ hk => .inl hk), Nat.le_trans h2 e.size, (e.block _ (by omega) fun q => by have := hM _ q; omega).trans h3, (e.block _ (by omega) fun q => by have := hM _ q; omega).trans h4⟩
    · rintro pre x W hpx ⟨h1, h2, h3, h4⟩
      have hput : ((#[p] : Array Tmp).zip #[enc x]).foldl (fun (tmps : Array Value) (t, a) => tmps.setIfInBounds t a) (rec .ready none).tmps = (Fr n (upd f p (enc x))).tmps := by
        have := congrArg Act.tmps (put_Fr n f p (enc x))
        rw [hrec]
        rw [← this]
        simp [Act.put, FrD]
      refine ⟨fn, (Fr n (upd f p (enc x))).tmps, assign, body, ?_, ?_⟩
      · have hy := run_yield (P := P) (args := #[enc x]) h3 (by rw [hrec]; rfl)
        refine hy.trans ?_
        rw [← hput]
        simp only [hrec]
      · refine roundIn_of_wpIn trivial (wpIn_mono (hassign x W) ?_)
        intro e a w9 he
        cases e with
        | normal =>
          obtain ⟨f', rfl, rfl, rfl⟩ := he
          have hl9 : w.heap.size + 1 < w9.heap.size := by omega
          have hE : Ext (fun k => k = w.heap.size + 1) w9 (w9.putObj (w.heap.size + 1) (.loop { rec .ready none with state := .busy })) := Ext.putObj _ _ _
          have hzz : (w9.putObj (w.heap.size + 1) (.loop { rec .ready none with state := .busy })).heap.size = w9.heap.size := by simp [World.putObj]
          refine ⟨_, run_beginRound h3 (by rw [hrec]), wpIn_mono (hbody pre x _ hpx (hI pre _ _ h1 (hE.mono fun k _ hk => .inr (.inr hk))) (by rw [hzz]; omega)) ?_⟩
          have fin : ∀ W3 : World, Ext (fun k => k ≠ w.heap.size ∧ k ≠ w.heap.size + 1 ∧ ¬ K k) (w9.putObj (w.heap.size + 1) (.loop { rec .ready none with state := .busy })) W3 →
              W3.heap[w.heap.size + 1]? = some (.loop { rec .ready none with state := .busy }) ∧ W3.heap[w.heap.size]? = some (.deferred (some [])) ∧ w.heap.size + 2 ≤ W3.heap.size := fun W3 e3 => by
            refine ⟨(e3.block _ (by rw [hzz]; omega) fun q => q.2.1 rfl).trans (World.putObj_heap_same hl9), (e3.block _ (by rw [hzz]; omega) fun q => q.1 rfl).trans ((World.putObj_heap_other (by omega)).trans h4), ?_⟩
            have := e3.size
            omega
          have kk : ∀ (W3 W4 : World), Ext (fun k => k ≠ w.heap.size ∧ k ≠ w.heap.size + 1 ∧ ¬ K k) (w9.putObj (w.heap.size + 1) (.loop { rec .ready none with state := .busy })) W3 → Ext (fun k => k = w.heap.size + 1) W3 W4 → Ext (fun k => ¬ K k) w9 W4 := fun W3 W4 e3 e4 => by
            have hnk : ∀ k, k = w.heap.size + 1 → ¬ K k := fun k hk hq => by have := hK k hq; omega
            exact Ext.trans (Ext.trans (hE.mono fun k _ hk => hnk k hk) (e3.mono fun k _ hk => hk.2.2)) (e4.mono fun k _ hk => hnk k hk)
          intro e a W3 he
          cases e with
          | normal =>
            obtain ⟨f3, rfl, hi3, e3⟩ := he
            obtain ⟨g1, g2, g3⟩ := fin W3 e3
            have hr := run_endRound (P := P) none g1
            have e4 : Ext (fun k => k = w.heap.size + 1) W3 (W3.putObj (w.heap.size + 1) (.loop (rec .ready none))) := Ext.putObj _ _ _
            have hq : (Instr.endRound (w.heap.size + 1) none).run P W3 = .ok (.bool true) (W3.putObj (w.heap.size + 1) (.loop (rec .ready none))) := by
              rw [hr]
              simp only [hrec]
              rfl
            exact ⟨_, _, hq, .inl ⟨rfl, ⟨hI _ _ _ hi3 (e4.mono fun k _ hk => .inr (.inr hk)), by rw [show (W3.putObj (w.heap.size + 1) (.loop (rec .ready none))).heap.size = W3.heap.size by simp [World.putObj]]; exact g3, World.putObj_heap_same (by omega), (World.putObj_heap_other (by omega)).trans g2⟩, kk _ _ e3 e4⟩⟩
          | ret =>
            obtain ⟨f3, rfl, hi3, e3⟩ := he
            obtain ⟨g1, g2, g3⟩ := fin W3 e3
            have hr := run_endRound (P := P) (some .ret) g1
            have e4 : Ext (fun k => k = w.heap.size + 1) W3 (W3.putObj (w.heap.size + 1) (.loop (rec .done (some .ret)))) := Ext.putObj _ _ _
            have hq : (Instr.endRound (w.heap.size + 1) (some .ret)).run P W3 = .ok (.bool false) (W3.putObj (w.heap.size + 1) (.loop (rec .done (some .ret)))) := by
              rw [hr]
              simp only [hrec]
              rfl
            exact ⟨_, _, hq, .inr ⟨rfl, hIx _ _ _ hi3 (e4.mono fun k _ hk => .inr (.inr hk)), by rw [show (W3.putObj (w.heap.size + 1) (.loop (rec .done (some .ret)))).heap.size = W3.heap.size by simp [World.putObj]]; exact g3, World.putObj_heap_same (by omega), (World.putObj_heap_other (by omega)).trans g2⟩⟩
          | exit id => obtain ⟨_, _, h⟩ := he; exact h.elim
          | goto t => exact he.elim
          | panic ch => exact he.2.elim
          | outgrown => exact he.elim
        | ret => obtain ⟨_, _, h⟩ := he; exact h.elim
        | exit id => obtain ⟨_, _, h⟩ := he; exact h.elim
        | goto t => exact he.elim
        | panic ch => exact he.2.elim
        | outgrown => exact he.elim
    · rintro e W2 ⟨⟨v, rfl⟩, ⟨h1, h2, h3, h4⟩ | ⟨pre, hpre, h1, h2, h3, h4⟩⟩
      · have hr := run_endLoop (P := P) h3 (by rw [hrec]; simp)
        have hq : (Instr.endLoop (w.heap.size + 1)).run P W2 = .ok none (W2.putObj (w.heap.size + 1) (.loop { rec .ready none with state := .exhausted })) := by
          rw [hr]
          simp only [hrec]
        refine ⟨none, _, hq, ?_⟩
        have e4 : Ext (fun k => k = w.heap.size + 1) W2 (W2.putObj (w.heap.size + 1) (.loop { rec .ready none with state := .exhausted })) := Ext.putObj _ _ _
        exact ⟨mark9 w, f, rfl, hdone _ (hI _ _ _ h1 (e4.mono fun k _ hk => .inr (.inr hk))) (by rw [show (W2.putObj (w.heap.size + 1) (.loop { rec .ready none with state := .exhausted })).heap.size = W2.heap.size by simp [World.putObj]]; exact h2) ((World.putObj_heap_other (by omega)).trans h4)⟩
      · have hr := run_endLoop (P := P) h3 (by rw [hrec]; simp)
        have hq : (Instr.endLoop (w.heap.size + 1)).run P W2 = .ok (some .ret) (W2.putObj (w.heap.size + 1) (.loop { rec .done (some .ret) with state := .exhausted })) := by
          rw [hr]
          simp only [hrec]
        refine ⟨some .ret, _, hq, ?_⟩
        have e4 : Ext (fun k => k = w.heap.size + 1) W2 (W2.putObj (w.heap.size + 1) (.loop { rec .done (some .ret) with state := .exhausted })) := Ext.putObj _ _ _
        exact wpIn_ret ⟨mark9 w, f, rfl, hstop pre _ hpre (hIx _ _ _ h1 (e4.mono fun k _ hk => .inr (.inr hk))) (by rw [show (W2.putObj (w.heap.size + 1) (.loop { rec .done (some .ret) with state := .exhausted })).heap.size = W2.heap.size by simp [World.putObj]]; exact h2) ((World.putObj_heap_other (by omega)).trans h4)⟩
/-- A function that holds a range over a function. -/
theorem enterM {k : FuncId} {fn : Func} {c : Code} {args : List Value} {Post : Value → World → Prop}
    (hf : P.funcs[k]? = some fn) (hb : fn.body = some c) (hn : fn.ntmps = n) (ha : args.length ≤ n)
    (h : CM P n [] c (fun ds f w => LeavesInM (FW none) 0 P fn (Fr n f).tmps (fun e w' => match e with | .returned v => Post v w' | _ => False) ds .returning w) (fun ds f w => LeavesInM (FW none) 0 P fn (Fr n f).tmps (fun e w' => match e with | .returned v => Post v w' | _ => False) ds .returning w) (init args) w) : Ret P k args.toArray w Post := by
  subst hn
  refine (callsIn_wide (n := 0)).1 (callsIn_of_wp_marks hf hb trivial ?_)
  rw [Fr_init _ _ ha]
  refine wpIn_wide.2 (wp_mono h ?_)
  intro e a w he
  cases e with
  | normal => obtain ⟨ds, f, rfl, hN⟩ := he; exact hN
  | ret => obtain ⟨ds, f, rfl, hN⟩ := he; exact hN
  | exit i => exact he.elim
  | goto l => exact he.elim
  | panic ch => exact he.elim
  | outgrown => exact he.elim
/-- Its results, with no mark and with one. -/
theorem leaveM0 {fn : Func} {Post : Value → World → Prop} (h : Outs P fn n Post f w) : LeavesInM (FW none) 0 P fn (Fr n f).tmps (fun e w' => match e with | .returned v => Post v w' | _ => False) [] .returning w := by
  obtain ⟨v, h1, h2⟩ := h
  exact ⟨v, h1, h2⟩
theorem leaveM1 {fn : Func} {Post : Value → World → Prop} {w0 : World} (hD : w.heap[w0.heap.size]? = some (.deferred (some []))) (h : ∀ w', Ext (fun k => k = w0.heap.size) w w' → Outs P fn n Post f w') :
    LeavesInM (FW none) 0 P fn (Fr n f).tmps (fun e w' => match e with | .returned v => Post v w' | _ => False) (mark9 w0) .returning w := by
  obtain ⟨v, h1, h2⟩ := h (w.putObj w0.heap.size (.deferred none)) (Ext.putObj _ _ _)
  exact ⟨by simp, .inl ⟨_, _, rfl, run_takeDeferred hD, v, h1, h2⟩⟩
end
/-! yield's call -/
section
variable {P : Program} {n : Nat} {N : Val → World → Prop} {X : Nat → Val → World → Prop} {R : Val → World → Prop} {Z : List PanicEntry → World → Prop} {f : Val} {w : World} {ops rest l : List Oper} {o : Oper}
theorem C.regionY {id : Nat} (h : OI none P n l l (Ex n N X R Z) f w) : C P n (.region id l.toArray false) N X R Z f w := wpIn_wide.1 (wpIn_region_lit h)
theorem OI.of (hk : calmB l = true) (h : O P n ops l N Z f w) : OI none P n ops l (Ex n N X R Z) f w := list_in (fun f w h => ⟨f, rfl, h⟩) (fun _ _ _ h1 h2 => ⟨h1, h2⟩) l _ _ hk h
theorem OI.one (hk : calmB [o] = true) (h : O P n ops [o] (fun f' w' => OI none P n ops rest (Ex n N X R Z) f' w') Z f w) : OI none P n ops (o :: rest) (Ex n N X R Z) f w := by
  have h1 := list_in (ro := none) (Q := fun e a w => match e with | .normal => wpListIn (FW none) 0 P ops.toArray (Ex n N X R Z) rest a w | .panic ch => Ex n N X R Z (.panic ch) a w | _ => False) (fun f w h => h) (fun _ _ _ h1 h2 => ⟨h1, h2⟩) [o] _ _ hk h
  unfold OI
  simp only [wpListIn] at h1 ⊢
  split at h1
  · rename_i hw
    rw [if_pos hw]
    refine ⟨h1.1, ?_⟩
    have h2 := h1.2
    generalize (Oper.semAt (FW none).round (Fr n f).eval o).run P w = r at h2 ⊢
    cases r with
    | ok nx w' =>
      cases nx with
      | value v => exact h2
      | skip => exact h2
      | defer d => exact h2
      | enter k args =>
        refine ⟨h2.1, CallsIn.mono h2.2 ?_⟩
        intro e w'' he
        cases e with
        | returned v => exact he
        | panicked ch => exact he
        | outgrown => obtain ⟨a0, w0, h0⟩ := he; exact h0.elim
      | row r args => exact h2
      | round a b c d e =>
        refine ⟨h2.1, RoundIn.mono h2.2 ?_⟩
        intro e w'' he
        cases e with
        | returned v => exact he
        | panicked ch => exact he
        | outgrown => obtain ⟨a0, w0, h0⟩ := he; exact h0.elim
      | _ => exact h2
    | halt q w' =>
      cases q with
      | panic v => exact h2
      | _ => exact h2
  · rename_i hw
    rw [if_neg hw]
    exact h1
theorem OI.yield {x y : Operand} {t ty : TypeId} {d r : Nat} {pos : String} {after : Array Edge} {v : Value} {G : Ending → World → Prop} {Q : Exit → Act → World → Prop} (hx : ev n f x = .func (.yield r) #[] #[]) (hy : ev n f y = v) (hY : YieldAt (FW none) 0 P r #[v] w G)
    (hG : ∀ e w', G e w' → ∃ b, e = .returned (.bool b) ∧ OI none P n ops rest Q (upd f d (.bool b)) w') :
    OI none P n ops ({ dst := some d, op := .call { callee := .value x, args := [y].toArray, argTypes := [t].toArray }, type := ty, pos := pos, after := after, guard := .none } :: rest) Q f w := by
  obtain ⟨fn, tmps, assign, body, hy1, hR⟩ := hY
  unfold OI
  simp only [wpListIn]
  rw [if_pos (by simp [Region.wanted])]
  have hrun : (Oper.semAt (FW none).round (Fr n f).eval { dst := some d, op := .call { callee := .value x, args := [y].toArray, argTypes := [t].toArray }, type := ty, pos := pos, after := after, guard := .none }).run P w = .ok (.round r fn tmps assign body) w := by
    rw [eval_Fr, show (FW none).round = none from rfl, Oper.semAt_none]
    simp [execOp, resolve, hx, hy, Deferred.ofValue, invoke, go_sem]
    exact hy1
  refine ⟨fun k _ => trivial, ?_⟩
  rw [hrun]
  refine ⟨(fun q => by cases q), RoundIn.mono hR ?_⟩
  intro e w' he
  obtain ⟨b, rfl, hk⟩ := hG e w' he
  show wpListIn _ _ _ _ _ _ ((Fr n f).put (some d) (.bool b)) w'
  rw [put_Fr]
  exact hk
end
section
variable {P : Program} {n : Nat} {N R : List Deferred → Val → World → Prop} {f : Val} {w : World} {α : Type}
/-- Results in two cells of one cell each. -/
theorem Outs.cc1 {fn : Func} {Post : Value → World → Prop} {t q b b2 : Nat} {ty ty2 ty' ty2' : TypeId} {x y : Value} (hr : fn.results = #[.cell t ty, .cell q ty2]) (hv : ev n f (.tmp t) = .pointer (some ⟨b, 0, Option.none⟩)) (hv2 : ev n f (.tmp q) = .pointer (some ⟨b2, 0, Option.none⟩))
    (hag : ∀ w, (isAgg ty).run P w = .ok false w) (hag2 : ∀ w, (isAgg ty2).run P w = .ok false w) (ho : Own w b ty' [x]) (ho2 : Own w b2 ty2' [y]) (h : Post (.tuple #[x, y]) w) : Outs P fn n Post f w := by
  refine ⟨_, ?_, h⟩
  simp [results, hr, -Array.getD_eq_getD_getElem?, (getD_Fr n f t).trans hv, (getD_Fr n f q).trans hv2, asAddr, load_one hag ho, load_one hag2 ho2]
/-- The statement, where one variable is assigned. -/
theorem CM.rangeF1 {g : Operand} {p q id : Nat} {ty : TypeId} {pos : String} {after : Array Edge} {body : Code} {gf : Nat} {lb : Array Value} {enc : α → Value} {xs : List α} {M K : Nat → Prop}
    (hg : ev n f g = .func (.func gf) #[] lb) (eg : ∀ args w, (callFunc gf args).run P w = .ok (.enter gf args) w) (hev : ∀ v, ev n (upd f p v) (.tmp p) = v) (it : IterOn P gf lb enc xs M K w)
    (hM : ∀ k, M k → k < w.heap.size) (hK : ∀ k, K k → k < w.heap.size) (I Ix : List α → World → Prop)
    (hI : ∀ pre W W', I pre W → Ext (fun k => M k ∨ k = w.heap.size ∨ k = w.heap.size + 1) W W' → I pre W') (hIx : ∀ pre W W', Ix pre W → Ext (fun k => M k ∨ k = w.heap.size ∨ k = w.heap.size + 1) W W' → Ix pre W')
    (h0 : I [] w)
    (hbody : ∀ (pre : List α) (x : α) (W : World), (pre ++ [x]) <+: xs → I pre W → w.heap.size + 2 ≤ W.heap.size →
      CR (w.heap.size + 1) P n body (fun _ W' => I (pre ++ [x]) W' ∧ Ext (fun k => k ≠ w.heap.size ∧ k ≠ w.heap.size + 1 ∧ ¬ K k) W W') (fun _ _ _ => False) (fun _ W' => Ix (pre ++ [x]) W' ∧ Ext (fun k => k ≠ w.heap.size ∧ k ≠ w.heap.size + 1 ∧ ¬ K k) W W') (upd (upd f p (enc x)) q (enc x)) W)
    (hdone : ∀ W, I xs W → w.heap.size + 2 ≤ W.heap.size → W.heap[w.heap.size]? = some (.deferred (some [])) → N (mark9 w) f W)
    (hstop : ∀ pre W, pre <+: xs → Ix pre W → w.heap.size + 2 ≤ W.heap.size → W.heap[w.heap.size]? = some (.deferred (some [])) → R (mark9 w) f W) :
    CM P n [] (.rangeFunc g #[p] (.region id [({ dst := some q, op := .assign (.tmp p), type := ty, pos := pos, after := after, guard := .none } : Oper)].toArray false) body) N R f w := by
  refine CM.rangeF (fa := fun x => upd (upd f p (enc x)) q (enc x)) hg eg it hM hK I Ix hI hIx h0 (fun x W => ?_) hbody hdone hstop
  refine CR.region rfl ?_
  refine O.asg ?_
  refine O.nil ?_
  exact ⟨by rw [hev], rfl⟩
end
/-- The block for the rounds' deferred calls is open. -/
structure DefAt (D : Nat) (w : World) : Prop where
  h : w.heap[D]? = some (.deferred (some []))
theorem DefAt.keepM {M : Nat → Prop} {D : Nat} {w w' : World} (h : DefAt D w) (e : Ext M w w') (hM : ¬ M D) : DefAt D w' := ⟨(e.block D (lt_of_some h.h) hM).trans h.h⟩
theorem DefAt.keep {D : Nat} {w w' : World} (h : DefAt D w) (e : Le w w') : DefAt D w' := h.keepM e not_false
end Go.Pn
end
