/-
 The frame of a walk, control and plain operations: the weakest precondition of the kit over frames that are functions of slots. No condition.
-/
import Derived.WalkKit
import Derived.WalkSpells
import Derived.WalkLawsBesides
import Derived.Laws.AppendOwnNone
import Derived.Great.BuildSlice
import Derived.ProofKit
import Derived.OpenShut
import Derived.WideKeyArgs
import Derived.LaidLaws
import Derived.Deep.DeepHandedRow
import Derived.Deep.DeepWitnessRowRef
import Derived.Lib.LaidTab
import Derived.OrdersHeld
import Derived.Laws.Externs
import Derived.Deep.Slices
import Derived.Laws.Cells
import Derived.Laws.Tables
import Derived.Laws.StructEq
import Derived.Deep.Draws
import Derived.Sort.Grow
import Derived.Laws.Cover2
import Derived.Laws.FloatArith
import Derived.Lib.IndexMore
import Derived.Lib.TrimByte
import Derived.Shelf.SlSortCmp.Whole1
section
namespace Go.Pn
open Go.RowKit
abbrev Val := Nat → Value
abbrev ZO (d : Nat) (op : Op) (ty : TypeId) (pos : String) (after : Array Edge) : Oper := { dst := some d, op := op, type := ty, pos := pos, after := after, guard := .none }
theorem nbeq_false {i d : Nat} (h : i ≠ d) : Nat.beq i d = false := by
 cases hb : Nat.beq i d with
 | false => rfl
 | true => exact absurd (Nat.eq_of_beq_eq_true hb) h
theorem nbeq_self (i : Nat) : Nat.beq i i = true := Nat.beq_refl i
def upd (f : Val) (d : Nat) (v : Value) : Val := fun i => cond (Nat.beq i d) v (f i)
def Fr (n : Nat) (f : Val) : Act := { tmps := ((List.range n).map f).toArray, defers := [] }
def ev (n : Nat) (f : Val) : Operand → Value
 | .tmp t => cond (Nat.ble (t + 1) n) (f t) undef
 | .const v => v
 | .global g => .pointer (some ⟨g, 0, none⟩)
 | .func k => .func (.func k) #[] #[]
theorem eval_Fr (n : Nat) (f : Val) : (Fr n f).eval = ev n f := by
 funext x
 cases x with
 | tmp t =>
   simp only [Act.eval, Fr, ev, Array.getD_eq_getD_getElem?, List.getElem?_toArray, List.getElem?_map]
   by_cases h : t < n
   ·have : Nat.ble (t + 1) n = true := Nat.ble_eq_true_of_le h
    simp [this, h]
   ·have : Nat.ble (t + 1) n = false := by
     cases hb : Nat.ble (t + 1) n with
     | true => exact absurd (Nat.le_of_ble_eq_true hb) h
     | false => rfl
    simp [this, h]
 | const v => rfl
 | global g => rfl
 | func k => rfl
theorem put_Fr (n : Nat) (f : Val) (d : Nat) (v : Value) : (Fr n f).put (some d) v = Fr n (upd f d v) := by
 simp only [Act.put, Fr, Act.mk.injEq, and_true]
 apply Array.ext_getElem?
 intro i
 simp only [Array.getElem?_setIfInBounds, List.getElem?_toArray, List.getElem?_map, List.size_toArray, List.length_map, List.length_range]
 by_cases hi : d = i
 ·subst hi
  by_cases h : d < n
  ·simp [h, upd]
  ·simp [h]
 ·rw [if_neg hi]
  by_cases h : i < n
  ·simp [h, upd, nbeq_false (Ne.symm hi)]
  ·simp [h]
theorem put_none (a : Act) (v : Value) : a.put none v = a := rfl
def Ex (n : Nat) (N : Val → World → Prop) (X : Nat → Val → World → Prop) (R : Val → World → Prop) (Z : List PanicEntry → World → Prop) : Exit → Act → World → Prop
 | .normal, a, w => ∃ f, a = Fr n f ∧ N f w
 | .exit i, a, w => ∃ f, a = Fr n f ∧ X i f w
 | .ret, a, w => ∃ f, a = Fr n f ∧ R f w
 | .panic ch, a, w => a.defers = [] ∧ Z ch w
 | _, _, _ => False
def C (P : Program) (n : Nat) (c : Code) (N : Val → World → Prop) (X : Nat → Val → World → Prop) (R : Val → World → Prop) (Z : List PanicEntry → World → Prop) (f : Val) (w : World) : Prop :=
 c.wp P (Ex n N X R Z) (Fr n f) w
def O (P : Program) (n : Nat) (ops : List Oper) (l : List Oper) (N : Val → World → Prop) (Z : List PanicEntry → World → Prop) (f : Val) (w : World) : Prop :=
 wpList P ops.toArray (Ex n N (fun _ _ _ => False) (fun _ _ => False) Z) l (Fr n f) w
section
variable {P : Program} {n : Nat} {N N' : Val → World → Prop} {X : Nat → Val → World → Prop} {R : Val → World → Prop} {Z : List PanicEntry → World → Prop} {f : Val} {w : World} {a b c : Code}
theorem C.seqK (h : ∀ K : Val → World → Prop, (∀ f w, C P n b N X R Z f w → K f w) → C P n a K X R Z f w) : C P n (.seq a b) N X R Z f w := by
 have h := h _ (fun _ _ h => h)
 refine wp_seq (wp_mono h ?_)
 intro e a w he
 cases e with
 | normal => obtain ⟨f, rfl, hb⟩ := he; exact hb
 | exit i => exact he
 | goto l => exact he
 | ret => exact he
 | panic ch => exact he
 | outgrown => exact he
theorem C.skip (h : N f w) : C P n .skip N X R Z f w := wp_skip ⟨f, rfl, h⟩
theorem C.ret (h : R f w) : C P n .ret N X R Z f w := wp_ret ⟨f, rfl, h⟩
theorem C.exit {i : Nat} (h : X i f w) : C P n (.exit i) N X R Z f w := wp_exit ⟨f, rfl, h⟩
theorem C.block {i : Nat} (h : ∀ K : Val → World → Prop, (∀ f w, N f w → K f w) → C P n c K (fun j f w => _root_.cond (Nat.beq j i) (K f w) (X j f w)) R Z f w) : C P n (.block i c) N X R Z f w := by
 have h := h N (fun _ _ h => h)
 refine wp_block (wp_mono h ?_)
 intro e a w he
 cases e with
 | normal => exact he
 | exit j =>
   obtain ⟨f, rfl, hx⟩ := he
   simp only [Exit.inBlock]
   by_cases hj : j = i
   ·subst hj
    rw [if_pos rfl]
    rw [nbeq_self] at hx
    exact ⟨f, rfl, hx⟩
   ·rw [if_neg hj]
    rw [nbeq_false hj] at hx
    exact ⟨f, rfl, hx⟩
 | goto l => exact he
 | ret => exact he
 | panic ch => exact he
 | outgrown => exact he
theorem C.cond {x : Operand} {t : Bool} (hx : ev n f x = .bool t) (h1 : t = true → C P n a N X R Z f w) (h2 : t = false → C P n b N X R Z f w) : C P n (.cond x a b) N X R Z f w :=
 wp_cond_split (by rw [eval_Fr]; exact hx) h1 h2
theorem C.condD {x : Operand} {p : Prop} [Decidable p] (hx : ev n f x = .bool (decide p)) (h1 : p → C P n a N X R Z f w) (h2 : ¬ p → C P n b N X R Z f w) : C P n (.cond x a b) N X R Z f w :=
 C.cond hx (fun h => h1 (of_decide_eq_true h)) (fun h => h2 (of_decide_eq_false h))
theorem C.condT {x : Operand} (hx : ev n f x = .bool true) (h1 : C P n a N X R Z f w) : C P n (.cond x a b) N X R Z f w := C.cond hx (fun _ => h1) (fun h => by cases h)
theorem C.condF {x : Operand} (hx : ev n f x = .bool false) (h1 : C P n b N X R Z f w) : C P n (.cond x a b) N X R Z f w := C.cond hx (fun h => by cases h) (fun _ => h1)
theorem C.region {id : Nat} {l : List Oper} (h : O P n l l N Z f w) : C P n (.region id l.toArray false) N X R Z f w :=
 wp_region_lit (wpList_mono' h)
where
 wpList_mono' (h : O P n l l N Z f w) : wpList P l.toArray (Ex n N X R Z) l (Fr n f) w := by
  have key : ∀ (l' : List Oper) (a : Act) (w : World), wpList P l.toArray (Ex n N (fun _ _ _ => False) (fun _ _ => False) Z) l' a w → wpList P l.toArray (Ex n N X R Z) l' a w := by
   intro l'
   induction l' with
   | nil => intro a w h; exact h
   | cons o l' ih =>
     intro a w h
     simp only [wpList] at h ⊢
     split at h
     ·rename_i hw
      rw [if_pos hw]
      rcases h with h | ⟨_, a0, w0, h0⟩
      ·left
       simp only [Oper.wp] at h ⊢
       generalize (execOp a.eval o).run P w = r at h ⊢
       cases r with
       | ok nx w' =>
         cases nx with
         | value v => exact ih _ _ h
         | skip => exact ih _ _ h
         | defer d => exact ih _ _ h
         | enter k args =>
           refine Calls.mono h ?_
           intro e w'' he
           cases e with
           | returned v => exact ih _ _ he
           | panicked ch => exact he
           | outgrown => obtain ⟨a0, w0, h0⟩ := he; exact h0.elim
         | row r args => exact Rows.mono h fun v w'' hv => ih _ _ hv
         | _ => exact h.elim
       | halt hh w' => cases hh <;> first | exact h | exact h.elim
      ·exact h0.elim
     ·rename_i hw
      rw [if_neg hw]
      exact ih _ _ h
  exact key l _ _ h
theorem C.loop {σ : Type} (I : σ → Val → World → Prop) (μ : σ → Nat) (s0 : σ) (h0 : I s0 f w)
 (round : ∀ s f w, I s f w → C P n c (fun f' w' => ∃ s', I s' f' w' ∧ μ s' < μ s) X R Z f w) : C P n (.loop c) N X R Z f w := by
 intro b k cs
 have key : ∀ m s f w, μ s = m → I s f w →
  ∃ e a' w', Ex n N X R Z e a' w' ∧ Arrives P (lone (b.at (Fr n f) (.code c :: .inLoop c :: k)) cs w) b k cs e a' w' := by
  intro m
  induction m using Nat.strongRecOn with
  | _ m ih =>
    intro s f w hn hI
    obtain ⟨e, a₁, w₁, hq, harr⟩ := round s f w hI b (.inLoop c :: k) cs
    cases e with
    | normal =>
      obtain ⟨f', rfl, s', hI₁, hlt⟩ := hq
      obtain ⟨e₂, a₂, w₂, hq₂, harr₂⟩ := ih (μ s') (hn ▸ hlt) s' f' w₁ rfl hI₁
      exact ⟨e₂, a₂, w₂, hq₂, .of_steps (Steps.trans harr (.one step_inLoop)) harr₂⟩
    | exit i => exact ⟨.exit i, a₁, w₁, hq, .pass (x := .inLoop c) rfl (fun _ _ => .inl (by simp)) harr⟩
    | goto l => exact ⟨.goto l, a₁, w₁, hq, .pass (x := .inLoop c) rfl (fun _ _ => .inl (by simp)) harr⟩
    | ret => exact ⟨.ret, a₁, w₁, hq, .pass (x := .inLoop c) rfl (fun _ _ => .inl (by simp)) harr⟩
    | panic ch => exact ⟨.panic ch, a₁, w₁, hq, .pass (x := .inLoop c) rfl (fun _ _ => .inl (by simp)) harr⟩
    | outgrown => exact ⟨.outgrown, a₁, w₁, hq, .pass (x := .inLoop c) rfl (fun _ _ => .inl (by simp)) harr⟩
 obtain ⟨e, a', w', hq, harr⟩ := key _ s0 f w rfl h0
 exact ⟨e, a', w', hq, .of_steps (.one step_loop) harr⟩
theorem C.loop0 {σ : Type} (I : Val → World → σ → Val → World → Prop) (μ : σ → Nat) (s0 : σ) (h0 : I f w s0 f w)
 (round : ∀ s f' w', I f w s f' w' → C P n c (fun f'' w'' => ∃ s', I f w s' f'' w'' ∧ μ s' < μ s) X R Z f' w') : C P n (.loop c) N X R Z f w :=
 C.loop (I f w) μ s0 h0 round
theorem C.sr {id : Nat} {l : List Oper} (h : ∀ {K : Val → World → Prop}, (∀ {ops : List Oper} {Z' : List PanicEntry → World → Prop} {f : Val} {w : World}, C P n b N X R Z f w → O P n ops [] K Z' f w) → O P n l l K Z f w) : C P n (.seq (.region id l.toArray false) b) N X R Z f w :=
 C.seqK fun K hK => C.region (h (K := K) fun h => ⟨_, rfl, hK _ _ h⟩)
theorem C.sq (h : ∀ {K : Val → World → Prop}, (∀ {f : Val} {w : World}, C P n b N X R Z f w → K f w) → C P n a K X R Z f w) : C P n (.seq a b) N X R Z f w :=
 C.seqK fun K hK => h (K := K) fun h => hK _ _ h
theorem C.bl {i : Nat} (h : ∀ {K : Val → World → Prop}, (∀ {f : Val} {w : World}, N f w → K f w) → C P n c K (fun j f w => _root_.cond (Nat.beq j i) (K f w) (X j f w)) R Z f w) : C P n (.block i c) N X R Z f w :=
 C.block fun K hK => h (K := K) fun h => hK _ _ h
theorem C.mono (h : C P n c N X R Z f w) (hN : ∀ f w, N f w → N' f w) : C P n c N' X R Z f w := by
 refine wp_mono h ?_
 intro e a w he
 cases e with
 | normal => obtain ⟨f, rfl, hf⟩ := he; exact ⟨f, rfl, hN _ _ hf⟩
 | exit i => exact he
 | goto l => exact he
 | ret => exact he
 | panic ch => exact he
 | outgrown => exact he
end
def Ret (P : Program) (k : FuncId) (args : Array Value) (w : World) (Post : Value → World → Prop) : Prop :=
 Calls P k args w fun e w' => match e with | .returned v => Post v w' | _ => False
def RetZ (P : Program) (k : FuncId) (args : Array Value) (w : World) (Post : Value → World → Prop) (Z : List PanicEntry → World → Prop) : Prop :=
 Calls P k args w fun e w' => match e with | .returned v => Post v w' | .panicked ch => Z ch w' | .outgrown => False
theorem Ret.mono {P : Program} {k : FuncId} {args : Array Value} {w : World} {Q Q' : Value → World → Prop} (h : Ret P k args w Q) (hq : ∀ v w', Q v w' → Q' v w') : Ret P k args w Q' :=
 Calls.mono h fun e w' he => by cases e <;> first | exact hq _ _ he | exact he
theorem Ret.of {P : Program} {k : FuncId} {args : Array Value} {w : World} {R : Ending → World → Prop} {Q : Value → World → Prop} (h : Calls P k args w R) (hq : ∀ e w', R e w' → ∃ v, e = .returned v ∧ Q v w') : Ret P k args w Q :=
 Calls.mono h fun e w' he => by obtain ⟨v, rfl, hv⟩ := hq e w' he; exact hv
theorem Ret.calls {P : Program} {k : FuncId} {args : Array Value} {w : World} {Q : Value → World → Prop} (h : Ret P k args w Q) : Calls P k args w fun e w' => ∃ v, e = .returned v ∧ Q v w' :=
 Calls.mono h fun e w' he => by cases e <;> first | exact ⟨_, rfl, he⟩ | exact he.elim
def init (args : List Value) : Val := fun i => args.getD i undef
theorem Fr_init (n : Nat) (args : List Value) (h : args.length ≤ n) :
 ({ tmps := args.toArray ++ Array.replicate (n - args.toArray.size) undef, defers := [] } : Act) = Fr n (init args) := by
 simp only [Fr, Act.mk.injEq, and_true]
 apply Array.ext_getElem?
 intro i
 simp only [List.size_toArray, Array.getElem?_append, List.getElem?_toArray, Array.getElem?_replicate, List.getElem?_map]
 by_cases h1 : i < args.length
 ·have h2 : i < n := by omega
  simp [h1, h2, init]
 ·by_cases h2 : i < n
  ·have : i - args.length < n - args.length := by omega
   simp [h1, h2, this, init]
  ·have : ¬ i - args.length < n - args.length := by omega
   simp [h1, h2, this]
def Outs (P : Program) (fn : Func) (n : Nat) (Post : Value → World → Prop) : Val → World → Prop :=
 fun f w => ∃ v, (results fn (Fr n f).tmps).run P w = .ok v w ∧ Post v w
theorem enterZ {P : Program} {k : FuncId} {fn : Func} {c : Code} {args : List Value} {n : Nat} {w : World} {Post : Value → World → Prop} {Z : List PanicEntry → World → Prop}
 (hf : P.funcs[k]? = some fn) (hb : fn.body = some c) (hn : fn.ntmps = n) (ha : args.length ≤ n)
 (h : C P n c (Outs P fn n Post) (fun _ _ _ => False) (Outs P fn n Post) Z (init args) w) : RetZ P k args.toArray w Post Z := by
 subst hn
 refine calls_of_wp hf hb ?_
 rw [Fr_init _ _ ha]
 refine wp_mono h ?_
 intro e a w he
 cases e with
 | normal => obtain ⟨f, rfl, v, hv, hp⟩ := he; exact ⟨rfl, v, hv, hp⟩
 | ret => obtain ⟨f, rfl, v, hv, hp⟩ := he; exact ⟨rfl, v, hv, hp⟩
 | exit i => obtain ⟨f, rfl, hx⟩ := he; exact hx.elim
 | goto l => exact he.elim
 | panic ch => exact he
 | outgrown => exact he.elim
theorem enter {P : Program} {k : FuncId} {fn : Func} {c : Code} {args : List Value} {n : Nat} {w : World} {Post : Value → World → Prop}
 (hf : P.funcs[k]? = some fn) (hb : fn.body = some c) (hn : fn.ntmps = n) (ha : args.length ≤ n)
 (h : C P n c (Outs P fn n Post) (fun _ _ _ => False) (Outs P fn n Post) (fun _ _ => False) (init args) w) : Ret P k args.toArray w Post :=
 Calls.mono (enterZ hf hb hn ha h) fun e w' he => by cases e <;> first | exact he | exact he.elim
theorem leB {a b : Nat} (h : Nat.ble a b = true) : a ≤ b := Nat.le_of_ble_eq_true h
theorem enT {P : Program} {k : FuncId} {fn : Func} {c : Code} {w : World} {Post : Value → World → Prop} (args : List Value) (n : Nat)
 (hf : P.funcs[k]? = some fn) (hb : fn.body = some c) (hn : fn.ntmps = n)
 (h : C P n c (Outs P fn n Post) (fun _ _ _ => False) (Outs P fn n Post) (fun _ _ => False) (init args) w) (ha : args.length ≤ n := by exact Nat.le_of_ble_eq_true rfl) : Ret P k args.toArray w Post :=
 enter hf hb hn ha h
theorem getD_Fr (n : Nat) (f : Val) (t : Nat) : (Fr n f).tmps.getD t undef = ev n f (.tmp t) := by
 have := congrFun (eval_Fr n f) (.tmp t)
 exact this
theorem Outs.one {P : Program} {fn : Func} {n : Nat} {Post : Value → World → Prop} {f : Val} {w : World} {t : Nat} {v : Value} (hr : fn.results = #[.tmp t]) (hv : ev n f (.tmp t) = v) (h : Post v w) : Outs P fn n Post f w :=
 ⟨v, by rw [results_tmp hr, getD_Fr, hv], h⟩
theorem Outs.none {P : Program} {fn : Func} {n : Nat} {Post : Value → World → Prop} {f : Val} {w : World} (hr : fn.results = #[]) (h : Post (.tuple #[]) w) : Outs P fn n Post f w :=
 ⟨_, by rw [results_none hr], h⟩
theorem Outs.two {P : Program} {fn : Func} {n : Nat} {Post : Value → World → Prop} {f : Val} {w : World} {t u : Nat} {v v' : Value} (hr : fn.results = #[.tmp t, .tmp u]) (hv : ev n f (.tmp t) = v) (hv' : ev n f (.tmp u) = v') (h : Post (.tuple #[v, v']) w) : Outs P fn n Post f w :=
 ⟨_, by rw [results_tmp2 hr, getD_Fr, getD_Fr, hv, hv'], h⟩
section
variable {P : Program} {n : Nat} {N : Val → World → Prop} {X : Nat → Val → World → Prop} {Z : List PanicEntry → World → Prop} {f : Val} {w : World}
theorem C.r1 {fn : Func} {Post : Value → World → Prop} {t : Nat} (h : Post (ev n f (.tmp t)) w) (hr : fn.results = #[.tmp t] := by rfl) : C P n .ret N X (Outs P fn n Post) Z f w := C.ret (Outs.one hr rfl h)
theorem C.r2 {fn : Func} {Post : Value → World → Prop} {t u : Nat} (h : Post (.tuple #[ev n f (.tmp t), ev n f (.tmp u)]) w) (hr : fn.results = #[.tmp t, .tmp u] := by rfl) : C P n .ret N X (Outs P fn n Post) Z f w := C.ret (Outs.two hr rfl rfl h)
end
section
variable {P : Program} {n : Nat} {ops rest : List Oper} {N : Val → World → Prop} {Z : List PanicEntry → World → Prop} {f : Val} {w : World}
theorem O.nil (h : N f w) : O P n ops [] N Z f w := ⟨f, rfl, h⟩
theorem O.val {o : Oper} {d : Nat} {v : Value} {w' : World} (hg : o.guard = .none) (hd : o.dst = some d) (hrun : (execOp (ev n f) o).run P w = .ok (.value v) w')
 (h : O P n ops rest N Z (upd f d v) w') : O P n ops (o :: rest) N Z f w := by
 unfold O at h ⊢
 refine wpList_plain hg fun K hK => ?_
 simp only [Oper.wp, eval_Fr, hrun, Oper.upon_value, hd, put_Fr]
 exact hK _ _ h
theorem O.act {o : Oper} {w' : World} (hg : o.guard = .none) (hd : o.dst = .none) (hrun : (execOp (ev n f) o).run P w = .ok .skip w')
 (h : O P n ops rest N Z f w') : O P n ops (o :: rest) N Z f w := by
 unfold O at h ⊢
 refine wpList_plain hg fun K hK => ?_
 simp only [Oper.wp, eval_Fr, hrun, Oper.upon_skip, hd, put_none]
 exact hK _ _ h
theorem O.cast {d : Nat} {v v' : Value} (hv : v = v') (h : O P n ops rest N Z (upd f d v') w) : O P n ops rest N Z (upd f d v) w := hv ▸ h
theorem O.yes {dst : Option Nat} {op : Op} {ty : TypeId} {pos : String} {after : Array Edge} {j dj : Nat} {b : Bool}
 (hj : (ops[j]?).bind (·.dst) = some dj) (hv : ev n f (.tmp dj) = .bool b)
 (h : O P n ops ({ dst := dst, op := op, type := ty, pos := pos, after := after, guard := .none } :: rest) N Z f w) :
 O P n ops ({ dst := dst, op := op, type := ty, pos := pos, after := after, guard := some (j, b) } :: rest) N Z f w := by
 unfold O at h ⊢
 have hy : yielded ops.toArray (Fr n f).tmps j = some b := by
  have hd := getD_Fr n f dj
  rw [hv] at hd
  unfold yielded
  have h1 : (ops.toArray[j]?).bind (·.dst) = some dj := by simpa using hj
  rw [h1]
  simp only [Option.bind_some]
  rw [Array.getD_eq_getD_getElem?] at hd
  cases hx : (Fr n f).tmps[dj]? with
  | none => rw [hx] at hd; simp [undef] at hd
  | some v => rw [hx] at hd; simp at hd; subst hd; rfl
 simp only [wpList, Region.wanted, hy, beq_self_eq_true, if_true] at h ⊢
 exact h
def isB (b : Bool) : Value → Bool
 | .bool c => c == b
 | _ => false
theorem O.no {d : Nat} {op : Op} {ty : TypeId} {pos : String} {after : Array Edge} {j dj : Nat} {b : Bool}
 (hj : (ops[j]?).bind (·.dst) = some dj) (hv : isB b (ev n f (.tmp dj)) = false)
 (h : O P n ops rest N Z (upd f d undef) w) :
 O P n ops ({ dst := some d, op := op, type := ty, pos := pos, after := after, guard := some (j, b) } :: rest) N Z f w := by
 unfold O at h ⊢
 have hy : (yielded ops.toArray (Fr n f).tmps j == some b) = false := by
  have hd := getD_Fr n f dj
  unfold yielded
  have h1 : (ops.toArray[j]?).bind (·.dst) = some dj := by simpa using hj
  rw [h1]
  simp only [Option.bind_some]
  rw [Array.getD_eq_getD_getElem?] at hd
  cases hx : (Fr n f).tmps[dj]? with
  | none => rfl
  | some v =>
    rw [hx] at hd
    simp at hd
    rw [← hd] at hv
    cases v <;> first | rfl | (simp [isB] at hv; simp; exact hv)
 simp only [wpList, Region.wanted, hy]
 rw [put_Fr]
 simpa using h
theorem O.call {d k : Nat} {xs : List Operand} {vs : List Value} {ats : Array TypeId} {ty : TypeId} {pos : String} {after : Array Edge} {Post : Value → World → Prop}
 (hk : ∀ args w, (callFunc k args).run P w = .ok (.enter k args) w) (hxs : xs.map (ev n f) = vs)
 (hc : Ret P k vs.toArray w Post) (h : ∀ v w', Post v w' → O P n ops rest N Z (upd f d v) w') :
 O P n ops (ZO d (.call { callee := .value (.func k), args := xs.toArray, argTypes := ats }) ty pos after :: rest) N Z f w := by
 subst hxs
 unfold O at h ⊢
 refine wpList_plain rfl fun K hK => ?_
 have hrun : (execOp (ev n f) (ZO d (.call { callee := .value (.func k), args := xs.toArray, argTypes := ats }) ty pos after)).run P w = .ok (.enter k (xs.map (ev n f)).toArray) w := by
  simp [execOp, resolve, Deferred.ofValue, invoke, ev, hk]
 simp only [Oper.wp, eval_Fr, hrun, Oper.upon_enter]
 refine Calls.mono hc ?_
 intro e w' he
 cases e with
 | returned v => show K ((Fr n f).put (some d) v) w'; rw [put_Fr]; exact hK _ _ (h v w' he)
 | panicked ch => exact he.elim
 | outgrown => exact he.elim
theorem argsN : ([] : List Operand).map (ev n f) = [] := rfl
theorem args1 {x0 : Operand} {v0 : Value} (h0 : ev n f x0 = v0) : [x0].map (ev n f) = [v0] := by simp [h0]
theorem args2 {x0 x1 : Operand} {v0 v1 : Value} (h0 : ev n f x0 = v0) (h1 : ev n f x1 = v1) : [x0, x1].map (ev n f) = [v0, v1] := by simp [h0, h1]
theorem args3 {x0 x1 x2 : Operand} {v0 v1 v2 : Value} (h0 : ev n f x0 = v0) (h1 : ev n f x1 = v1) (h2 : ev n f x2 = v2) : [x0, x1, x2].map (ev n f) = [v0, v1, v2] := by simp [h0, h1, h2]
theorem args4 {x0 x1 x2 x3 : Operand} {v0 v1 v2 v3 : Value} (h0 : ev n f x0 = v0) (h1 : ev n f x1 = v1) (h2 : ev n f x2 = v2) (h3 : ev n f x3 = v3) : [x0, x1, x2, x3].map (ev n f) = [v0, v1, v2, v3] := by simp [h0, h1, h2, h3]
theorem args5 {x0 x1 x2 x3 x4 : Operand} {v0 v1 v2 v3 v4 : Value} (h0 : ev n f x0 = v0) (h1 : ev n f x1 = v1) (h2 : ev n f x2 = v2) (h3 : ev n f x3 = v3) (h4 : ev n f x4 = v4) : [x0, x1, x2, x3, x4].map (ev n f) = [v0, v1, v2, v3, v4] := by simp [h0, h1, h2, h3, h4]
theorem args6 {x0 x1 x2 x3 x4 x5 : Operand} {v0 v1 v2 v3 v4 v5 : Value} (h0 : ev n f x0 = v0) (h1 : ev n f x1 = v1) (h2 : ev n f x2 = v2) (h3 : ev n f x3 = v3) (h4 : ev n f x4 = v4) (h5 : ev n f x5 = v5) : [x0, x1, x2, x3, x4, x5].map (ev n f) = [v0, v1, v2, v3, v4, v5] := by simp [h0, h1, h2, h3, h4, h5]
theorem O.mv {d : Nat} {x : Operand} {ty : TypeId} {pos : String} {after : Array Edge}
 (h : O P n ops rest N Z (upd f d (ev n f x)) w) :
 O P n ops (ZO d (.move x) ty pos after :: rest) N Z f w :=
 O.val rfl rfl rfl h
theorem O.asg {d : Nat} {x : Operand} {ty : TypeId} {pos : String} {after : Array Edge}
 (h : O P n ops rest N Z (upd f d (ev n f x)) w) :
 O P n ops (ZO d (.assign x) ty pos after :: rest) N Z f w :=
 O.val rfl rfl rfl h
theorem O.pickT {d : Nat} {c x y : Operand} {ty : TypeId} {pos : String} {after : Array Edge} (hc : ev n f c = .bool true)
 (h : O P n ops rest N Z (upd f d (ev n f x)) w) :
 O P n ops (ZO d (.pick c x y) ty pos after :: rest) N Z f w :=
 O.val rfl rfl (by simp [execOp, hc, asBool]) h
theorem O.pickF {d : Nat} {c x y : Operand} {ty : TypeId} {pos : String} {after : Array Edge} (hc : ev n f c = .bool false)
 (h : O P n ops rest N Z (upd f d (ev n f y)) w) :
 O P n ops (ZO d (.pick c x y) ty pos after :: rest) N Z f w :=
 O.val rfl rfl (by simp [execOp, hc, asBool]) h
theorem O.extract {d i : Nat} {x : Operand} {vs : Array Value} {v : Value} {ty : TypeId} {pos : String} {after : Array Edge} (hx : ev n f x = .tuple vs) (hv : vs[i]? = some v)
 (h : O P n ops rest N Z (upd f d v) w) :
 O P n ops (ZO d (.extract x i) ty pos after :: rest) N Z f w :=
 O.val rfl rfl (by simp [execOp, hx, Instr.extract, hv]) h
theorem O.not {d : Nat} {x : Operand} {b : Bool} {t ty : TypeId} {pos : String} {after : Array Edge} (hx : ev n f x = .bool b)
 (h : O P n ops rest N Z (upd f d (.bool (!b))) w) :
 O P n ops (ZO d (.unOp .not t x) ty pos after :: rest) N Z f w :=
 O.val rfl rfl (by simp [execOp, hx, Op.unary]) h
theorem O.split {b : Bool} {l : List Oper} {x : Operand} (_ : ev n f x = .bool b) (h1 : b = true → O P n ops l N Z f w) (h2 : b = false → O P n ops l N Z f w) : O P n ops l N Z f w := by
 cases b
 ·exact h2 rfl
 ·exact h1 rfl
theorem O.splitD {p : Prop} [Decidable p] {l : List Oper} {x : Operand} (_ : ev n f x = .bool (decide p)) (h1 : p → O P n ops l N Z f w) (h2 : ¬ p → O P n ops l N Z f w) : O P n ops l N Z f w := by
 by_cases h : p
 ·exact h1 h
 ·exact h2 h
theorem dAnd {A B : Prop} [Decidable A] [Decidable B] (h : A) : decide B = decide (A ∧ B) := by simp [h]
theorem dAndF {A B : Prop} [Decidable A] [Decidable B] (h : ¬ A) : false = decide (A ∧ B) := by simp [h]
theorem dOr {A B : Prop} [Decidable A] [Decidable B] (h : ¬ A) : decide B = decide (A ∨ B) := by simp [h]
theorem dOrT {A B : Prop} [Decidable A] [Decidable B] (h : A) : true = decide (A ∨ B) := by simp [h]
theorem dJ {v : Value} {a b : Bool} (h : v = .bool a) (e : a = b := by first | rfl | exact dAnd (by assumption) | exact dAndF (by assumption) | exact dOr (by assumption) | exact dOrT (by assumption)) : v = .bool b := e ▸ h
theorem isT {v : Value} {p : Prop} [Decidable p] (hv : v = .bool (decide p)) (h : p) : v = .bool true := by rw [hv, decide_eq_true h]
theorem isF {v : Value} {p : Prop} [Decidable p] (hv : v = .bool (decide p)) (h : ¬ p) : v = .bool false := by rw [hv, decide_eq_false h]
theorem isT' {v : Value} {b : Bool} (hv : v = .bool b) (h : b = true) : v = .bool true := by rw [hv, h]
theorem isF' {v : Value} {b : Bool} (hv : v = .bool b) (h : b = false) : v = .bool false := by rw [hv, h]
theorem noB {v : Value} {b : Bool} {c : Bool} (hv : v = .bool b) (h : (b == c) = false) : isB c v = false := by rw [hv]; exact h
theorem noU {v : Value} {c : Bool} (hv : v = undef) : isB c v = false := by rw [hv]; rfl
theorem O.cut (k : Nat) (J : Val → Val → Prop) {l : List Oper} (h1 : O P n ops (l.take k) (fun f' w' => J f f' ∧ w' = w) Z f w) (h2 : ∀ f', J f f' → O P n ops (l.drop k) N Z f' w) : O P n ops l N Z f w := by
 have key : ∀ (a b : List Oper) (M : Val → World → Prop) (x : Act) (u : World),
  wpList P ops.toArray (Ex n M (fun _ _ _ => False) (fun _ _ => False) Z) a x u → (∀ f' w', M f' w' → wpList P ops.toArray (Ex n N (fun _ _ _ => False) (fun _ _ => False) Z) b (Fr n f') w') →
  wpList P ops.toArray (Ex n N (fun _ _ _ => False) (fun _ _ => False) Z) (a ++ b) x u := by
  intro a b M
  induction a with
  | nil => intro x u h hm; obtain ⟨f', rfl, h⟩ := h; exact hm _ _ h
  | cons o a ih =>
    intro x u h hm
    simp only [wpList, List.cons_append] at h ⊢
    split at h
    ·rename_i hw
     rw [if_pos hw]
     rcases h with h | ⟨_, a0, w0, h0⟩
     ·left
      simp only [Oper.wp] at h ⊢
      generalize (execOp x.eval o).run P u = r at h ⊢
      cases r with
      | ok nx w' =>
        cases nx with
        | value v => exact ih _ _ h hm
        | skip => exact ih _ _ h hm
        | defer d => exact ih _ _ h hm
        | enter k args =>
          refine Calls.mono h ?_
          intro e w'' he
          cases e with
          | returned v => exact ih _ _ he hm
          | panicked ch => exact he
          | outgrown => obtain ⟨a0, w0, h0⟩ := he; exact h0.elim
        | row r args => exact Rows.mono h fun v w'' hv => ih _ _ hv hm
        | _ => exact h.elim
      | halt hh w' => cases hh <;> first | exact h | exact h.elim
     ·exact h0.elim
    ·rename_i hw
     rw [if_neg hw]
     exact ih _ _ h hm
 have := key (l.take k) (l.drop k) _ _ _ h1 (fun f' w' hm => by obtain ⟨hj, rfl⟩ := hm; exact h2 f' hj)
 rw [List.take_append_drop] at this
 exact this
end
end Go.Pn
end
section
namespace Go.Pn
open Go.RowKit
abbrev i64 (n : Int) : Value := .int .i64 n
def InI (n : Int) : Prop := -9223372036854775808 ≤ n ∧ n ≤ 9223372036854775807
def str (l : List UInt8) : Value := .string ⟨l.toArray⟩
theorem wrap_in {n : Int} (h : InI n) : IntKind.i64.wrap n = n := by
 unfold InI at h
 have e : IntKind.i64.wrap n = if (true && decide (n % 18446744073709551616 ≥ 9223372036854775808)) = true then n % 18446744073709551616 - 18446744073709551616 else n % 18446744073709551616 := rfl
 rw [e]
 by_cases h0 : 0 ≤ n
 ·rw [Int.emod_eq_of_lt h0 (by omega)]
  simp; omega
 ·have : n % 18446744073709551616 = n + 18446744073709551616 := by omega
  rw [this]
  simp; omega
theorem ofInt_nat {m : Nat} (x : BitVec m) : BitVec.ofInt m (x.toNat : Int) = x := by
 apply BitVec.eq_of_toNat_eq
 rw [BitVec.toNat_ofInt]
 have h := x.isLt
 have : ((x.toNat : Int) % ((2 ^ m : Nat) : Int)).toNat = x.toNat := by
  rw [Int.emod_eq_of_lt (by omega) (by exact_mod_cast h)]; omega
 exact this
theorem wrap_u {k : IntKind} {m : Nat} (hk : k.bits = m) (hs : k.signed = false) (n : Int) : k.wrap n = ((BitVec.ofInt m n).toNat : Int) := by
 subst hk
 simp only [IntKind.wrap, hs, Bool.false_and, Bool.false_eq_true, if_false, BitVec.toNat_ofInt]
 have h2 : (0 : Int) < 2 ^ k.bits := Int.pow_pos (by decide)
 have := Int.emod_nonneg n (Int.ne_of_gt h2)
 have e : ((2 ^ k.bits : Nat) : Int) = (2 : Int) ^ k.bits := by norm_cast
 rw [e]; omega
theorem wrap_u_nat {k : IntKind} {m : Nat} (hk : k.bits = m) (hs : k.signed = false) (x : BitVec m) : k.wrap (x.toNat : Int) = (x.toNat : Int) := by
 rw [wrap_u hk hs, ofInt_nat]
section
variable {P : Program} {n : Nat} {ops rest : List Oper} {N : Val → World → Prop} {Z : List PanicEntry → World → Prop} {f : Val} {w : World}
 {d : Nat} {x y : Operand} {t t' ty : TypeId} {pos : String} {after : Array Edge}
section
variable {a b : Int}
theorem O.addI (hx : ev n f x = i64 a) (hy : ev n f y = i64 b) (hb : InI (a + b)) (h : O P n ops rest N Z (upd f d (i64 (a + b))) w) :
 O P n ops (ZO d (.binOp .add t x y t') ty pos after :: rest) N Z f w :=
 O.val rfl rfl (by simp [execOp, hx, hy, eqGuard, binOp, Op.intArith, wrap_in hb]) h
theorem O.subI (hx : ev n f x = i64 a) (hy : ev n f y = i64 b) (hb : InI (a - b)) (h : O P n ops rest N Z (upd f d (i64 (a - b))) w) :
 O P n ops (ZO d (.binOp .sub t x y t') ty pos after :: rest) N Z f w :=
 O.val rfl rfl (by simp [execOp, hx, hy, eqGuard, binOp, Op.intArith, wrap_in hb]) h
theorem O.ad (hx : ev n f x = i64 a) (hy : ev n f y = i64 b) (h : O P n ops rest N Z (upd f d (i64 (a + b))) w) (hb : InI (a + b) := by unfold InI; omega) : O P n ops (ZO d (.binOp .add t x y t') ty pos after :: rest) N Z f w := O.addI hx hy hb h
theorem O.sb (hx : ev n f x = i64 a) (hy : ev n f y = i64 b) (h : O P n ops rest N Z (upd f d (i64 (a - b))) w) (hb : InI (a - b) := by unfold InI; omega) : O P n ops (ZO d (.binOp .sub t x y t') ty pos after :: rest) N Z f w := O.subI hx hy hb h
theorem O.mulI (hx : ev n f x = i64 a) (hy : ev n f y = i64 b) (hb : InI (a * b)) (h : O P n ops rest N Z (upd f d (i64 (a * b))) w) :
 O P n ops (ZO d (.binOp .mul t x y t') ty pos after :: rest) N Z f w :=
 O.val rfl rfl (by simp [execOp, hx, hy, eqGuard, binOp, Op.intArith, wrap_in hb]) h
theorem O.lssI (hx : ev n f x = i64 a) (hy : ev n f y = i64 b) (h : O P n ops rest N Z (upd f d (.bool (decide (a < b)))) w) :
 O P n ops (ZO d (.binOp .lss t x y t') ty pos after :: rest) N Z f w :=
 O.val rfl rfl (by simp [execOp, hx, hy, eqGuard, binOp, Op.intCmp]) h
theorem O.leqI (hx : ev n f x = i64 a) (hy : ev n f y = i64 b) (h : O P n ops rest N Z (upd f d (.bool (decide (a ≤ b)))) w) :
 O P n ops (ZO d (.binOp .leq t x y t') ty pos after :: rest) N Z f w :=
 O.val rfl rfl (by simp [execOp, hx, hy, eqGuard, binOp, Op.intCmp]) h
theorem O.gtrI (hx : ev n f x = i64 a) (hy : ev n f y = i64 b) (h : O P n ops rest N Z (upd f d (.bool (decide (b < a)))) w) :
 O P n ops (ZO d (.binOp .gtr t x y t') ty pos after :: rest) N Z f w :=
 O.val rfl rfl (by simp [execOp, hx, hy, eqGuard, binOp, Op.intCmp]) h
theorem O.geqI (hx : ev n f x = i64 a) (hy : ev n f y = i64 b) (h : O P n ops rest N Z (upd f d (.bool (decide (b ≤ a)))) w) :
 O P n ops (ZO d (.binOp .geq t x y t') ty pos after :: rest) N Z f w :=
 O.val rfl rfl (by simp [execOp, hx, hy, eqGuard, binOp, Op.intCmp]) h
theorem O.eqlI (hx : ev n f x = i64 a) (hy : ev n f y = i64 b) (h : O P n ops rest N Z (upd f d (.bool (decide (a = b)))) w) :
 O P n ops (ZO d (.binOp .eql t x y t') ty pos after :: rest) N Z f w :=
 O.val rfl rfl (by
  have e : (a == b) = decide (a = b) := by by_cases h : a = b <;> simp [h]
  simp [execOp, hx, hy, eqGuard, binOp, Op.intCmp, e]) h
theorem O.neqI (hx : ev n f x = i64 a) (hy : ev n f y = i64 b) (h : O P n ops rest N Z (upd f d (.bool (decide (a ≠ b)))) w) :
 O P n ops (ZO d (.binOp .neq t x y t') ty pos after :: rest) N Z f w :=
 O.val rfl rfl (by
  have e : (a != b) = decide (a ≠ b) := by by_cases h : a = b <;> simp [h]
  simp [execOp, hx, hy, eqGuard, binOp, Op.intCmp, e]) h
end
theorem i64_eq {a b : Int} (h : a = b) : i64 a = i64 b := by rw [h]
section
variable {k : IntKind} {m : Nat} {a b : BitVec m}
theorem O.andU (hk : k.bits = m) (hs : k.signed = false) (hx : ev n f x = .int k (a.toNat : Int)) (hy : ev n f y = .int k (b.toNat : Int)) (h : O P n ops rest N Z (upd f d (.int k ((a &&& b).toNat : Int))) w) :
 O P n ops (ZO d (.binOp .and t x y t') ty pos after :: rest) N Z f w :=
 O.val rfl rfl (by
  subst hk
  simp only [execOp, hx, hy, eqGuard, binOp, Op.intBits, ofInt_nat, wrap_u_nat rfl hs, ne_eq, not_true_eq_false, ↓reduceIte]
  rfl) h
theorem O.orU (hk : k.bits = m) (hs : k.signed = false) (hx : ev n f x = .int k (a.toNat : Int)) (hy : ev n f y = .int k (b.toNat : Int)) (h : O P n ops rest N Z (upd f d (.int k ((a ||| b).toNat : Int))) w) :
 O P n ops (ZO d (.binOp .or t x y t') ty pos after :: rest) N Z f w :=
 O.val rfl rfl (by
  subst hk
  simp only [execOp, hx, hy, eqGuard, binOp, Op.intBits, ofInt_nat, wrap_u_nat rfl hs, ne_eq, not_true_eq_false, ↓reduceIte]
  rfl) h
theorem O.andNotU (hk : k.bits = m) (hs : k.signed = false) (hx : ev n f x = .int k (a.toNat : Int)) (hy : ev n f y = .int k (b.toNat : Int)) (h : O P n ops rest N Z (upd f d (.int k ((a &&& ~~~b).toNat : Int))) w) :
 O P n ops (ZO d (.binOp .andNot t x y t') ty pos after :: rest) N Z f w :=
 O.val rfl rfl (by
  subst hk
  simp only [execOp, hx, hy, eqGuard, binOp, Op.intBits, ofInt_nat, wrap_u_nat rfl hs, ne_eq, not_true_eq_false, ↓reduceIte]
  rfl) h
theorem O.shrU {ky : IntKind} {c : Nat} (hk : k.bits = m) (hs : k.signed = false) (hx : ev n f x = .int k (a.toNat : Int)) (hy : ev n f y = .int ky (c : Int)) (h : O P n ops rest N Z (upd f d (.int k ((a >>> c).toNat : Int))) w) :
 O P n ops (ZO d (.binOp .shr t x y t') ty pos after :: rest) N Z f w :=
 O.val rfl rfl (by
  have h1 : ¬ ((c : Int) < 0) := by omega
  have e : ((a.toNat : Int).fdiv (2 ^ (min ((c : Int).toNat) k.bits))) = ((a >>> c).toNat : Int) := by
   have _ := hs
   rw [hk, Int.toNat_natCast, BitVec.toNat_ushiftRight, Nat.shiftRight_eq_div_pow]
   have e2 : ((2 : Int) ^ (min c m)) = ((2 ^ (min c m) : Nat) : Int) := by norm_cast
   rw [e2, Int.fdiv_eq_ediv_of_nonneg _ (Int.natCast_nonneg _), ← Int.natCast_ediv]
   by_cases hc : c ≤ m
   ·rw [Nat.min_eq_left hc]
   ·have hc' : m ≤ c := by omega
    have hlt := a.isLt
    rw [Nat.min_eq_right hc', Nat.div_eq_of_lt hlt, Nat.div_eq_of_lt]
    exact Nat.lt_of_lt_of_le hlt (Nat.pow_le_pow_right (by decide) hc')
  simp only [execOp, hx, hy, eqGuard, binOp, Op.shift, if_neg h1, e]
  rfl) h
theorem O.notU (hk : k.bits = m) (hs : k.signed = false) (hx : ev n f x = .int k (a.toNat : Int)) (h : O P n ops rest N Z (upd f d (.int k ((~~~a).toNat : Int))) w) :
 O P n ops (ZO d (.unOp .xor t x) ty pos after :: rest) N Z f w :=
 O.val rfl rfl (by
  subst hk
  have e : BitVec.ofInt k.bits k.max = BitVec.allOnes k.bits := by
   cases k <;> first | rfl | (simp [IntKind.signed] at hs)
  have e2 : BitVec.allOnes k.bits ^^^ a = ~~~a := by simp
  simp only [execOp, hx, Op.unary, Op.intBits, hs, Bool.false_eq_true, if_false, ofInt_nat, e, e2, wrap_u_nat rfl hs]
  rfl) h
theorem O.lssU (hx : ev n f x = .int k (a.toNat : Int)) (hy : ev n f y = .int k (b.toNat : Int)) (h : O P n ops rest N Z (upd f d (.bool (decide (a < b)))) w) :
 O P n ops (ZO d (.binOp .lss t x y t') ty pos after :: rest) N Z f w :=
 O.val rfl rfl (by simp [execOp, hx, hy, eqGuard, binOp, Op.intCmp, BitVec.lt_def]) h
theorem O.gtrU (hx : ev n f x = .int k (a.toNat : Int)) (hy : ev n f y = .int k (b.toNat : Int)) (h : O P n ops rest N Z (upd f d (.bool (decide (b < a)))) w) :
 O P n ops (ZO d (.binOp .gtr t x y t') ty pos after :: rest) N Z f w :=
 O.val rfl rfl (by simp [execOp, hx, hy, eqGuard, binOp, Op.intCmp, BitVec.lt_def]) h
theorem O.eqlU (hx : ev n f x = .int k (a.toNat : Int)) (hy : ev n f y = .int k (b.toNat : Int)) (h : O P n ops rest N Z (upd f d (.bool (decide (a = b)))) w) :
 O P n ops (ZO d (.binOp .eql t x y t') ty pos after :: rest) N Z f w :=
 O.val rfl rfl (by
  have e : ((a.toNat : Int) == (b.toNat : Int)) = decide (a = b) := by
   by_cases h : a = b
   ·simp [h]
   ·have h2 : a.toNat ≠ b.toNat := fun h' => h (BitVec.eq_of_toNat_eq h')
    simp [h]; omega
  simp [execOp, hx, hy, eqGuard, binOp, Op.intCmp, e]) h
theorem O.neqU (hx : ev n f x = .int k (a.toNat : Int)) (hy : ev n f y = .int k (b.toNat : Int)) (h : O P n ops rest N Z (upd f d (.bool (decide (a ≠ b)))) w) :
 O P n ops (ZO d (.binOp .neq t x y t') ty pos after :: rest) N Z f w :=
 O.val rfl rfl (by
  have e : ((a.toNat : Int) != (b.toNat : Int)) = decide (a ≠ b) := by
   by_cases h : a = b
   ·simp [h]
   ·have h2 : a.toNat ≠ b.toNat := fun h' => h (BitVec.eq_of_toNat_eq h')
    simp [h]; omega
  simp [execOp, hx, hy, eqGuard, binOp, Op.intCmp, e]) h
end
section
variable {k k' : IntKind} {m m' : Nat}
theorem O.convU64I {a : BitVec 64} (ht : P.underlying t = some (.int .u64)) (ht' : P.underlying t' = some (.int .i64)) (hx : ev n f x = .int .u64 (a.toNat : Int))
 (h : O P n ops rest N Z (upd f d (i64 a.toInt)) w) :
 O P n ops (ZO d (.convert t t' x) ty pos after :: rest) N Z f w :=
 O.val rfl rfl (by
  have e : IntKind.i64.wrap (a.toNat : Int) = a.toInt := by
   have h1 := a.isLt
   have e : IntKind.i64.wrap (a.toNat : Int) = if (true && decide ((a.toNat : Int) % 18446744073709551616 ≥ 9223372036854775808)) = true then (a.toNat : Int) % 18446744073709551616 - 18446744073709551616 else (a.toNat : Int) % 18446744073709551616 := rfl
   have e64' : ((2 ^ 64 : Nat) : Int) = 18446744073709551616 := by decide
   rw [e, BitVec.toInt_eq_toNat_cond, e64', Int.emod_eq_of_lt (by omega) (by omega)]
   by_cases h2 : 2 * a.toNat < 2 ^ 64
   ·rw [if_pos h2, if_neg (by simp; omega)]
   ·rw [if_neg h2, if_pos (by simp; omega)]
  simp [execOp, hx, convert, run_underlying ht, run_underlying ht', Conv.intToInt, e]) h
theorem O.convIU {a : Int} (ht : P.underlying t = some (.int .i64)) (ht' : P.underlying t' = some (.int k')) (hk' : k'.bits = m') (hs' : k'.signed = false) (hx : ev n f x = i64 a)
 (h : O P n ops rest N Z (upd f d (.int k' ((BitVec.ofInt m' a).toNat : Int))) w) :
 O P n ops (ZO d (.convert t t' x) ty pos after :: rest) N Z f w :=
 O.val rfl rfl (by
  simp [execOp, hx, convert, run_underlying ht, run_underlying ht', Conv.intToInt, wrap_u hk' hs']) h
end
theorem run_bin {op : BinOp} {a b v : Value} (hx : ev n f x = a) (hy : ev n f y = b) (hg : (eqGuard op t x y a b).run P w = .ok () w) (h : (binOp op t a b).run P w = .ok v w) (dst : Option Tmp) (g : Option (Nat × Bool)) :
 (execOp (ev n f) { dst := dst, op := .binOp op t x y t', type := ty, pos := pos, after := after, guard := g }).run P w = .ok (.value v) w := by
 simp only [execOp, hx, hy, Sem.run_bind, hg, Result.andThen_ok, h]
 rfl
theorem toList_mk (l : List UInt8) : (ByteArray.mk l.toArray).toList = l := ByteArray.toList_mk l
section
variable {a b : List UInt8}
theorem O.eqlS (hx : ev n f x = str a) (hy : ev n f y = str b) (h : O P n ops rest N Z (upd f d (.bool (decide (a = b)))) w) :
 O P n ops (ZO d (.binOp .eql t x y t') ty pos after :: rest) N Z f w :=
 O.val rfl rfl (by
  have e : (a == b) = decide (a = b) := by by_cases h : a = b <;> simp [h]
  simp only [execOp, hx, hy, str, eqGuard, binOp, Op.stringOp, toList_mk, e]
  simp) h
theorem O.lenS (ht : P.underlying t = some .string) (hx : ev n f x = str a) (h : O P n ops rest N Z (upd f d (i64 a.length)) w) :
 O P n ops (ZO d (.call { callee := .builtin .len, args := [x].toArray, argTypes := [t].toArray }) ty pos after :: rest) N Z f w :=
 O.val rfl rfl (by
  have e : ByteArray.size ⟨a.toArray⟩ = a.length := by simp [ByteArray.size]
  simp [execOp, resolve, invoke, builtin, hx, Builtin.len_, run_underlying ht, str, goInt, e]) h
theorem O.lenL {l : Option Addr} {k c : Nat} {e : TypeId} (ht : P.underlying t = some (.slice e)) (hx : ev n f x = .slice l k c) (h : O P n ops rest N Z (upd f d (i64 k)) w) :
 O P n ops (ZO d (.call { callee := .builtin .len, args := [x].toArray, argTypes := [t].toArray }) ty pos after :: rest) N Z f w :=
 O.val rfl rfl (by
  simp [execOp, resolve, invoke, builtin, hx, Builtin.len_, run_underlying ht, goInt]) h
end
end
end Go.Pn
end
section
namespace Go.Pn
open Go.RowKit
structure Ext (M : Nat → Prop) (w w' : World) : Prop where
 os : w'.os = w.os
 tape : w'.tape = w.tape
 output : w'.output = w.output
 size : w.heap.size ≤ w'.heap.size
 block : ∀ k, k < w.heap.size → ¬ M k → w'.heap[k]? = w.heap[k]?
abbrev Le (w w' : World) : Prop := Ext (fun _ => False) w w'
theorem Ext.refl (M : Nat → Prop) (w : World) : Ext M w w := ⟨rfl, rfl, rfl, Nat.le_refl _, fun _ _ _ => rfl⟩
theorem Le.refl (w : World) : Le w w := Ext.refl _ w
theorem Ext.trans {M : Nat → Prop} {a b c : World} (h : Ext M a b) (k : Ext M b c) : Ext M a c :=
 ⟨k.os.trans h.os, k.tape.trans h.tape, k.output.trans h.output, Nat.le_trans h.size k.size, fun i hi hm => (k.block i (Nat.lt_of_lt_of_le hi h.size) hm).trans (h.block i hi hm)⟩
theorem Ext.mono {M M' : Nat → Prop} {a b : World} (h : Ext M a b) (hm : ∀ k, k < a.heap.size → M k → M' k) : Ext M' a b :=
 ⟨h.os, h.tape, h.output, h.size, fun i hi hn => h.block i hi fun hk => hn (hm i hi hk)⟩
theorem Ext.new {M M' : Nat → Prop} {a b c : World} (h : Ext M a b) (k : Ext M' b c) (hm : ∀ i, i < a.heap.size → M' i → M i) : Ext M a c :=
 ⟨k.os.trans h.os, k.tape.trans h.tape, k.output.trans h.output, Nat.le_trans h.size k.size, fun i hi hn => (k.block i (Nat.lt_of_lt_of_le hi h.size) fun hk => hn (hm i hi hk)).trans (h.block i hi hn)⟩
theorem Ext.nt {M' : Nat → Prop} {a b c : World} (h : Ext (fun _ => True) a b) (k : Ext M' b c) : Ext (fun _ => True) a c := Ext.new h k fun _ _ _ => trivial
theorem Ext.nw {M M' : Nat → Prop} {a b c : World} (h : Ext M a b) (k : Ext M' b c) (hm : ∀ i, i < a.heap.size → M' i → M i := by intro i hi hk; first | exact hk.elim | ((try dsimp only at hk); (try dsimp only); omega)) : Ext M a c := Ext.new h k hm
theorem Ext.nS {M' S : Nat → Prop} {b0 : Nat} {a b c : World} (h : Ext (fun j => j = b0 ∨ S j) a b) (k : Ext M' b c) (hm : ∀ i, i < a.heap.size → M' i → i = b0 ∨ S i := by intro i hi hk; first | exact hk.elim | exact .inl hk | exact .inr hk | exact hk) : Ext (fun j => j = b0 ∨ S j) a c := Ext.new h k hm
theorem Ext.nT {M M' : Nat → Prop} {a b c : World} (h : Ext M a b) (k : Ext M' b c) (hm : ∀ i, i < a.heap.size → M' i → M i := by intro i hi hk; first | exact hk.elim | exact hk) : Ext M a c := Ext.new h k hm
theorem Ext.nr {M M' : Nat → Prop} {a b c : World} (h : Ext M a b) (k : Ext M' b c) (hm : ∀ i, i < a.heap.size → M' i → M i := by rintro i hi rfl; omega) : Ext M a c := Ext.new h k hm
theorem Le.trans {a b c : World} (h : Le a b) (k : Le b c) : Le a c := Ext.trans h k
theorem Le.drew (w : World) : Le w w.drew := ⟨rfl, rfl, rfl, Nat.le_refl _, fun _ _ _ => rfl⟩
theorem Le.drewN (w : World) (n : Nat) : Le w { w with drawn := w.drawn + n } := ⟨rfl, rfl, rfl, Nat.le_refl _, fun _ _ _ => rfl⟩
theorem Le.alloc (w : World) (o : Obj) : Le w (w.alloc o) := ⟨rfl, rfl, rfl, by simp, fun k hk _ => Below.heap_alloc _ _ _ hk⟩
theorem Ext.set (w : World) (a : Addr) (v : Value) : Ext (fun k => k = a.block) w (w.setCell a v) :=
 ⟨rfl, rfl, rfl, by simp, fun k _ hn => Below.heap_setCell _ _ _ _ hn⟩
theorem Ext.lt {M : Nat → Prop} {a b : World} (h : Ext M a b) {k : Nat} (hk : k < a.heap.size) : k < b.heap.size := Nat.lt_of_lt_of_le hk h.size
def CellIs (w : World) (b : Nat) (v : Value) : Prop := w.cell? ⟨b, 0, none⟩ = some v
theorem CellIs.lt {w : World} {b : Nat} {v : Value} (h : CellIs w b v) : b < w.heap.size := World.block_lt_of_cell? w _ h
theorem CellIs.keepM {M : Nat → Prop} {w w' : World} {b : Nat} {v : Value} (h : CellIs w b v) (e : Ext M w w') (hM : ¬ M b) : CellIs w' b v := by
 have := e.block b h.lt hM
 unfold CellIs at h ⊢
 rw [← h]
 simp only [World.cell?, this]
theorem CellIs.keepO {M : Nat → Prop} {w w' : World} {b : Nat} {v : Value} (h : CellIs w b v) (e : Ext M w w') (hM : ¬ M b := by intro h; (try dsimp only at h); omega) : CellIs w' b v := CellIs.keepM h e hM
theorem CellIs.keep {w w' : World} {b : Nat} {v : Value} (h : CellIs w b v) (e : Le w w') : CellIs w' b v := h.keepM e not_false
structure Enc (α : Type) where
 sz : Nat
 rep : World → (Nat → Prop) → List Value → α → Prop
 len : ∀ {w F cs x}, rep w F cs x → cs.length = sz
 one : ∀ {w F cs x}, rep w F cs x → ∀ c ∈ cs, c.oneCell' = true
 ext : ∀ {w w' F cs x}, rep w F cs x → (∀ k, F k → k < w.heap.size → w'.heap[k]? = w.heap[k]?) → rep w' F cs x
 weak : ∀ {w F F' cs x}, rep w F cs x → (∀ k, F k → F' k) → rep w F' cs x
def Enc.flat {α : Type} (sz : Nat) (e : α → List Value) (hl : ∀ x, (e x).length = sz) (ho : ∀ x, ∀ c ∈ e x, c.oneCell' = true) : Enc α where
 sz := sz
 rep := fun _ _ cs x => cs = e x
 len := by rintro w F cs x rfl; exact hl x
 one := by rintro w F cs x rfl; exact ho x
 ext := fun h _ => h
 weak := fun h _ => h
def At {α : Type} (E : Enc α) (w : World) (F : Nat → Prop) (a : Addr) (x : α) : Prop :=
 ∃ b off cur ty fr, a = ⟨b, off, none⟩ ∧ F b ∧ w.heap[b]? = some (.cells cur ty fr) ∧ off + E.sz ≤ cur.size ∧ E.rep w F ((cur.toList.drop off).take E.sz) x
def Sl {α : Type} (E : Enc α) (w : World) (F : Nat → Prop) (v : Value) (xs : List α) : Prop :=
 xs.length ≤ maxLen ∧
 ((∃ a, v = .slice a 0 0 ∧ xs = []) ∨
  ∃ b off cap cur ty fr, v = .slice (some ⟨b, off, none⟩) xs.length cap ∧ F b ∧ w.heap[b]? = some (.cells cur ty fr) ∧ xs.length ≤ cap ∧ cap ≤ maxLen ∧ (0 < xs.length → off + cap * E.sz ≤ cur.size) ∧
   ∀ i (h : i < xs.length), E.rep w F ((cur.toList.drop (off + i * E.sz)).take E.sz) xs[i])
section
variable {α : Type} {E : Enc α} {w w' : World} {F F' : Nat → Prop} {v : Value} {xs : List α} {a : Addr} {x : α}
theorem lt_of_some {w : World} {b : Nat} {o : Obj} (h : w.heap[b]? = some o) : b < w.heap.size := (Array.getElem?_eq_some_iff.1 h).1
theorem At.ext (h : At E w F a x) (hw : ∀ k, F k → k < w.heap.size → w'.heap[k]? = w.heap[k]?) : At E w' F a x := by
 obtain ⟨b, off, cur, ty, fr, rfl, hF, hb, hs, hr⟩ := h
 exact ⟨b, off, cur, ty, fr, rfl, hF, (hw b hF (lt_of_some hb)).trans hb, hs, E.ext hr hw⟩
theorem At.keep (h : At E w F a x) (e : Le w w') : At E w' F a x := h.ext fun k _ hk => e.block k hk not_false
theorem At.keepM {M : Nat → Prop} (h : At E w F a x) (e : Ext M w w') (hM : ∀ k, F k → ¬ M k) : At E w' F a x := h.ext fun k hF hk => e.block k hk (hM k hF)
theorem At.keepA {M : Nat → Prop} (h : At E w F a x) (e : Ext M w w') (hM : ∀ k, F k → ¬ M k := by intro k hk h; first | (have q := hF k hk; (try dsimp only at h); omega) | (have q := hF2 k hk; (try dsimp only at h); omega) | (have q := hFb k hk; (try dsimp only at h); omega) | ((try dsimp only at hk); (try dsimp only at h); omega)) : At E w' F a x := At.keepM h e hM
theorem At.weak (h : At E w F a x) (hF' : ∀ k, F k → F' k) : At E w F' a x := by
 obtain ⟨b, off, cur, ty, fr, rfl, hF, hb, hs, hr⟩ := h
 exact ⟨b, off, cur, ty, fr, rfl, hF' _ hF, hb, hs, E.weak hr hF'⟩
theorem At.weakA (h : At E w F a x) (hF' : ∀ k, F k → F' k := by intro q hq; (try dsimp only at hq); (try dsimp only); omega) : At E w F' a x := At.weak h hF'
theorem Sl.ext (h : Sl E w F v xs) (hw : ∀ k, F k → k < w.heap.size → w'.heap[k]? = w.heap[k]?) : Sl E w' F v xs := by
 refine ⟨h.1, ?_⟩
 rcases h.2 with h | ⟨b, off, cap, cur, ty, fr, rfl, hF, hb, h1, h2, h3, hr⟩
 ·exact .inl h
 ·exact .inr ⟨b, off, cap, cur, ty, fr, rfl, hF, (hw b hF (lt_of_some hb)).trans hb, h1, h2, h3, fun i hi => E.ext (hr i hi) hw⟩
theorem Sl.weak (h : Sl E w F v xs) (hF' : ∀ k, F k → F' k) : Sl E w F' v xs := by
 refine ⟨h.1, ?_⟩
 rcases h.2 with h | ⟨b, off, cap, cur, ty, fr, rfl, hF, hb, h1, h2, h3, hr⟩
 ·exact .inl h
 ·exact .inr ⟨b, off, cap, cur, ty, fr, rfl, hF' _ hF, hb, h1, h2, h3, fun i hi => E.weak (hr i hi) hF'⟩
theorem Sl.weakA (h : Sl E w F v xs) (hF' : ∀ k, F k → F' k := by intro q hq; (try dsimp only at hq); (try dsimp only); omega) : Sl E w F' v xs := Sl.weak h hF'
theorem Sl.keep (h : Sl E w F v xs) (e : Le w w') : Sl E w' F v xs := h.ext fun k _ hk => e.block k hk not_false
theorem Sl.keepM {M : Nat → Prop} (h : Sl E w F v xs) (e : Ext M w w') (hM : ∀ k, F k → ¬ M k) : Sl E w' F v xs := h.ext fun k hF hk => e.block k hk (hM k hF)
theorem Sl.keepA {M : Nat → Prop} (h : Sl E w F v xs) (e : Ext M w w') (hM : ∀ k, F k → ¬ M k := by intro k hk h; first | (have q := hF k hk; (try dsimp only at h); omega) | (have q := hF2 k hk; (try dsimp only at h); omega) | (have q := hFb k hk; (try dsimp only at h); omega) | ((try dsimp only at hk); (try dsimp only at h); omega)) : Sl E w' F v xs := Sl.keepM h e hM
theorem Sl.le (h : Sl E w F v xs) : xs.length ≤ 9223372036854775807 := by have := h.1; unfold maxLen at this; omega
theorem Sl.nil (E : Enc α) (w : World) (F : Nat → Prop) : Sl E w F (.slice none 0 0) [] := ⟨by simp, .inl ⟨_, rfl, rfl⟩⟩
theorem Sl.val (h : Sl E w F v xs) : ∃ l cap, v = .slice l xs.length cap ∧ xs.length ≤ cap := by
 rcases h.2 with ⟨a0, rfl, rfl⟩ | ⟨b, off, cap, cur, ty, fr, rfl, _, _, h1, _⟩
 ·exact ⟨_, _, rfl, Nat.le_refl _⟩
 ·exact ⟨_, _, rfl, h1⟩
theorem Addr.add_none (b off k : Nat) : (⟨b, off, none⟩ : Addr).add k = ⟨b, off + k, none⟩ := by
 unfold Addr.add; split <;> simp_all
theorem Sl.elem (h : Sl E w F v xs) {i : Nat} (hi : i < xs.length) : ∃ b off cap, v = .slice (some ⟨b, off, none⟩) xs.length cap ∧ At E w F ⟨b, off + i * E.sz, none⟩ xs[i] := by
 rcases h.2 with ⟨a0, rfl, rfl⟩ | ⟨b, off, cap, cur, ty, fr, rfl, hF, hb, h1, _, h3, hr⟩
 ·simp at hi
 ·refine ⟨b, off, cap, rfl, b, off + i * E.sz, cur, ty, fr, rfl, hF, hb, ?_, hr i hi⟩
  have : (i + 1) * E.sz ≤ cap * E.sz := Nat.mul_le_mul_right _ (by omega)
  rw [Nat.add_mul, Nat.one_mul] at this
  have h3 := h3 (by omega)
  omega
theorem At.cell1 (h : At E w F a x) (h1 : E.sz = 1) : ∃ v, w.cell? a = some v ∧ E.rep w F [v] x := by
 obtain ⟨b, off, cur, ty, fr, rfl, hF, hb, hs, hr⟩ := h
 rw [h1] at hs hr
 have hlt : off < cur.size := by omega
 refine ⟨cur[off], ?_, ?_⟩
 ·simp [World.cell?, hb, hlt]
 ·have : (cur.toList.drop off).take 1 = [cur[off]] := by
   rw [List.drop_eq_getElem_cons (by simpa using hlt)]
   simp
  rwa [this] at hr
end
section
variable {P : Program} {n : Nat} {ops rest : List Oper} {N : Val → World → Prop} {Z : List PanicEntry → World → Prop} {f : Val} {w : World}
 {d : Nat} {x y : Operand} {t t' ty : TypeId} {pos : String} {after : Array Edge} {α : Type} {E : Enc α} {F : Nat → Prop}
theorem run_sizeOf {e : TypeId} {i : TypeInfo} (hi : P.info? e = some i) : (sizeOf e).run P w = .ok i.size w := by
 simp [sizeOf, typeInfo, hi]
theorem O.idx {e : TypeId} {i : Int} {s : Nat} {v : Value} {xs : List α} (ht : P.underlying t = some (.slice e)) (hsz : ∀ w, (sizeOf e).run P w = .ok s w) (hs : E.sz = s) (hx : ev n f x = v) (hv : Sl E w F v xs)
 (hy : ev n f y = i64 i) (hi : 0 ≤ i ∧ i < xs.length) (h : ∀ a, At E w F a (xs[i.toNat]'(by omega)) → O P n ops rest N Z (upd f d (.pointer (some a))) w) :
 O P n ops (ZO d (.indexAddr t x y) ty pos after :: rest) N Z f w := by
 obtain ⟨b, off, cap, hval, hat⟩ := hv.elem (i := i.toNat) (by omega)
 refine O.val rfl rfl ?_ (h _ hat)
 have h3 : execOp (ev n f) (ZO d (.indexAddr t x y) ty pos after) = (do pure (.value (← Instr.indexAt t (ev n f x) (ev n f y)))) := rfl
 rw [h3, Sem.run_bind, hx, hy, hval]
 have h4 : (Instr.indexAt t (.slice (some ⟨b, off, none⟩) xs.length cap) (i64 i)).run P w = .ok (.pointer (some ⟨b, off + i.toNat * E.sz, none⟩)) w := by
  simp [Instr.indexAt, asIntOf, run_underlying ht, hi.1, hi.2, hsz, Addr.add_none, hs]
 rw [h4]
 rfl
theorem O.load1 {a : Addr} {z : α} (hag : ∀ w, (isAgg t).run P w = .ok false w) (h1 : E.sz = 1) (hx : ev n f x = .pointer (some a)) (ha : At E w F a z)
 (h : ∀ v, E.rep w F [v] z → O P n ops rest N Z (upd f d v) w) :
 O P n ops (ZO d (.load t x) ty pos after :: rest) N Z f w := by
 obtain ⟨v, hc, hr⟩ := ha.cell1 h1
 refine O.val rfl rfl ?_ (h v hr)
 have h3 : execOp (ev n f) (ZO d (.load t x) ty pos after) = (do pure (.value (← Instr.loadAt t (ev n f x)))) := rfl
 rw [h3, Sem.run_bind, hx]
 have h4 : (Instr.loadAt t (.pointer (some a))).run P w = .ok v w := by
  simp [Instr.loadAt, Instr.sureAddr, loadVar, hag, hc]
 rw [h4]
 rfl
theorem O.len {e : TypeId} {v : Value} {xs : List α} (ht : P.underlying t = some (.slice e)) (hx : ev n f x = v) (hv : Sl E w F v xs) (h : O P n ops rest N Z (upd f d (i64 xs.length)) w) :
 O P n ops (ZO d (.call { callee := .builtin .len, args := [x].toArray, argTypes := [t].toArray }) ty pos after :: rest) N Z f w := by
 obtain ⟨l, cap, hval, _⟩ := hv.val
 exact O.lenL ht (hx.trans hval) h
end
def byteE : Enc UInt8 := Enc.flat 1 (fun x => [.int .u8 (x.toNat : Int)]) (fun _ => rfl) (by simp [Value.oneCell'])
theorem byteE.inv {w : World} {F : Nat → Prop} {v : Value} {x : UInt8} (h : byteE.rep w F [v] x) : v = .int .u8 (x.toNat : Int) := by
 have : [v] = [Value.int .u8 (x.toNat : Int)] := h
 simpa using this
def u32E : Enc (BitVec 32) := Enc.flat 1 (fun x => [.int .u32 (x.toNat : Int)]) (fun _ => rfl) (by simp [Value.oneCell'])
theorem u32E.inv {w : World} {F : Nat → Prop} {v : Value} {x : BitVec 32} (h : u32E.rep w F [v] x) : v = .int .u32 (x.toNat : Int) := by
 have : [v] = [Value.int .u32 (x.toNat : Int)] := h
 simpa using this
section
variable {P : Program} {n : Nat} {ops rest : List Oper} {N : Val → World → Prop} {Z : List PanicEntry → World → Prop} {f : Val} {w : World}
 {d : Nat} {x y : Operand} {t t' ty : TypeId} {pos : String} {after : Array Edge} {F : Nat → Prop}
theorem O.loadB {a : Addr} {z : UInt8} (hag : ∀ w, (isAgg t).run P w = .ok false w) (hx : ev n f x = .pointer (some a)) (ha : At byteE w F a z)
 (h : O P n ops rest N Z (upd f d (.int .u8 (z.toBitVec.toNat : Int))) w) :
 O P n ops (ZO d (.load t x) ty pos after :: rest) N Z f w :=
 O.load1 hag rfl hx ha fun v hv => by rw [byteE.inv hv]; exact h
end
end Go.Pn
end
section
namespace Go.Pn
open Go.RowKit
def Own0 (w : World) (b : Nat) (ty : TypeId) (cs : List Value) : Prop := w.heap[b]? = some (.cells cs.toArray ty (0, 0))
def Own (w : World) (b : Nat) (ty : TypeId) (cs : List Value) : Prop := ∃ fr : Nat × Nat, w.heap[b]? = some (.cells cs.toArray ty fr) ∧ (fr = (0, 0) ∨ fr = (cs.length, cs.length + 1))
section
variable {w w' : World} {b : Nat} {ty : TypeId} {cs : List Value}
theorem Own0.own (h : Own0 w b ty cs) : Own w b ty cs := ⟨_, h, .inl rfl⟩
theorem Own0.lt (h : Own0 w b ty cs) : b < w.heap.size := lt_of_some h
theorem Own0.keepM {M : Nat → Prop} (h : Own0 w b ty cs) (e : Ext M w w') (hM : ¬ M b) : Own0 w' b ty cs := (e.block b (lt_of_some h) hM).trans h
theorem Own0.keep (h : Own0 w b ty cs) (e : Le w w') : Own0 w' b ty cs := h.keepM e not_false
theorem Own.lt (h : Own w b ty cs) : b < w.heap.size := by obtain ⟨fr, h, _⟩ := h; exact lt_of_some h
theorem Own.keepM {M : Nat → Prop} (h : Own w b ty cs) (e : Ext M w w') (hM : ¬ M b) : Own w' b ty cs := by
 obtain ⟨fr, h, h2⟩ := h; exact ⟨fr, (e.block b (lt_of_some h) hM).trans h, h2⟩
theorem Own.keepO {M : Nat → Prop} (h : Own w b ty cs) (e : Ext M w w') (hM : ¬ M b := by intro h; (try dsimp only at h); omega) : Own w' b ty cs := h.keepM e hM
theorem Own.keep (h : Own w b ty cs) (e : Le w w') : Own w' b ty cs := h.keepM e not_false
theorem Own.cell (h : Own w b ty cs) {i : Nat} {v : Value} (hi : cs[i]? = some v) : w.cell? ⟨b, i, none⟩ = some v := by
 obtain ⟨fr, h, _⟩ := h
 unfold World.cell?
 rw [h]
 simpa using hi
theorem Own.free (h : Own w b ty cs) {i : Nat} (hi : i < cs.length) : w.frozen? ⟨b, i, none⟩ = false := by
 obtain ⟨fr, h, h2⟩ := h
 unfold World.frozen?
 rw [h]
 rcases h2 with rfl | rfl
 ·simp
 ·simp; omega
theorem heap_set (w : World) (b i : Nat) (v : Value) {cs : List Value} {ty : TypeId} {fr : Nat × Nat} (h : w.heap[b]? = some (.cells cs.toArray ty fr)) : (w.setCell ⟨b, i, none⟩ v).heap[b]? = some (.cells (cs.set i v).toArray ty fr) := by
 unfold World.setCell
 rw [Array.getElem?_modify, if_pos rfl, h]
 simp
theorem Own.set (h : Own w b ty cs) (i : Nat) (v : Value) : Own (w.setCell ⟨b, i, none⟩ v) b ty (cs.set i v) := by
 obtain ⟨fr, h, h2⟩ := h
 exact ⟨fr, heap_set w b i v h, by simpa using h2⟩
theorem Own0.set (h : Own0 w b ty cs) (i : Nat) (v : Value) : Own0 (w.setCell ⟨b, i, none⟩ v) b ty (cs.set i v) := heap_set w b i v h
theorem Own0.new (w : World) (ty : TypeId) (cs : List Value) : Own0 (w.alloc (.cells cs.toArray ty)) w.heap.size ty cs := by
 unfold Own0 World.alloc
 simp
end
structure Flat (α : Type) where
 sz : Nat
 e : α → List Value
 len : ∀ x, (e x).length = sz
 one : ∀ x, ∀ c ∈ e x, c.oneCell' = true
 pos : 0 < sz
def Flat.enc {α : Type} (E : Flat α) : Enc α := Enc.flat E.sz E.e E.len E.one
theorem Flat.length {α : Type} (E : Flat α) (xs : List α) : (xs.flatMap E.e).length = xs.length * E.sz := by
 induction xs with
 | nil => simp
 | cons x xs ih => simp [ih, E.len, Nat.add_mul, Nat.add_comm]
theorem Flat.seg {α : Type} (E : Flat α) (xs : List α) {i : Nat} (hi : i < xs.length) : ((xs.flatMap E.e).drop (i * E.sz)).take E.sz = E.e xs[i] := by
 induction xs generalizing i with
 | nil => simp at hi
 | cons x xs ih =>
   cases i with
   | zero =>
     simp only [Nat.zero_mul, List.drop_zero, List.flatMap_cons, List.getElem_cons_zero]
     rw [List.take_left' (E.len x)]
   | succ i =>
     have e1 : (i + 1) * E.sz = (E.e x).length + i * E.sz := by rw [E.len, Nat.add_mul]; omega
     rw [List.flatMap_cons, e1, List.drop_append, List.drop_eq_nil_of_le (by omega)]
     simp only [List.nil_append, Nat.add_sub_cancel_left, List.getElem_cons_succ]
     exact ih (by simpa using hi)
theorem Flat.ones {α : Type} (E : Flat α) (xs : List α) : ∀ c ∈ xs.flatMap E.e, c.oneCell' = true := by
 intro c hc
 obtain ⟨x, _, hx⟩ := List.mem_flatMap.1 hc
 exact E.one x c hx
theorem Flat.get {α : Type} (E : Flat α) (xs : List α) {j : Nat} {u : Value} (h : (xs.flatMap E.e)[j]? = some u) : ∃ (hi : j / E.sz < xs.length), (E.e (xs[j / E.sz]))[j % E.sz]? = some u := by
 have hj : j < (xs.flatMap E.e).length := by
  rcases Nat.lt_or_ge j (xs.flatMap E.e).length with h' | h'
  ·exact h'
  ·rw [List.getElem?_eq_none h'] at h; cases h
 rw [E.length] at hj
 have hi : j / E.sz < xs.length := Nat.div_lt_of_lt_mul (by rw [Nat.mul_comm]; exact hj)
 refine ⟨hi, ?_⟩
 rw [← E.seg xs hi, List.getElem?_take, if_pos (Nat.mod_lt _ E.pos), List.getElem?_drop, Nat.mul_comm, Nat.div_add_mod]
 exact h
def Row {α : Type} (E : Enc α) (w : World) (F : Nat → Prop) (b off : Nat) (xs : List α) : Prop :=
 ∃ cur ty fr, F b ∧ w.heap[b]? = some (.cells cur ty fr) ∧ off + xs.length * E.sz ≤ cur.size ∧ ∀ i (h : i < xs.length), E.rep w F ((cur.toList.drop (off + i * E.sz)).take E.sz) xs[i]
section
variable {α : Type} {E : Enc α} {G : Flat α} {w w' : World} {F F' : Nat → Prop} {v : Value} {xs : List α} {b off : Nat} {ty : TypeId} {cs : List Value}
theorem Row.keep (h : Row E w F b off xs) (e : Le w w') : Row E w' F b off xs := by
 obtain ⟨cur, ty, fr, hF, hb, hs, hr⟩ := h
 exact ⟨cur, ty, fr, hF, (e.block b (lt_of_some hb) not_false).trans hb, hs, fun i hi => E.ext (hr i hi) fun k _ hk => e.block k hk not_false⟩
theorem Row.keepM {M : Nat → Prop} (h : Row E w F b off xs) (e : Ext M w w') (hM : ∀ k, F k → ¬ M k) : Row E w' F b off xs := by
 obtain ⟨cur, ty, fr, hF, hb, hs, hr⟩ := h
 exact ⟨cur, ty, fr, hF, (e.block b (lt_of_some hb) (hM b hF)).trans hb, hs, fun i hi => E.ext (hr i hi) fun k hF hk => e.block k hk (hM k hF)⟩
theorem Row.keepA {M : Nat → Prop} (h : Row E w F b off xs) (e : Ext M w w') (hM : ∀ k, F k → ¬ M k := by intro k hk h; first | (have q := hF k hk; (try dsimp only at h); omega) | (have q := hF2 k hk; (try dsimp only at h); omega) | (have q := hFb k hk; (try dsimp only at h); omega) | ((try dsimp only at hk); (try dsimp only at h); omega)) : Row E w' F b off xs := Row.keepM h e hM
theorem Row.at (h : Row E w F b off xs) {i : Nat} (hi : i < xs.length) : At E w F ⟨b, off + i * E.sz, none⟩ xs[i] := by
 obtain ⟨cur, ty, fr, hF, hb, hs, hr⟩ := h
 refine ⟨b, off + i * E.sz, cur, ty, fr, rfl, hF, hb, ?_, hr i hi⟩
 have : (i + 1) * E.sz ≤ xs.length * E.sz := Nat.mul_le_mul_right _ (by omega)
 rw [Nat.add_mul, Nat.one_mul] at this
 omega
theorem Row.of_own (h : Own w b ty cs) (hcs : cs = xs.flatMap G.e) : Row G.enc w (fun k => k = b) b 0 xs := by
 obtain ⟨fr, hb, _⟩ := h
 refine ⟨_, ty, fr, rfl, hb, ?_, fun i hi => ?_⟩
 ·simp [hcs, G.length, Flat.enc, Enc.flat]
 ·show (_ : List Value) = G.e xs[i]
  simp only [hcs, Nat.zero_add]
  exact G.seg xs hi
theorem Sl.of_own {cap : Nat} (h : Own w b ty cs) (hcs : cs.take (xs.length * G.sz) = xs.flatMap G.e) (h1 : xs.length ≤ cap) (h2 : cap ≤ maxLen) (h3 : cap * G.sz ≤ cs.length) :
 Sl G.enc w (fun k => k = b) (.slice (some ⟨b, 0, none⟩) xs.length cap) xs := by
 obtain ⟨fr, hb, _⟩ := h
 refine ⟨by omega, .inr ⟨b, 0, cap, _, ty, fr, rfl, rfl, hb, h1, h2, ?_, fun i hi => ?_⟩⟩
 ·intro _
  show 0 + cap * G.sz ≤ _
  simpa using h3
 ·show (_ : List Value) = G.e xs[i]
  rw [← G.seg xs hi, ← hcs]
  show ((cs.drop (0 + i * G.sz)).take G.sz) = ((cs.take (xs.length * G.sz)).drop (i * G.sz)).take G.sz
  rw [Nat.zero_add, List.drop_take, List.take_take, Nat.min_eq_left]
  have : (i + 1) * G.sz ≤ xs.length * G.sz := Nat.mul_le_mul_right _ (by omega)
  rw [Nat.add_mul, Nat.one_mul] at this
  omega
theorem Sl.flat (h : Sl G.enc w F v xs) : (∃ a, v = .slice a 0 0 ∧ xs = []) ∨ ∃ b off cap, F b ∧ v = .slice (some ⟨b, off, none⟩) xs.length cap ∧ xs.length ≤ cap ∧ b < w.heap.size ∧ ∀ j u, (xs.flatMap G.e)[j]? = some u → w.cell? ⟨b, off + j, none⟩ = some u := by
 rcases h.2 with h | ⟨b, off, cap, cur, ty, fr, rfl, hF, hb, h1, h2, h3, hr⟩
 ·exact .inl h
 ·refine .inr ⟨b, off, cap, hF, rfl, h1, lt_of_some hb, fun j u hu => ?_⟩
  obtain ⟨hi, hu⟩ := G.get xs hu
  have hseg : (cur.toList.drop (off + (j / G.sz) * G.sz)).take G.sz = G.e (xs[j / G.sz]) := hr _ hi
  rw [← hseg, List.getElem?_take, if_pos (Nat.mod_lt _ G.pos), List.getElem?_drop, Nat.add_assoc, Nat.mul_comm, Nat.div_add_mod] at hu
  simp only [World.cell?, hb, Option.isSome_none, Bool.false_eq_true, if_false]
  simpa using hu
end
def OwnF {α : Type} (G : Flat α) (ty : TypeId) (B : Nat) (w : World) (v : Value) (xs : List α) : Prop := w.ownsRow B ty G.sz v xs.length (xs.flatMap G.e) ∧ xs.length ≤ maxLen
def bk : Value → Nat → Prop
 | .slice (some a) _ _, k => k = a.block
 | _, _ => False
section
variable {α : Type} {G : Flat α} {w w' : World} {F : Nat → Prop} {v : Value} {xs ys : List α} {b B : Nat} {ty : TypeId} {cs : List Value}
theorem OwnF.nil (G : Flat α) (ty : TypeId) (B : Nat) (w : World) : OwnF G ty B w (.slice none 0 0) [] := ⟨World.ownsRow_nil _ _ _ _, by simp⟩
theorem OwnF.bk_ge (h : OwnF G ty B w v xs) : ∀ k, bk v k → B ≤ k ∧ k < w.heap.size := by
 intro k hk
 cases v with
 | slice a n c =>
   cases a with
   | none => exact hk.elim
   | some a => simp only [bk] at hk; subst hk; exact h.1.lt _ rfl
 | _ => exact hk.elim
theorem OwnF.sl (h : OwnF G ty B w v xs) : Sl G.enc w (bk v) v xs := by
 refine ⟨h.2, ?_⟩
 rcases h.1.2 with ⟨rfl, h0⟩ | ⟨g, cap, cur, rfl, hb, hg, hn, hm, hs, ht⟩
 ·exact .inl ⟨_, rfl, List.eq_nil_of_length_eq_zero h0⟩
 ·refine .inr ⟨g, 0, cap, cur, ty, (0, 0), rfl, rfl, hg, hn, hm, ?_, fun i hi => ?_⟩
  ·intro _
   show 0 + cap * G.sz ≤ _
   omega
  ·show (_ : List Value) = G.e xs[i]
   rw [← G.seg xs hi, ← ht]
   show ((cur.toList.drop (0 + i * G.sz)).take G.sz) = ((cur.toList.take (xs.length * G.sz)).drop (i * G.sz)).take G.sz
   rw [Nat.zero_add, List.drop_take, List.take_take, Nat.min_eq_left]
   have : (i + 1) * G.sz ≤ xs.length * G.sz := Nat.mul_le_mul_right _ (by omega)
   rw [Nat.add_mul, Nat.one_mul] at this
   omega
theorem OwnF.keepM {M : Nat → Prop} (h : OwnF G ty B w v xs) (e : Ext M w w') (hM : ∀ k, bk v k → ¬ M k) : OwnF G ty B w' v xs := by
 refine ⟨⟨h.1.1, ?_⟩, h.2⟩
 rcases h.1.2 with hn | ⟨g, cap, cur, rfl, hb, hg, rest⟩
 ·exact .inl hn
 ·exact .inr ⟨g, cap, cur, rfl, hb, (e.block g (lt_of_some hg) (hM g rfl)).trans hg, rest⟩
theorem OwnF.keepA {M : Nat → Prop} (h : OwnF G ty B w v xs) (e : Ext M w w') (hM : ∀ k, bk v k → ¬ M k := by intro k hk h; first | (have q := hF k hk; (try dsimp only at h); omega) | (have q := hF2 k hk; (try dsimp only at h); omega) | (have q := hFb k hk; (try dsimp only at h); omega) | ((try dsimp only at hk); (try dsimp only at h); omega)) : OwnF G ty B w' v xs := OwnF.keepM h e hM
theorem OwnF.keep (h : OwnF G ty B w v xs) (e : Le w w') : OwnF G ty B w' v xs := h.keepM e fun _ _ => not_false
theorem OwnF.low {B' : Nat} (h : OwnF G ty B w v xs) (hB : B' ≤ B) : OwnF G ty B' w v xs := by
 refine ⟨⟨h.1.1, ?_⟩, h.2⟩
 rcases h.1.2 with hn | ⟨g, cap, cur, rfl, hb, rest⟩
 ·exact .inl hn
 ·exact .inr ⟨g, cap, cur, rfl, Nat.le_trans hB hb, rest⟩
theorem ext_of_grown {row : Option Nat} (h : w.grownBy w' row) : Ext (fun k => row = some k) w w' :=
 ⟨h.os, h.tape, h.output, h.size, fun k hk hn => h.block k hk fun e => hn e.symm⟩
theorem run_append_flat {P : Program} {t tr : TypeId} {i : TypeInfo} {z y : Value} (ht : P.underlying t = some (.slice ty)) (hi : P.info? ty = some i) (hz : i.zero = some z) (hsz : i.size = G.sz) (hzs : z.cells.size = G.sz)
 (hown : OwnF G ty B w v xs) (hy : Sl G.enc w F y ys) (hb : (xs.length + ys.length) * i.bytes ≤ 140737488355328) (hl : xs.length + ys.length ≤ maxLen) (hB : B ≤ w.heap.size) :
 ∃ v' w', (Builtin.append_ #[t, t] tr #[v, y]).run P w = .ok v' w' ∧ OwnF G ty B w' v' (xs ++ ys) ∧ Ext (bk v) w w' := by
 have hsome : (∃ a0, y = .slice a0 0 0 ∧ ys = [] ∧ a0 = none) ∨ ∃ a cap, y = .slice (some a) ys.length cap ∧ ∀ j u, (ys.flatMap G.e)[j]? = some u → w.cell? (a.add j) = some u := by
  rcases hy.flat with ⟨a0, rfl, rfl⟩ | ⟨b, off, cap, hF, rfl, hc, hlt, hcell⟩
  ·cases a0 with
   | none => exact .inl ⟨none, rfl, rfl, rfl⟩
   | some a => exact .inr ⟨a, 0, rfl, fun j u hu => by simp at hu⟩
  ·exact .inr ⟨⟨b, off, none⟩, cap, rfl, fun j u hu => by rw [Addr.add_none]; exact hcell j u hu⟩
 rcases hsome with ⟨a0, rfl, rfl, rfl⟩ | ⟨a, cap, rfl, hcell⟩
 ·refine ⟨v, w, run_append_owned_none (P := P) (w := w) B t tr ty i G.sz ht hi v xs.length _ hown.1, by simpa using hown, Ext.refl _ _⟩
 ·obtain ⟨v', w', hr, ho, hg, _⟩ := run_append_own (P := P) w B t tr ty i z G.sz i.bytes ht hi hz hsz rfl hzs G.pos v xs.length _ hown.1 a ys.length cap (ys.flatMap G.e) (G.length ys)
   hcell (G.ones ys) hl hb hB
  refine ⟨v', w', hr, ⟨?_, by simpa using hl⟩, (ext_of_grown hg).mono fun k _ hk => ?_⟩
  ·rw [List.flatMap_append, List.length_append]; exact ho
  ·cases v with
   | slice a n c =>
     cases a with
     | none => simp [Value.ownBlock] at hk
     | some a => simp only [Value.ownBlock, Option.some.injEq] at hk; exact hk.symm
   | _ => simp [Value.ownBlock] at hk
end
def byteF : Flat UInt8 := ⟨1, fun x => [.int .u8 (x.toNat : Int)], fun _ => rfl, by simp [Value.oneCell'], by decide⟩
theorem byteF_map (l : List UInt8) : l.flatMap byteF.e = l.map fun x => Value.int .u8 (x.toNat : Int) := by
 induction l with
 | nil => rfl
 | cons a l ih => rw [List.flatMap_cons, ih]; rfl
section
variable {P : Program} {n : Nat} {ops rest : List Oper} {N : Val → World → Prop} {Z : List PanicEntry → World → Prop} {f : Val} {w : World}
 {d : Nat} {x y : Operand} {t t' ty tr e : TypeId} {pos : String} {after : Array Edge} {α : Type} {E : Enc α} {G : Flat α} {F : Nat → Prop}
theorem O.alloc {z : Value} (hz : ∀ w, (zeroValue e).run P w = .ok z w)
 (h : ∀ b w', w.heap.size ≤ b → Own0 w' b e z.cells.toList → Le w w' → O P n ops rest N Z (upd f d (.pointer (some ⟨b, 0, none⟩))) w') :
 O P n ops (ZO d (.alloc e) tr pos after :: rest) N Z f w := by
 refine O.val rfl rfl ?_ (h w.heap.size (w.alloc (.cells z.cells e)) (Nat.le_refl _) (by simpa using Own0.new w e z.cells.toList) (Le.alloc _ _))
 have h3 : execOp (ev n f) (ZO d (.alloc e) tr pos after) = (do pure (.value (← Instr.alloc e true (.tuple #[])))) := rfl
 rw [h3, Sem.run_bind]
 have h4 : (Instr.alloc e true (.tuple #[])).run P w = .ok (.pointer (some ⟨w.heap.size, 0, none⟩)) (w.alloc (.cells z.cells e)) := by
  unfold Instr.alloc
  rw [Sem.run_bind, hz]
  rfl
 rw [h4]
 rfl
theorem O.box {v : Value} (hx : ev n f x = v)
 (h : ∀ b w', w.heap.size ≤ b → Own0 w' b e v.cells.toList → Le w w' → O P n ops rest N Z (upd f d (.pointer (some ⟨b, 0, none⟩))) w') :
 O P n ops (ZO d (.box e x) tr pos after :: rest) N Z f w := by
 refine O.val rfl rfl ?_ (h w.heap.size (w.alloc (.cells v.cells e)) (Nat.le_refl _) (by simpa using Own0.new w e v.cells.toList) (Le.alloc _ _))
 have h3 : execOp (ev n f) (ZO d (.box e x) tr pos after) = (do pure (.value (← Instr.box e (ev n f x)))) := rfl
 rw [h3, Sem.run_bind, hx]
 rfl
theorem O.store {b o : Nat} {cs : List Value} {v : Value} (hsz : ∀ w, (sizeOf t).run P w = .ok 1 w) (hx : ev n f x = .pointer (some ⟨b, o, none⟩)) (hy : ev n f y = v) (h1 : v.oneCell' = true) (ho : Own w b ty cs) (hlt : o < cs.length)
 (h : ∀ w', Own w' b ty (cs.set o v) → Ext (fun k => k = b) w w' → w'.heap.size = w.heap.size → O P n ops rest N Z f w') :
 O P n ops ({ dst := .none, op := .store t x y, type := tr, pos := pos, after := after, guard := .none } :: rest) N Z f w := by
 refine O.act rfl rfl ?_ (h (w.setCell ⟨b, o, none⟩ v) (ho.set o v) (Ext.set w ⟨b, o, none⟩ v) (by simp))
 have h3 : execOp (ev n f) { dst := .none, op := .store t x y, type := tr, pos := pos, after := after, guard := .none } = (do Instr.storeAt t (ev n f x) (ev n f y); pure .skip) := rfl
 rw [h3, Sem.run_bind, hx, hy]
 have hcells : v.cells = #[v] := by cases v <;> first | rfl | simp [Value.oneCell'] at h1
 have hc := ho.cell (i := o) (v := cs[o]) (by simp)
 have hf := ho.free hlt
 have h4 : (Instr.storeAt t (.pointer (some ⟨b, o, none⟩)) v).run P w = .ok () (w.setCell ⟨b, o, none⟩ v) := by
  simp [Instr.storeAt, Instr.sureAddr, storeVar, hsz, hcells, storeCells, Addr.add, run_store P w ⟨b, o, none⟩ v .plain h1, hc, hf]
 rw [h4]
 rfl
theorem O.loadO {b o : Nat} {cs : List Value} {v : Value} (hag : ∀ w, (isAgg t).run P w = .ok false w) (hx : ev n f x = .pointer (some ⟨b, o, none⟩)) (ho : Own w b ty cs) (hv : cs[o]? = some v) (h : O P n ops rest N Z (upd f d v) w) :
 O P n ops (ZO d (.load t x) tr pos after :: rest) N Z f w := by
 refine O.val rfl rfl ?_ h
 have h3 : execOp (ev n f) (ZO d (.load t x) tr pos after) = (do pure (.value (← Instr.loadAt t (ev n f x)))) := rfl
 rw [h3, Sem.run_bind, hx]
 have h4 : (Instr.loadAt t (.pointer (some ⟨b, o, none⟩))).run P w = .ok v w := by
  simp [Instr.loadAt, Instr.sureAddr, loadVar, hag, ho.cell hv]
 rw [h4]
 rfl
theorem O.lit {len : Nat} {parts : List (Nat × Operand)} {vs : List (Nat × Value)} {cells : Array Value} {ie : TypeInfo} {z : Value} (hu : P.underlying t = some (.slice e)) (hie : P.info? e = some ie) (hz : ie.zero = some z) (hsmall : ¬ len * ie.size > 2 ^ 24) (hpos : ¬ len * ie.size = 0)
 (hvs : parts.map (fun x => (x.1, ev n f x.2)) = vs)
 (hf : Instr.fill (fun i => some (i * ie.size, ie.size)) ((Array.range (len * ie.size)).map (z.cells[· % z.cells.size]!)) vs = some cells)
 (h : ∀ b w', w.heap.size ≤ b → Own0 w' b e cells.toList → Le w w' → O P n ops rest N Z (upd f d (.slice (some ⟨b, 0, none⟩) len len)) w') :
 O P n ops (ZO d (.buildSlice t len parts.toArray) tr pos after :: rest) N Z f w := by
 refine O.val rfl rfl ?_ (h w.heap.size (w.alloc (.cells cells e)) (Nat.le_refl _) (by simpa using Own0.new w e cells.toList) (Le.alloc _ _))
 have h3 : execOp (ev n f) (ZO d (.buildSlice t len parts.toArray) tr pos after) = (do pure (.value (← Instr.buildSlice t len (parts.toArray.map fun x => (x.1, ev n f x.2))))) := rfl
 rw [h3, Sem.run_bind, run_buildSlice w t e len _ cells ie z hu hie hz hsmall hpos (by simpa [hvs] using hf)]
 rfl
theorem O.lit0 {ie : TypeInfo} (hu : P.underlying t = some (.slice e)) (hie : P.info? e = some ie)
 (h : ∀ b w', w.heap.size ≤ b → Own0 w' b e [] → Le w w' → O P n ops rest N Z (upd f d (.slice (some ⟨b, 0, none⟩) 0 0)) w') :
 O P n ops (ZO d (.buildSlice t 0 #[]) tr pos after :: rest) N Z f w := by
 refine O.val rfl rfl ?_ (h w.heap.size (w.alloc (.cells #[] e)) (Nat.le_refl _) (Own0.new w e []) (Le.alloc _ _))
 have h3 : execOp (ev n f) (ZO d (.buildSlice t 0 #[]) tr pos after) = (do pure (.value (← Instr.buildSlice t 0 #[]))) := by simp [execOp]
 rw [h3, Sem.run_bind]
 have h4 : (Instr.buildSlice t 0 #[]).run P w = .ok (.slice (some ⟨w.heap.size, 0, none⟩) 0 0) (w.alloc (.cells #[] e)) := by
  unfold Instr.buildSlice
  rw [Sem.run_bind, run_underlying hu, Result.andThen_ok]
  simp only [Sem.run_bind, run_sizeOf hie, Result.andThen_ok, Nat.zero_mul]
  rw [if_neg (by decide), if_pos trivial]
  have e0 : ∀ z : Array Value, (Array.range 0).map (fun x => z[x % z.size]!) = #[] := fun z => by simp
  simp only [Sem.run_bind, Sem.run_pure, Result.andThen_ok, e0]
  rfl
 rw [h4]
 rfl
theorem O.strB {l : List UInt8} (ht : P.underlying t = some .string) (ht' : P.underlying t' = some (.slice e)) (he : P.underlying e = some (.int .u8)) (hx : ev n f x = str l) (hl : l.length ≤ maxLen)
 (h : ∀ b cap w', w.heap.size ≤ b → l.length ≤ cap → Own w' b e (l.flatMap byteF.e ++ List.replicate (cap - l.length) (.int .u8 0)) → Sl byteE w' (fun k => k = b) (.slice (some ⟨b, 0, none⟩) l.length cap) l → Le w w' →
   O P n ops rest N Z (upd f d (.slice (some ⟨b, 0, none⟩) l.length cap)) w') :
 O P n ops (ZO d (.convert t t' x) tr pos after :: rest) N Z f w := by
 have hsz : ByteArray.size ⟨l.toArray⟩ = l.length := by simp [ByteArray.size]
 obtain ⟨cap, hcap⟩ : ∃ cap, cap = (Question.appendCap l.length 0 e).cut (w.tape w.drawn (.appendCap l.length 0 e)) := ⟨_, rfl⟩
 have hc1 : l.length ≤ cap := by rw [hcap]; exact Nat.le_add_right _ _
 have hc2 : cap ≤ maxLen := by
  rw [hcap]
  have hlt := Nat.mod_lt (w.tape w.drawn (.appendCap l.length 0 e)) (show 0 < 2 ^ 63 - l.length by simp only [maxLen] at hl; omega)
  simp only [Question.cut, maxLen] at hl ⊢
  omega
 let cs : List Value := l.flatMap byteF.e ++ List.replicate (cap - l.length) (.int .u8 0)
 have hcs : cs.length = cap := by
  show (l.flatMap byteF.e ++ List.replicate (cap - l.length) (Value.int .u8 0)).length = cap
  rw [List.length_append, byteF.length, List.length_replicate]
  show l.length * 1 + _ = _
  omega
 let w1 : World := { w with drawn := w.drawn + 1 }
 let w2 : World := w1.alloc (.cells cs.toArray e)
 have hb2 : w2.heap[w.heap.size]? = some (.cells cs.toArray e) := by show (w.heap.push _)[w.heap.size]? = _; simp
 have hsh : w2.shape? w.heap.size = some (e, cs.length) := by simp [World.shape?, hb2]
 have harr : (Array.map (fun b : UInt8 => Value.int .u8 (b.toNat : Int)) l.toArray ++ Array.replicate (cap - l.length) (Value.int .u8 0)) = cs.toArray := by
  apply Array.toList_inj.1
  simp only [Array.toList_append, Array.toList_map, Array.toList_replicate]
  show _ = l.flatMap byteF.e ++ List.replicate (cap - l.length) (.int .u8 0)
  rw [byteF_map]
 have hconv : (Conv.stringToBytes e ⟨l.toArray⟩).run P w = .ok (.slice (some ⟨w.heap.size, 0, none⟩) l.length cap) (w2.freeze ⟨w.heap.size, cs.length, none⟩ 1) := by
  unfold Conv.stringToBytes
  rw [Sem.run_bind, run_choose, if_neg (by simp [Question.forced]), hsz, Result.andThen_ok, ← hcap]
  show Sem.run P (do let a ← newRow e (Array.map (fun b : UInt8 => Value.int .u8 (b.toNat : Int)) l.toArray ++ Array.replicate (cap - l.length) (.int .u8 0)); markStringish a; pure (Value.slice (some a) l.length cap)) w1 = _
  rw [harr, Sem.run_bind]
  have hn : (newRow e cs.toArray).run P w1 = .ok ⟨w.heap.size, 0, none⟩ w2 := rfl
  rw [hn, Result.andThen_ok, Sem.run_bind]
  have hm : (markStringish ⟨w.heap.size, 0, none⟩).run P w2 = .ok () (w2.freeze ⟨w.heap.size, cs.length, none⟩ 1) := by
   simp [markStringish, hsh]
  rw [hm, Result.andThen_ok]
  rfl
 have hblk : (w2.freeze ⟨w.heap.size, cs.length, none⟩ 1).heap[w.heap.size]? = some (.cells cs.toArray e (cs.length, cs.length + 1)) := by
  unfold World.freeze
  rw [if_neg (by decide)]
  show (w2.heap.modify w.heap.size _)[w.heap.size]? = _
  rw [Array.getElem?_modify, if_pos rfl, hb2]
  simp
 have hown : Own (w2.freeze ⟨w.heap.size, cs.length, none⟩ 1) w.heap.size e cs := ⟨_, hblk, .inr rfl⟩
 have hle : Le w (w2.freeze ⟨w.heap.size, cs.length, none⟩ 1) := by
  refine ⟨rfl, rfl, rfl, ?_, fun k hk _ => ?_⟩
  ·simp [World.freeze, w2, w1]
  ·unfold World.freeze
   rw [if_neg (by decide)]
   show (w2.heap.modify w.heap.size _)[k]? = _
   rw [Array.getElem?_modify, if_neg (by omega)]
   show (w.heap.push _)[k]? = _
   rw [Array.getElem?_push, if_neg (by omega)]
 refine O.val rfl rfl (w' := w2.freeze ⟨w.heap.size, cs.length, none⟩ 1) ?_ (h w.heap.size cap _ (Nat.le_refl _) hc1 hown ?_ hle)
 ·have h3 : execOp (ev n f) (ZO d (.convert t t' x) tr pos after) = (do pure (.value (← convert t t' (ev n f x)))) := rfl
  have h4 : (convert t t' (str l)).run P w = (Conv.stringToBytes e ⟨l.toArray⟩).run P w := by
   unfold convert
   rw [Sem.run_bind, run_underlying ht, Result.andThen_ok, Sem.run_bind, run_underlying ht', Result.andThen_ok]
   simp only [str]
   rw [Sem.run_bind, run_underlying he, Result.andThen_ok]
  rw [h3, Sem.run_bind, hx, h4, hconv]
  rfl
 ·refine Sl.of_own (G := byteF) hown ?_ hc1 hc2 ?_
  ·rw [← byteF.length l]
   exact List.take_left
  ·show cap * 1 ≤ cs.length
   omega
theorem O.appF {i : TypeInfo} {z v v2 : Value} {xs ys : List α} {B : Nat} (ht : P.underlying t = some (.slice e)) (hi : P.info? e = some i) (hz : i.zero = some z) (hsz : i.size = G.sz) (hzs : z.cells.size = G.sz)
 (hx : ev n f x = v) (hy : ev n f y = v2) (hown : OwnF G e B w v xs) (hv2 : Sl G.enc w F v2 ys) (hb : (xs.length + ys.length) * i.bytes ≤ 140737488355328) (hl : xs.length + ys.length ≤ maxLen) (hB : B ≤ w.heap.size)
 (h : ∀ v' w', OwnF G e B w' v' (xs ++ ys) → Ext (bk v) w w' → O P n ops rest N Z (upd f d v') w') :
 O P n ops (ZO d (.call { callee := .builtin .append, args := [x, y].toArray, argTypes := [t, t].toArray }) tr pos after :: rest) N Z f w := by
 obtain ⟨v', w', hr, ho, he⟩ := run_append_flat (P := P) (tr := tr) ht hi hz hsz hzs hown hv2 hb hl hB
 refine O.val rfl rfl ?_ (h v' w' ho he)
 have h3 : (execOp (ev n f) (ZO d (.call { callee := .builtin .append, args := [x, y].toArray, argTypes := [t, t].toArray }) tr pos after)).run P w = ((Builtin.append_ #[t, t] tr #[ev n f x, ev n f y]).run P w).andThen (fun v w => .ok (.value v) w) := by
  simp [execOp, resolve, invoke, builtin]
 rw [h3, hx, hy, hr]
 rfl
theorem O.mkF {i : TypeInfo} {z : Value} {zx : α} {m B : Nat} {k : IntKind} (ht : P.underlying t = some (.slice e)) (hi : P.info? e = some i) (hz : i.zero = some z) (hsz : i.size = G.sz) (hzx : z.cells.toList = G.e zx)
 (hx : ev n f x = .int k (m : Int)) (hy : ev n f y = .int k (m : Int)) (hb : i.bytes * m ≤ 281474976710656) (hm : m ≤ maxLen) (hB : B ≤ w.heap.size)
 (h : ∀ b w', w.heap.size ≤ b → Own0 w' b e ((List.replicate m zx).flatMap G.e) → OwnF G e B w' (.slice (some ⟨b, 0, none⟩) m m) (List.replicate m zx) → Le w w' → O P n ops rest N Z (upd f d (.slice (some ⟨b, 0, none⟩) m m)) w') :
 O P n ops (ZO d (.makeSlice t x y) tr pos after :: rest) N Z f w := by
 have hcells : (madeCells z.cells (m * G.sz)).toList = (List.replicate m zx).flatMap G.e := by
  apply List.ext_getElem?
  intro j
  have hzsz : z.cells.size = G.sz := by rw [← Array.length_toList, hzx, G.len]
  by_cases hj : j < m * G.sz
  ·have h1 : ((List.replicate m zx).flatMap G.e)[j]? = (G.e zx)[j % G.sz]? := by
    have hlt : j < ((List.replicate m zx).flatMap G.e).length := by rw [G.length]; simpa using hj
    obtain ⟨hi, hu⟩ := G.get (List.replicate m zx) (List.getElem?_eq_getElem hlt)
    rw [List.getElem?_eq_getElem hlt, ← hu]
    simp
   have hjm : j % G.sz < z.cells.size := by rw [hzsz]; exact Nat.mod_lt _ G.pos
   rw [h1, ← hzx]
   simp only [madeCells, Array.toList_map, Array.toList_range, List.getElem?_map, List.getElem?_range hj, Option.map_some, Array.getElem?_toList]
   rw [hzsz, getElem!_pos z.cells _ hjm, Array.getElem?_eq_getElem hjm]
  ·rw [List.getElem?_eq_none (by simp [size_madeCells]; omega), List.getElem?_eq_none (by rw [G.length]; simp; omega)]
 have hown : Own0 (w.alloc (.cells (madeCells z.cells (m * G.sz)) e)) w.heap.size e ((List.replicate m zx).flatMap G.e) := by
  have := Own0.new w e (madeCells z.cells (m * G.sz)).toList
  rwa [Array.toArray_toList, hcells] at this
 have hl : ((List.replicate m zx).flatMap G.e).length = m * G.sz := by rw [G.length]; simp
 refine O.val rfl rfl ?_ (h w.heap.size (w.alloc (.cells (madeCells z.cells (m * G.sz)) e)) (Nat.le_refl _) hown ?_ (Le.alloc _ _))
 ·have h3 : execOp (ev n f) (ZO d (.makeSlice t x y) tr pos after) = (do pure (.value (← Instr.makeSlice t (ev n f x) (ev n f y)))) := rfl
  have h63 : (m : Int) ≤ 9223372036854775807 := by have := hm; unfold maxLen at this; omega
  have hb' : (i.bytes : Int) * (m : Int) ≤ 281474976710656 := by
   have h : ((i.bytes * m : Nat) : Int) ≤ 281474976710656 := by omega
   rwa [Int.natCast_mul] at h
  rw [h3, Sem.run_bind, hx, hy, run_make (P := P) w t e i z ht hi hz k k m m (by omega) (Int.le_refl _) hb' h63]
  simp [hsz]
 ·refine ⟨⟨by simpa using G.length (List.replicate m zx), .inr ⟨w.heap.size, m, _, by simp, hB, hown, by simp, hm, ?_, ?_⟩⟩, by simpa using hm⟩
  ·simp [hl]
  ·show List.take ((List.replicate m zx).length * G.sz) _ = _
   rw [List.length_replicate, ← hl]
   exact List.take_length
end
theorem Own.part {α : Type} {G : Flat α} {w : World} {b : Nat} {ty : TypeId} {cs : List Value} {xs : List α} {off cap : Nat} (h : Own w b ty cs) (hcs : (cs.drop off).take (xs.length * G.sz) = xs.flatMap G.e) (h1 : xs.length ≤ cap) (h2 : cap ≤ maxLen) (h3 : off + cap * G.sz ≤ cs.length) :
 Sl G.enc w (fun k => k = b) (.slice (some ⟨b, off, none⟩) xs.length cap) xs := by
 obtain ⟨fr, hb, _⟩ := h
 refine ⟨by omega, .inr ⟨b, off, cap, _, ty, fr, rfl, rfl, hb, h1, h2, ?_, fun i hi => ?_⟩⟩
 ·intro _
  show off + cap * G.sz ≤ _
  simpa using h3
 ·show (_ : List Value) = G.e xs[i]
  rw [← G.seg xs hi, ← hcs]
  show ((cs.drop (off + i * G.sz)).take G.sz) = (((cs.drop off).take (xs.length * G.sz)).drop (i * G.sz)).take G.sz
  rw [List.drop_take, List.take_take, List.drop_drop, Nat.min_eq_left]
  have : (i + 1) * G.sz ≤ xs.length * G.sz := Nat.mul_le_mul_right _ (by omega)
  rw [Nat.add_mul, Nat.one_mul] at this
  omega
def u64F : Flat (BitVec 64) := ⟨1, fun x => [.int .u64 (x.toNat : Int)], fun _ => rfl, by simp [Value.oneCell'], by decide⟩
end Go.Pn
end
section
namespace Go.Pn
open Go.ChangeShapes Go.WideShapes Go.ChangeAt Go.RowKit
section
variable {H : Type} {enc : TypeId × Value → H} {P : Program} {W W' : World}
theorem kept_of_le (e : Le W W') (may : MemPlace → Prop) : W.keptBut W' may := by
 refine ⟨e.os, e.output, fun i hi => ?_⟩
 rw [e.block i hi not_false]
 cases h : W.heap[i]? with
 | none => rfl
 | some o => cases o <;> first | exact ⟨rfl, rfl, rfl, fun _ _ => rfl⟩ | exact .inr ⟨rfl, rfl⟩ | rfl
theorem frozen_of_le (e : Le W W') {a : Addr} (h : a.block < W.heap.size) : W'.frozen? a = W.frozen? a := by
 unfold World.frozen?
 rw [e.block _ h not_false]
theorem same_of_le (e : Le W W') {p : MemPlace} (h : p.block < W.heap.size) : W.sameAt W' p := by
 cases p with
 | cell b off => show W'.cell? _ = W.cell? _; unfold World.cell?; rw [e.block b h not_false]
 | map b => exact e.block b h not_false
theorem args_of_le (hl : laidOutB P = true) (e : Le W W') {sp : Nat → Bool} : ∀ {ts : List TypeId} {vs : List Value} {ds : List (DataW H)} {ps : List MemPlace},
 (ts.all fun t => P.readableRec t && decide (t < P.types.size)) = true → DataW.TrodAll enc P W 0 (fun _ => true) true ts vs ds ps → (∀ p ∈ ps, p.block < W.heap.size ∧ sp p.block = true) → DataW.TrodAll enc P W' 0 sp true ts vs ds ps
 | [], [], [], _, _, h, _ => h
 | [], [], _ :: _, _, _, h, _ => h.elim
 | [], _ :: _, [], _, _, h, _ => h.elim
 | [], _ :: _, _ :: _, _, _, h, _ => h.elim
 | _ :: _, [], [], _, _, h, _ => h.elim
 | _ :: _, [], _ :: _, _, _, h, _ => h.elim
 | _ :: _, _ :: _, [], _, _, h, _ => h.elim
 | _ :: _, _ :: _, _ :: _, _, ht, ⟨p, q, h1, h2, e1⟩, hs => by
   simp only [List.all_cons, Bool.and_eq_true, decide_eq_true_eq] at ht
   subst e1
   refine ⟨p, q, WideElems.Trod_stays hl ht.1.1 ht.1.2 h1 (fun x hx => same_of_le e (hs x (List.mem_append_left _ hx)).1) (fun x hx => (hs x (List.mem_append_left _ hx)).2), args_of_le hl e ?_ h2 (fun x hx => hs x (List.mem_append_right _ hx)), rfl⟩
   simpa using ht.2
theorem post_of_le {f : Func} {s : ChangeSpec} {fresh handsOn again : Bool} {args : Array Value} {ds gs : List (DataW H)} {before : List MemPlace} {tb : TypeId}
 (hl : laidOutB P = true) (hp : (f.params.toList.all fun t => P.readableRec t && decide (t < P.types.size)) = true) (hv : s.vars = []) (hr : f.resultTypes = #[tb]) (hb : P.underlying tb = some .bool)
 (hW : DataW.Whole enc P f.params.toList s.vars false W args.toList ds gs before) (e : Le W W')
 (hs : s.fn H (ds ++ gs) = { results := [.lit (.bool true)], args := ds }) : s.post enc P f false fresh handsOn again W args (.bool true) W' := by
 have hlt := hW.lt
 have hW0 := hW
 obtain ⟨p, q, hA, hV, rfl, hz, _⟩ := hW
 rw [hv] at hV
 obtain ⟨rfl, rfl⟩ := trodVars_none hV
 have hres : ∀ (b : Nat) (sp : Nat → Bool) (hd : Bool), DataW.TrodAll enc P W' b sp hd f.resultTypes.toList ((Value.bool true).resultList f.resultTypes.size) (s.fn H (ds ++ [])).results [] := by
  intro b sp hd
  rw [hs, hr]
  exact trodAll_cons_mk (shut_bool hb _) trodAll_mk0
 have hargs : ∀ sp : Nat → Bool, (∀ x ∈ p, sp x.block = true) → DataW.TrodAll enc P W' 0 sp true f.params.toList args.toList (s.fn H (ds ++ [])).args p := by
  intro sp hsp
  rw [hs]
  exact args_of_le hl e hp hA fun x hx => ⟨hlt x (by simpa using hx), hsp x hx⟩
 have hvars : ∀ sp : Nat → Bool, DataW.TrodVars enc P W' sp s.vars (s.fn H (ds ++ [])).vars [] := by
  intro sp
  rw [hs, hv]
  rfl
 have hold : ∀ x ∈ p, (fun b => decide (b < W.heap.size)) x.block = true := fun x hx => by simpa using hlt x (by simpa using hx)
 refine ⟨ds, [], p ++ [], [], p, [], hW0, hres _ _ _, hargs _ hold, hvars _, World.keptBut_mono (fun x hx => ⟨hx, .inr (by simpa using hx)⟩) (kept_of_le e _), fun _ => ?_⟩
 refine ⟨ok_one hr rfl (okWide_bool_mk hb _), _, _, ([] ++ p) ++ [], ⟨[] ++ p, [], trodAll_append (hargs _ (fun _ _ => rfl)) (hres _ _ _), hvars _, rfl, ?_, ?_⟩, ?_⟩
 ·intro b off hx
  have hx2 : MemPlace.cell b off ∈ p := by simpa using hx
  rw [frozen_of_le e (hlt _ (by simpa using hx2))]
  exact hz b off (by simpa using hx2)
 ·intro ha; cases ha
 ·intro x hx _
  simpa using hx
end
theorem calls_of {P : Program} {k : FuncId} {args : Array Value} {W : World} {Q : Value → World → Prop} (h : Ret P k args W fun v w' => v = .bool true ∧ Le W w') (hq : ∀ w', Le W w' → Q (.bool true) w') :
 Calls P k args W fun e W' => ∃ v, e = .returned v ∧ Q v W' := by
 refine Calls.mono h fun e W' hh => ?_
 cases e with
 | returned v => obtain ⟨rfl, e⟩ := hh; exact ⟨_, rfl, hq _ e⟩
 | _ => exact hh.elim
end Go.Pn
end
section
namespace Go.Pn
theorem OwnF.block {α : Type} {G : Flat α} {ty : TypeId} {B : Nat} {w : World} {v : Value} {xs : List α} (h : OwnF G ty B w v xs) (hne : 0 < xs.length) :
 ∃ g cap cs, v = .slice (some ⟨g, 0, none⟩) xs.length cap ∧ Own w g ty cs ∧ cs.take (xs.length * G.sz) = xs.flatMap G.e ∧ xs.length ≤ cap ∧ cap ≤ maxLen ∧ cap * G.sz ≤ cs.length ∧ B ≤ g := by
 rcases h.1.2 with ⟨rfl, h0⟩ | ⟨g, cap, cur, rfl, hb, hg, hn, hm, hs, ht⟩
 ·omega
 ·exact ⟨g, cap, cur.toList, rfl, ⟨(0, 0), by simpa using hg, .inl rfl⟩, ht, hn, hm, by simp; omega, hb⟩
theorem Row.lt {α : Type} {E : Enc α} {w : World} {F : Nat → Prop} {b off : Nat} {xs : List α} (h : Row E w F b off xs) : b < w.heap.size := by
 obtain ⟨_, _, _, _, h, _⟩ := h
 exact lt_of_some h
section
variable {P : Program} {n : Nat} {ops rest : List Oper} {N : Val → World → Prop} {Z : List PanicEntry → World → Prop} {f : Val} {w : World}
 {d : Nat} {x y : Operand} {t e tr : TypeId} {pos : String} {after : Array Edge}
theorem O.idxO {k : IntKind} {len cap s b : Nat} {i : Int} (ht : P.underlying t = some (.slice e)) (hsz : ∀ w, (sizeOf e).run P w = .ok s w) (hx : ev n f x = .slice (some ⟨b, 0, none⟩) len cap) (hy : ev n f y = .int k i) (hi : 0 ≤ i ∧ i < len)
 (h : O P n ops rest N Z (upd f d (.pointer (some ⟨b, 0 + i.toNat * s, none⟩))) w) :
 O P n ops (ZO d (.indexAddr t x y) tr pos after :: rest) N Z f w := by
 refine O.val rfl rfl ?_ h
 have h3 : execOp (ev n f) (ZO d (.indexAddr t x y) tr pos after) = (do pure (.value (← Instr.indexAt t (ev n f x) (ev n f y)))) := rfl
 rw [h3, Sem.run_bind, hx, hy]
 have h4 : (Instr.indexAt t (.slice (some ⟨b, 0, none⟩) len cap) (.int k i)).run P w = .ok (.pointer (some ⟨b, 0 + i.toNat * s, none⟩)) w := by
  simp [Instr.indexAt, asIntOf, run_underlying ht, hi.1, hi.2, hsz, Addr.add_none]
 rw [h4]
 rfl
end
end Go.Pn
end
section
namespace Go.Pn
section
variable {P : Program} {n : Nat} {l : List Oper} {N : Val → World → Prop} {X : Nat → Val → World → Prop} {R : Val → World → Prop} {Z : List PanicEntry → World → Prop} {f : Val} {w wB : World}
abbrev Q0 (n : Nat) (N : Val → World → Prop) (Z : List PanicEntry → World → Prop) : Exit → Act → World → Prop := Ex n N (fun _ _ _ => False) (fun _ _ => False) Z
def D (P : Program) (n : Nat) (l : List Oper) (listed : Array Bool) (N : Val → World → Prop) (Z : List PanicEntry → World → Prop) (wB : World) (fuel : Nat) (f : Val) (w : World) : Prop :=
 wpAnyH P .any l.toArray (Q0 n N Z) (fun w' => Le wB w') fuel listed (Fr n f) w
theorem Q0_put (o : Option Nat) (v : Value) : ∀ c a w, Q0 n N Z (.panic c) (a.put o v) w → Q0 n N Z (.panic c) a w := by
 intro c a w h
 cases o <;> exact h
theorem C.draw {id : Nat} (hm : P.follows .mixedOrders = true) (h : ∀ w1, Le w w1 → D P n l (Array.replicate l.toArray.size false) N Z w1 l.toArray.size f w1) : C P n (.region id l.toArray true) N X R Z f w := by
 refine wp_mono (wp_region_held (S := fun w' => Le { w with drawn := w.drawn + 1 } w') hm (h { w with drawn := w.drawn + 1 } ⟨rfl, rfl, rfl, Nat.le_refl _, fun _ _ _ => rfl⟩)) ?_
 intro e a w he
 cases e with
 | normal => exact he
 | exit i => obtain ⟨_, _, h⟩ := he; exact h.elim
 | goto l => exact he
 | ret => obtain ⟨_, _, h⟩ := he; exact h.elim
 | panic ch => exact he
 | outgrown => exact he
theorem D.done {listed : Array Bool} {fuel : Nat} (hr : Region.ready .any l.toArray listed = []) (h : N f w) : D P n l listed N Z wB fuel f w := wpAnyH_done hr ⟨f, rfl, h⟩ fuel
theorem run_of_O {o : Oper} {d : Nat} {v : Value} {w' : World} (hg : o.guard = .none) (hd : o.dst = some d) (hdn : d < n) (hX : ∃ X : Sem Value, execOp (ev n f) o = (do pure (.value (← X))))
 (hO : ∀ N : Val → World → Prop, N (upd f d v) w' → O P n [o] [o] N (fun _ _ => False) f w') : (execOp (ev n f) o).run P w' = .ok (.value v) w' := by
 have h := hO (fun f' w'' => f' = upd f d v ∧ w'' = w') ⟨rfl, rfl⟩
 obtain ⟨X, hX⟩ := hX
 unfold O at h
 simp only [wpList, Region.wanted, hg, if_true] at h
 rcases h with h | ⟨_, _, _, h⟩
 ·unfold Oper.wp at h
  rw [eval_Fr, hX, Sem.run_bind] at h
  rw [hX, Sem.run_bind]
  cases hr : X.run P w' with
  | ok u w'' =>
    rw [hr] at h
    simp only [Result.andThen, Sem.run_pure, Oper.upon, hd] at h
    obtain ⟨f', e1, rfl, rfl⟩ := h
    rw [put_Fr] at e1
    have h2 := congrArg (fun a : Act => a.eval (.tmp d)) e1
    simp only [eval_Fr, ev, Nat.ble_eq_true_of_le hdn, cond_true, upd, nbeq_self] at h2
    subst h2
    rfl
  | halt x w'' =>
    rw [hr] at h
    simp only [Result.andThen, Oper.upon] at h
    cases x <;> first | exact h.2.elim | exact h.elim
 ·exact h.elim
theorem D.take {listed : Array Bool} {fuel i : Nat} {o : Oper} {d : Nat} {v : Value} (hi : l[i]? = some o) (hg : o.guard = .none) (hd : o.dst = some d) (hdn : Nat.ble (d + 1) n = true)
 (hk : (Region.noSelect l.toArray && Region.free .any l.toArray listed i && (Region.ready .any l.toArray listed).contains i) = true)
 (hS : Le wB w) (hX : ∃ X : Sem Value, execOp (ev n f) o = (do pure (.value (← X))))
 (hO : ∀ w', Le wB w' → ∀ N : Val → World → Prop, N (upd f d v) w' → O P n [o] [o] N (fun _ _ => False) f w')
 (h : D P n l (listed.setIfInBounds i true) N Z wB fuel (upd f d v) w) : D P n l listed N Z wB (fuel + 1) f w := by
 simp only [Bool.and_eq_true] at hk
 have hy : YieldsIf P l.toArray (fun w' => Le wB w') o v (Fr n f) :=
  .inl ⟨by simp [Region.wanted, hg], fun w' hw => by rw [eval_Fr]; exact run_of_O hg hd (Nat.le_of_ble_eq_true hdn) hX (hO w' hw)⟩
 refine wpAnyH_take (i := i) (oi := o) (v := v) (by simpa using hi) hk.1.1 hk.1.2 hk.2 (Q0_put _ _) hy hS ?_
 rw [hd, put_Fr]
 exact h
theorem D.tk {listed : Array Bool} {fuel : Nat} {o : Oper} {d : Nat} {v : Value} (i : Nat) (hi : l[i]? = some o) (hg : o.guard = .none) (hd : o.dst = some d) (hdn : Nat.ble (d + 1) n = true)
 (hS : Le wB w) (hX : ∃ X : Sem Value, execOp (ev n f) o = (do pure (.value (← X))))
 (hO : ∀ w', Le wB w' → ∀ N : Val → World → Prop, N (upd f d v) w' → O P n [o] [o] N (fun _ _ => False) f w')
 (h : D P n l (listed.setIfInBounds i true) N Z wB fuel (upd f d v) w) (hk : (Region.noSelect l.toArray && Region.free .any l.toArray listed i && (Region.ready .any l.toArray listed).contains i) = true := by kernel_rfl) : D P n l listed N Z wB (fuel + 1) f w :=
 D.take hi hg hd hdn hk hS hX hO h
theorem D.t {listed : Array Bool} {fuel : Nat} {op : Op} {ty : TypeId} {pos : String} {after : Array Edge} {d : Nat} {v : Value} (i : Nat) (hi : l[i]? = some (ZO d op ty pos after))
 (hS : Le wB w)
 (hO : ∀ w', Le wB w' → ∀ N : Val → World → Prop, N (upd f d v) w' → O P n [ZO d op ty pos after] [ZO d op ty pos after] N (fun _ _ => False) f w')
 (h : D P n l (listed.setIfInBounds i true) N Z wB fuel (upd f d v) w) (hdn : Nat.ble (d + 1) n = true := by rfl) (hX : ∃ X : Sem Value, execOp (ev n f) (ZO d op ty pos after) = (do pure (.value (← X))) := by exact ⟨_, rfl⟩)
 (hk : (Region.noSelect l.toArray && Region.free .any l.toArray listed i && (Region.ready .any l.toArray listed).contains i) = true := by kernel_rfl) : D P n l listed N Z wB (fuel + 1) f w :=
 D.take hi rfl rfl hdn hk hS hX hO h
theorem D.mv {listed : Array Bool} {fuel : Nat} {x : Operand} {ty : TypeId} {pos : String} {after : Array Edge} {d : Nat} (i : Nat) (hi : l[i]? = some (ZO d (.move x) ty pos after))
 (hS : Le wB w) (h : D P n l (listed.setIfInBounds i true) N Z wB fuel (upd f d (ev n f x)) w) (hdn : Nat.ble (d + 1) n = true := by rfl)
 (hk : (Region.noSelect l.toArray && Region.free .any l.toArray listed i && (Region.ready .any l.toArray listed).contains i) = true := by kernel_rfl) : D P n l listed N Z wB (fuel + 1) f w :=
 D.take hi rfl rfl hdn hk hS ⟨pure _, rfl⟩ (fun _ _ _ hN => O.mv (O.nil hN)) h
theorem D.as {listed : Array Bool} {fuel : Nat} {x : Operand} {ty : TypeId} {pos : String} {after : Array Edge} {d : Nat} (i : Nat) (hi : l[i]? = some (ZO d (.assign x) ty pos after))
 (hS : Le wB w) (h : D P n l (listed.setIfInBounds i true) N Z wB fuel (upd f d (ev n f x)) w) (hdn : Nat.ble (d + 1) n = true := by rfl)
 (hk : (Region.noSelect l.toArray && Region.free .any l.toArray listed i && (Region.ready .any l.toArray listed).contains i) = true := by kernel_rfl) : D P n l listed N Z wB (fuel + 1) f w :=
 D.take hi rfl rfl hdn hk hS ⟨pure _, rfl⟩ (fun _ _ _ hN => O.asg (O.nil hN)) h
theorem C.sd {id : Nat} {b : Code} (h : ∀ {K : Val → World → Prop}, (∀ {wB : World} {listed : Array Bool} {fuel : Nat} {f : Val} {w : World}, C P n b N X R Z f w → (_ : Region.ready .any l.toArray listed = [] := by kernel_rfl) → D P n l listed K Z wB fuel f w) → ∀ w1, Le w w1 → w.heap.size ≤ w1.heap.size → D P n l (Array.replicate l.toArray.size false) K Z w1 l.toArray.size f w1) (hm : P.follows .mixedOrders = true := by kernel_rfl) : C P n (.seq (.region id l.toArray true) b) N X R Z f w :=
 C.seqK fun K hK => C.draw hm fun w1 e => h (K := K) (fun h hr => D.done hr (hK _ _ h)) w1 e e.size
theorem D.takeYes {listed : Array Bool} {fuel i : Nat} {dst : Option Nat} {op : Op} {ty : TypeId} {pos : String} {after : Array Edge} {j dj : Nat} {b : Bool} {d : Nat} {v : Value}
 (hi : l[i]? = some { dst := dst, op := op, type := ty, pos := pos, after := after, guard := some (j, b) }) (hd : dst = some d) (hdn : Nat.ble (d + 1) n = true)
 (hk : (Region.noSelect l.toArray && Region.free .any l.toArray listed i && (Region.ready .any l.toArray listed).contains i) = true)
 (hj : (l[j]?).bind (·.dst) = some dj) (hv : ev n f (.tmp dj) = .bool b)
 (hS : Le wB w) (hX : ∃ X : Sem Value, execOp (ev n f) { dst := dst, op := op, type := ty, pos := pos, after := after, guard := .none } = (do pure (.value (← X))))
 (hO : ∀ w', Le wB w' → ∀ N : Val → World → Prop, N (upd f d v) w' → O P n [{ dst := dst, op := op, type := ty, pos := pos, after := after, guard := .none }] [{ dst := dst, op := op, type := ty, pos := pos, after := after, guard := .none }] N (fun _ _ => False) f w')
 (h : D P n l (listed.setIfInBounds i true) N Z wB fuel (upd f d v) w) : D P n l listed N Z wB (fuel + 1) f w := by
 simp only [Bool.and_eq_true] at hk
 have hy0 : yielded l.toArray (Fr n f).tmps j = some b := by
  have hd := getD_Fr n f dj
  rw [hv] at hd
  unfold yielded
  have h1 : (l.toArray[j]?).bind (·.dst) = some dj := by simpa using hj
  rw [h1]
  simp only [Option.bind_some]
  rw [Array.getD_eq_getD_getElem?] at hd
  cases hx : (Fr n f).tmps[dj]? with
  | none => rw [hx] at hd; simp [undef] at hd
  | some v => rw [hx] at hd; simp at hd; subst hd; rfl
 have hy : YieldsIf P l.toArray (fun w' => Le wB w') { dst := dst, op := op, type := ty, pos := pos, after := after, guard := some (j, b) } v (Fr n f) :=
  .inl ⟨by simp [Region.wanted, hy0], fun w' hw => by rw [eval_Fr]; exact run_of_O (o := { dst := dst, op := op, type := ty, pos := pos, after := after, guard := .none }) rfl hd (Nat.le_of_ble_eq_true hdn) hX (hO w' hw)⟩
 refine wpAnyH_take (i := i) (v := v) (by simpa using hi) hk.1.1 hk.1.2 hk.2 (Q0_put _ _) hy hS ?_
 simp only [hd]
 rw [put_Fr]
 exact h
theorem D.ty {listed : Array Bool} {fuel : Nat} {dst : Option Nat} {op : Op} {ty : TypeId} {pos : String} {after : Array Edge} {j dj : Nat} {b : Bool} {d : Nat} {v : Value} (i : Nat)
 (hi : l[i]? = some { dst := dst, op := op, type := ty, pos := pos, after := after, guard := some (j, b) }) (hd : dst = some d) (hdn : Nat.ble (d + 1) n = true)
 (hj : (l[j]?).bind (·.dst) = some dj) (hv : ev n f (.tmp dj) = .bool b)
 (hS : Le wB w) (hX : ∃ X : Sem Value, execOp (ev n f) { dst := dst, op := op, type := ty, pos := pos, after := after, guard := .none } = (do pure (.value (← X))))
 (hO : ∀ w', Le wB w' → ∀ N : Val → World → Prop, N (upd f d v) w' → O P n [{ dst := dst, op := op, type := ty, pos := pos, after := after, guard := .none }] [{ dst := dst, op := op, type := ty, pos := pos, after := after, guard := .none }] N (fun _ _ => False) f w')
 (h : D P n l (listed.setIfInBounds i true) N Z wB fuel (upd f d v) w) (hk : (Region.noSelect l.toArray && Region.free .any l.toArray listed i && (Region.ready .any l.toArray listed).contains i) = true := by kernel_rfl) : D P n l listed N Z wB (fuel + 1) f w :=
 D.takeYes hi hd hdn hk hj hv hS hX hO h
theorem D.step {listed : Array Bool} {fuel j : Nat} {o : Oper} (hi : l[j]? = some o) (hg : o.guard = .none)
 (hO : O P n [o] [o] (fun f' w' => Le wB w' ∧ D P n l (listed.setIfInBounds j true) N Z wB fuel f' w') Z f w) :
 wpOp P l.toArray (Q0 n N Z) j (fun a' w' => Le wB w' ∧ wpAnyH P .any l.toArray (Q0 n N Z) (fun w' => Le wB w') fuel (listed.setIfInBounds j true) a' w') (Fr n f) w := by
 unfold wpOp
 have hi2 : l.toArray[j]? = some o := by simpa using hi
 rw [hi2]
 unfold O at hO
 simp only [wpList, Region.wanted, hg, if_true] at hO ⊢
 have key : ∀ a' w', Q0 n (fun f' w' => Le wB w' ∧ D P n l (listed.setIfInBounds j true) N Z wB fuel f' w') Z .normal a' w' → Le wB w' ∧ wpAnyH P .any l.toArray (Q0 n N Z) (fun w' => Le wB w') fuel (listed.setIfInBounds j true) a' w' := by
  rintro a' w' ⟨f', rfl, h1, h2⟩
  exact ⟨h1, h2⟩
 rcases hO with h | ⟨_, a0, w0, h0⟩
 ·left
  unfold Oper.wp at h ⊢
  generalize (execOp (Fr n f).eval o).run P w = r at h ⊢
  cases r with
  | ok nx w' =>
    cases nx with
    | value v => exact key _ _ h
    | skip => exact key _ _ h
    | defer d => exact key _ _ h
    | enter k args =>
      refine Calls.mono h ?_
      intro e w'' he
      cases e with
      | returned v => exact key _ _ he
      | panicked ch => exact he
      | outgrown => obtain ⟨a0, w0, h0⟩ := he; exact h0.elim
    | row r args => exact Rows.mono h fun v w'' hv => key _ _ hv
    | _ => exact h.elim
  | halt hh w' => cases hh <;> first | exact h | exact h.elim
 ·exact h0.elim
theorem D.one {listed : Array Bool} {fuel i : Nat} {o : Oper} (hi : l[i]? = some o) (hg : o.guard = .none) (hr : Region.ready .any l.toArray listed = [i])
 (hO : O P n [o] [o] (fun f' w' => Le wB w' ∧ D P n l (listed.setIfInBounds i true) N Z wB fuel f' w') Z f w) : D P n l listed N Z wB (fuel + 1) f w := by
 refine wpAnyH_all hr (by simp) ?_
 intro j hj
 obtain rfl : j = i := by simpa using hj
 exact D.step hi hg hO
theorem D.on {listed : Array Bool} {fuel : Nat} {o : Oper} (i : Nat) (hi : l[i]? = some o) (hg : o.guard = .none)
 (hO : O P n [o] [o] (fun f' w' => Le wB w' ∧ D P n l (listed.setIfInBounds i true) N Z wB fuel f' w') Z f w) (hr : Region.ready .any l.toArray listed = [i] := by kernel_rfl) : D P n l listed N Z wB (fuel + 1) f w := D.one hi hg hr hO
theorem D.dn {listed : Array Bool} {fuel : Nat} (h : N f w) (hr : Region.ready .any l.toArray listed = [] := by kernel_rfl) : D P n l listed N Z wB fuel f w := D.done hr h
theorem D.two {listed : Array Bool} {fuel i i' : Nat} {o o' : Oper} (hi : l[i]? = some o) (hg : o.guard = .none) (hi' : l[i']? = some o') (hg' : o'.guard = .none) (hr : Region.ready .any l.toArray listed = [i, i'])
 (hO : O P n [o] [o] (fun f' w' => Le wB w' ∧ D P n l (listed.setIfInBounds i true) N Z wB fuel f' w') Z f w)
 (hO' : O P n [o'] [o'] (fun f' w' => Le wB w' ∧ D P n l (listed.setIfInBounds i' true) N Z wB fuel f' w') Z f w) : D P n l listed N Z wB (fuel + 1) f w := by
 refine wpAnyH_all hr (by simp) ?_
 intro j hj
 simp only [List.mem_cons, List.not_mem_nil, or_false] at hj
 rcases hj with rfl | rfl
 ·exact D.step hi hg hO
 ·exact D.step hi' hg' hO'
end
end Go.Pn
end
section
namespace Go.Pn
section
variable {P : Program} {n : Nat} {ops rest l : List Oper} {N : Val → World → Prop} {Z : List PanicEntry → World → Prop} {f : Val} {w wB : World}
 {d : Nat} {x y : Operand} {t t' e tr ty : TypeId} {pos : String} {after : Array Edge} {α : Type} {E : Enc α} {F : Nat → Prop}
theorem Sl.at {i : Int} {s : Nat} {v : Value} {xs : List α} (ht : P.underlying t = some (.slice e)) (hsz : ∀ w, (sizeOf e).run P w = .ok s w) (hs : E.sz = s) (hv : Sl E w F v xs) (hi : 0 ≤ i ∧ i < xs.length) :
 ∃ a, At E w F a (xs[i.toNat]'(by omega)) ∧ ∀ w', (Instr.indexAt t v (i64 i)).run P w' = .ok (.pointer (some a)) w' := by
 obtain ⟨b, off, cap, rfl, hat⟩ := hv.elem (i := i.toNat) (by omega)
 refine ⟨_, hat, fun w' => ?_⟩
 simp [Instr.indexAt, asIntOf, run_underlying ht, hi.1, hi.2, hsz, Addr.add_none, hs]
theorem O.idxR {i : Int} {v : Value} {a : Addr} (hx : ev n f x = v) (hy : ev n f y = i64 i) (hr : ∀ w', (Instr.indexAt t v (i64 i)).run P w' = .ok (.pointer (some a)) w') (h : O P n ops rest N Z (upd f d (.pointer (some a))) w) :
 O P n ops (ZO d (.indexAddr t x y) ty pos after :: rest) N Z f w := by
 refine O.val rfl rfl ?_ h
 have h3 : execOp (ev n f) (ZO d (.indexAddr t x y) ty pos after) = (do pure (.value (← Instr.indexAt t (ev n f x) (ev n f y)))) := rfl
 rw [h3, Sem.run_bind, hx, hy, hr]
 rfl
def u64E : Enc (BitVec 64) := Enc.flat 1 (fun x => [.int .u64 (x.toNat : Int)]) (fun _ => rfl) (by simp [Value.oneCell'])
theorem u64E.inv {v : Value} {x : BitVec 64} (h : u64E.rep w F [v] x) : v = .int .u64 (x.toNat : Int) := by
 have : [v] = [Value.int .u64 (x.toNat : Int)] := h
 simpa using this
def fl (x : BitVec 64) : Value := .float .f64 x.toNat
def flE : Enc (BitVec 64) := Enc.flat 1 (fun x => [fl x]) (fun _ => rfl) (by simp [fl, Value.oneCell'])
theorem flE.inv {v : Value} {x : BitVec 64} (h : flE.rep w F [v] x) : v = fl x := by
 have : [v] = [fl x] := h
 simpa using this
def flF : Flat (BitVec 64) := ⟨1, fun x => [fl x], fun _ => rfl, by simp [fl, Value.oneCell'], by decide⟩
theorem O.loadF {a : Addr} {z : BitVec 64} (hag : ∀ w, (isAgg t).run P w = .ok false w) (hx : ev n f x = .pointer (some a)) (ha : At flE w F a z)
 (h : O P n ops rest N Z (upd f d (fl z)) w) :
 O P n ops (ZO d (.load t x) ty pos after :: rest) N Z f w :=
 O.load1 hag rfl hx ha fun v hv => by rw [flE.inv hv]; exact h
theorem D.takeNo {listed : Array Bool} {fuel i : Nat} {dst : Option Nat} {op : Op} {j dj : Nat} {b : Bool} {d : Nat}
 (hi : l[i]? = some { dst := dst, op := op, type := ty, pos := pos, after := after, guard := some (j, b) }) (hd : dst = some d)
 (hk : (Region.noSelect l.toArray && Region.free .any l.toArray listed i && (Region.ready .any l.toArray listed).contains i) = true)
 (hS : Le wB w) (hj : (l[j]?).bind (·.dst) = some dj) (hv : isB b (ev n f (.tmp dj)) = false)
 (h : D P n l (listed.setIfInBounds i true) N Z wB fuel (upd f d undef) w) : D P n l listed N Z wB (fuel + 1) f w := by
 simp only [Bool.and_eq_true] at hk
 have hy0 : (yielded l.toArray (Fr n f).tmps j == some b) = false := by
  have hd := getD_Fr n f dj
  unfold yielded
  have h1 : (l.toArray[j]?).bind (·.dst) = some dj := by simpa using hj
  rw [h1]
  simp only [Option.bind_some]
  rw [Array.getD_eq_getD_getElem?] at hd
  cases hx : (Fr n f).tmps[dj]? with
  | none => rfl
  | some v =>
    rw [hx] at hd
    simp only [Option.getD_some] at hd
    rw [← hd] at hv
    cases v <;> first | rfl | (simp only [isB] at hv; simpa using hv)
 have hy : YieldsIf P l.toArray (fun w' => Le wB w') { dst := dst, op := op, type := ty, pos := pos, after := after, guard := some (j, b) } undef (Fr n f) :=
  .inr ⟨by simp only [Region.wanted]; exact hy0, rfl⟩
 refine wpAnyH_take (i := i) (v := undef) (by simpa using hi) hk.1.1 hk.1.2 hk.2 (Q0_put _ _) hy hS ?_
 simp only [hd]
 rw [put_Fr]
 exact h
theorem D.tn {listed : Array Bool} {fuel : Nat} {dst : Option Nat} {op : Op} {j dj : Nat} {b : Bool} {d : Nat} (i : Nat)
 (hi : l[i]? = some { dst := dst, op := op, type := ty, pos := pos, after := after, guard := some (j, b) }) (hd : dst = some d)
 (hS : Le wB w) (hj : (l[j]?).bind (·.dst) = some dj) (hv : isB b (ev n f (.tmp dj)) = false)
 (h : D P n l (listed.setIfInBounds i true) N Z wB fuel (upd f d undef) w) (hk : (Region.noSelect l.toArray && Region.free .any l.toArray listed i && (Region.ready .any l.toArray listed).contains i) = true := by kernel_rfl) : D P n l listed N Z wB (fuel + 1) f w :=
 D.takeNo hi hd hk hS hj hv h
theorem D.split {listed : Array Bool} {fuel : Nat} {b : Bool} (hx : ev n f x = .bool b) (h1 : b = true → D P n l listed N Z wB fuel f w) (h2 : b = false → D P n l listed N Z wB fuel f w) : D P n l listed N Z wB fuel f w := by
 cases b
 ·exact h2 rfl
 ·exact h1 rfl
theorem D.splitD {listed : Array Bool} {fuel : Nat} {p : Prop} [Decidable p] (_hx : ev n f x = .bool (decide p)) (h1 : p → D P n l listed N Z wB fuel f w) (h2 : ¬ p → D P n l listed N Z wB fuel f w) : D P n l listed N Z wB fuel f w := by
 by_cases h : p
 ·exact h1 h
 ·exact h2 h
theorem D.cast {listed : Array Bool} {fuel : Nat} {v v' : Value} (hv : v = v') (h : D P n l listed N Z wB fuel (upd f d v') w) : D P n l listed N Z wB fuel (upd f d v) w := hv ▸ h
theorem pick_form {c a b : Operand} {g : Option (Nat × Bool)} : ∃ X : Sem Value, execOp (ev n f) { dst := some d, op := .pick c a b, type := ty, pos := pos, after := after, guard := g } = (do pure (.value (← X))) := by
 refine ⟨do pure (if ← asBool (ev n f c) then ev n f a else ev n f b), ?_⟩
 show (do pure (.value (if ← asBool (ev n f c) then ev n f a else ev n f b)) : Sem Next) = _
 cases ev n f c <;> rfl
theorem O.ext {k : Nat} {xs : List Operand} {vs : List Value} {ats : Array TypeId} {g : Array Value → Sem Value} {v : Value}
 (hk : ∀ args w, (callFunc k args).run P w = ((g args).run P w).andThen fun v w' => .ok (.value v) w') (hxs : xs.map (ev n f) = vs) (hg : (g vs.toArray).run P w = .ok v w) (h : O P n ops rest N Z (upd f d v) w) :
 O P n ops (ZO d (.call { callee := .value (.func k), args := xs.toArray, argTypes := ats }) ty pos after :: rest) N Z f w := by
 subst hxs
 refine O.val rfl rfl ?_ h
 simp only [execOp, resolve, Deferred.ofValue, invoke, ev]
 simp [hk, hg]
abbrev bitsOf : Array Value → Sem Value := Extern.MathFloatBits.float64bits
abbrev fromBits : Array Value → Sem Value := Extern.MathFloatBits.float64frombits
theorem run_bitsOf (x : BitVec 64) : (bitsOf #[fl x]).run P w = .ok (.int .u64 (x.toNat : Int)) w := rfl
theorem run_fromBits (x : BitVec 64) : (fromBits #[.int .u64 (x.toNat : Int)]).run P w = .ok (fl x) w := rfl
def ford (a b : BitVec 64) : Option Ordering := FloatKind.f64.format.order a.toNat b.toNat
def feq (a b : BitVec 64) : Prop := ford a b = some .eq
def flt (a b : BitVec 64) : Prop := ford a b = some .lt
def fgt (a b : BitVec 64) : Prop := ford a b = some .gt
instance (a b : BitVec 64) : Decidable (feq a b) := inferInstanceAs (Decidable (ford a b = some .eq))
instance (a b : BitVec 64) : Decidable (flt a b) := inferInstanceAs (Decidable (ford a b = some .lt))
instance (a b : BitVec 64) : Decidable (fgt a b) := inferInstanceAs (Decidable (ford a b = some .gt))
variable {a b : BitVec 64}
theorem oeq (c : Option Ordering) (d : Ordering) : (c == some d) = decide (c = some d) := by
 cases c with
 | none => cases d <;> rfl
 | some x => cases x <;> cases d <;> rfl
theorem O.eqlF (hx : ev n f x = fl a) (hy : ev n f y = fl b) (h : O P n ops rest N Z (upd f d (.bool (decide (feq a b)))) w) :
 O P n ops (ZO d (.binOp .eql t x y t') ty pos after :: rest) N Z f w :=
 O.val rfl rfl (by
  have e : (FloatKind.f64.format.order a.toNat b.toNat == some Ordering.eq) = decide (feq a b) := oeq _ _
  simp [execOp, hx, hy, fl, eqGuard, binOp, Op.floatCmp, e]) h
theorem O.neqF (hx : ev n f x = fl a) (hy : ev n f y = fl b) (h : O P n ops rest N Z (upd f d (.bool (decide (¬ feq a b)))) w) :
 O P n ops (ZO d (.binOp .neq t x y t') ty pos after :: rest) N Z f w :=
 O.val rfl rfl (by
  have e : (FloatKind.f64.format.order a.toNat b.toNat == some Ordering.eq) = decide (feq a b) := oeq _ _
  simp [execOp, hx, hy, fl, eqGuard, binOp, Op.floatCmp, bne, e]) h
def nanB (x : BitVec 64) : Prop := x.toNat % 9223372036854775808 > 9218868437227405312
def FAdd (a b r : BitVec 64) : Prop := match FloatKind.f64.format.add a.toNat b.toNat with
 | some z => r.toNat = z
 | none => nanB r
theorem word_lt (neg : Bool) {r : Nat} (h : r ≤ 9218868437227405312 + 4503599627370495) : Ieee.Format.word FloatKind.f64.format neg r < 2 ^ 64 := by
 have e : Ieee.Format.signWeight FloatKind.f64.format = 9223372036854775808 := by decide
 unfold Ieee.Format.word
 split
 ·rw [e]; omega
 ·omega
theorem write_lt (d : Ieee.Datum) : Ieee.Format.write FloatKind.f64.format d < 2 ^ 64 := by
 have e : Ieee.Format.infRung FloatKind.f64.format = 9218868437227405312 := by decide
 have e2 : Ieee.Format.binade FloatKind.f64.format = 4503599627370496 := by decide
 cases d with
 | number neg mag place =>
   unfold Ieee.Format.write Ieee.Format.nearest
   simp only []
   split
   ·exact word_lt _ (by omega)
   ·refine word_lt _ ?_
    rw [e]
    omega
 | infinity neg =>
   unfold Ieee.Format.write
   simp only []
   exact word_lt _ (by rw [e]; omega)
 | nan neg fr =>
   unfold Ieee.Format.write
   simp only []
   refine word_lt _ ?_
   rw [e, e2]
   omega
theorem add_lt {x y z : Nat} (h : Ieee.Format.add FloatKind.f64.format x y = some z) : z < 2 ^ 64 := by
 unfold Ieee.Format.add at h
 obtain ⟨d, _, rfl⟩ := Option.map_eq_some_iff.1 h
 exact write_lt d
theorem nan_cut (t x y : Nat) : ∃ r : BitVec 64, r.toNat = (Question.nanBits .f64 x y).cut t ∧ nanB r := by
 have e : (Question.nanBits .f64 x y).cut t = (t % 2) * 2 ^ 63 + 0x7ff0000000000000 + 1 + (t / 2) % (2 ^ 52 - 1) := rfl
 have hp : t % 2 < 2 := Nat.mod_lt _ (by decide)
 have hq : (t / 2) % (2 ^ 52 - 1) < 2 ^ 52 - 1 := Nat.mod_lt _ (by decide)
 generalize t % 2 = p at e hp
 generalize (t / 2) % (2 ^ 52 - 1) = q at e hq
 generalize (Question.nanBits .f64 x y).cut t = c at e
 have hc : c < 2 ^ 64 := by omega
 refine ⟨BitVec.ofNat 64 c, ?_, ?_⟩
 ·rw [BitVec.toNat_ofNat]
  exact Nat.mod_eq_of_lt hc
 ·unfold nanB
  rw [BitVec.toNat_ofNat, Nat.mod_eq_of_lt hc]
  have : p = 0 ∨ p = 1 := by omega
  rcases this with rfl | rfl <;> omega
theorem run_floatAdd {x y : Nat} : (Op.floatArith .add .f64 x y).run P w = match Ieee.Format.add FloatKind.f64.format x y with
 | some r => .ok (.float .f64 r) w
 | none => .ok (.float .f64 ((Question.nanBits .f64 x y).cut (w.tape w.drawn (.nanBits .f64 x y)))) { w with drawn := w.drawn + 1 } := by
 cases h : Ieee.Format.add FloatKind.f64.format x y with
 | some r =>
   show Sem.run P ((match Ieee.Format.add FloatKind.f64.format x y with | some r => (pure (Value.float .f64 r) : Sem Value) | none => (do pure (Value.float .f64 (← choose (.nanBits .f64 x y))) : Sem Value)) : Sem Value) w = _
   rw [h]
   rfl
 | none =>
   show Sem.run P ((match Ieee.Format.add FloatKind.f64.format x y with | some r => (pure (Value.float .f64 r) : Sem Value) | none => (do pure (Value.float .f64 (← choose (.nanBits .f64 x y))) : Sem Value)) : Sem Value) w = _
   rw [h]
   rfl
theorem O.addF (hx : ev n f x = fl a) (hy : ev n f y = fl b) (h : ∀ r w', Le w w' → FAdd a b r → O P n ops rest N Z (upd f d (fl r)) w') :
 O P n ops (ZO d (.binOp .add t x y t') ty pos after :: rest) N Z f w := by
 cases hadd : Ieee.Format.add FloatKind.f64.format a.toNat b.toNat with
 | some z =>
   have hz := add_lt hadd
   have hr : (BitVec.ofNat 64 z).toNat = z := by rw [BitVec.toNat_ofNat]; exact Nat.mod_eq_of_lt hz
   refine O.val rfl rfl ?_ (h (BitVec.ofNat 64 z) w (Le.refl w) (by unfold FAdd; rw [hadd]; exact hr))
   have h3 := run_floatAdd (P := P) (w := w) (x := a.toNat) (y := b.toNat)
   rw [hadd] at h3
   simp only [] at h3
   simp [execOp, hx, hy, fl, eqGuard, binOp, h3, hr]
 | none =>
   obtain ⟨r, hr, hn⟩ := nan_cut (w.tape w.drawn (.nanBits .f64 a.toNat b.toNat)) a.toNat b.toNat
   refine O.val rfl rfl ?_ (h r { w with drawn := w.drawn + 1 } ⟨rfl, rfl, rfl, Nat.le_refl _, fun _ _ _ => rfl⟩ (by unfold FAdd; rw [hadd]; exact hn))
   have h3 := run_floatAdd (P := P) (w := w) (x := a.toNat) (y := b.toNat)
   rw [hadd] at h3
   simp only [] at h3
   rw [← hr] at h3
   simp [execOp, hx, hy, fl, eqGuard, binOp, h3]
end
end Go.Pn
end
section
namespace Go.Pn
section
variable {P : Program} {n : Nat} {ops rest : List Oper} {N : Val → World → Prop} {Z : List PanicEntry → World → Prop} {f : Val} {w : World}
 {d : Nat} {x : Operand} {t e tr : TypeId} {pos : String} {after : Array Edge}
theorem O.lit1 {ie : TypeInfo} {z v : Value} (hu : P.underlying t = some (.slice e)) (hie : P.info? e = some ie) (hsz : ie.size = 1) (hz : ie.zero = some z) (hx : ev n f x = v) (h1 : v.oneCell' = true)
 (h : ∀ b w', w.heap.size ≤ b → Own0 w' b e [v] → Le w w' → O P n ops rest N Z (upd f d (.slice (some ⟨b, 0, none⟩) 1 1)) w') :
 O P n ops (ZO d (.buildSlice t 1 [(0, x)].toArray) tr pos after :: rest) N Z f w := by
 have hcells : v.cells = #[v] := by cases v <;> first | rfl | simp [Value.oneCell'] at h1
 refine O.lit (vs := [(0, v)]) (cells := #[v]) hu hie hz (by rw [hsz]; decide) (by rw [hsz]; decide) (by simp [hx]) ?_ h
 rw [hsz]
 simp [Instr.fill, hcells]
 have hr : Array.range 1 = #[0] := rfl
 rw [hr]
 simp
end
theorem Sl.one {α : Type} {G : Flat α} {w : World} {b : Nat} {ty : TypeId} {x : α} {v : Value} (h : Own w b ty [v]) (hv : G.e x = [v]) (h1 : G.sz = 1) : Sl G.enc w (fun k => k = b) (.slice (some ⟨b, 0, none⟩) 1 1) [x] :=
 Sl.of_own (xs := [x]) h (by simp [h1, hv]) (by simp) (by unfold maxLen; omega) (by simp [h1])
end Go.Pn
end
section
namespace Go.Pn
section
variable {P : Program} {n : Nat} {ops rest : List Oper} {N : Val → World → Prop} {Z : List PanicEntry → World → Prop} {f : Val} {w wB : World}
 {d : Nat} {x : Operand} {t e tr : TypeId} {pos : String} {after : Array Edge} {α : Type} {E : Enc α} {F : Nat → Prop}
theorem Sl.sub {s : Nat} {v : Value} {xs : List α} (lo hi : Nat) (ht : P.underlying t = some (.slice e)) (hsz : ∀ w, (sizeOf e).run P w = .ok s w) (hs : E.sz = s) (hv : Sl E w F v xs) (h1 : lo ≤ hi) (h2 : hi ≤ xs.length) :
 ∃ v', Sl E w F v' ((xs.take hi).drop lo) ∧ ∀ low high : Option Value, ((low = .none ∧ lo = 0) ∨ ∃ k, low = some (.int k lo)) → ((high = .none ∧ hi = xs.length) ∨ ∃ k, high = some (.int k hi)) →
  ∀ w', (Instr.sliceAt t v low high .none).run P w' = .ok v' w' := by
 have hlen : ((xs.take hi).drop lo).length = hi - lo := by simp; omega
 have run : ∀ (a : Option Addr) (cap : Nat), v = .slice a xs.length cap → xs.length ≤ cap → ∀ low high : Option Value, ((low = .none ∧ lo = 0) ∨ ∃ k, low = some (.int k lo)) → ((high = .none ∧ hi = xs.length) ∨ ∃ k, high = some (.int k hi)) →
  ∀ w', (Instr.sliceAt t v low high .none).run P w' = .ok (.slice (if cap = lo then a else a.map (·.add (lo * s))) (hi - lo) (cap - lo)) w' := by
  rintro a cap rfl hc low high hlo hhi w'
  have hbl : ∀ (k : IntKind) (x : Nat) (y : Nat) (c : BoundsCode), x ≤ y → (Instr.sliceBound (.int k (x : Int)) y c).run P w' = .ok x w' := by
   intro k x y c h1
   have : (x : Int) ≤ y := by omega
   simp [Instr.sliceBound, asIntOf, this]
  unfold Instr.sliceAt
  rw [Sem.run_bind, run_underlying ht, Result.andThen_ok]
  simp only []
  unfold Instr.slice
  rw [Sem.run_bind, run_underlying ht, Result.andThen_ok]
  simp only [Instr.sliceBounds]
  rcases hhi with ⟨rfl, rfl⟩ | ⟨k, rfl⟩ <;> rcases hlo with ⟨rfl, rfl⟩ | ⟨k', rfl⟩
  ·simp [hsz]
  ·have h6 := hbl k' lo xs.length .sliceB h1
   simp [hsz, h6]
  ·have h5 := hbl k hi cap .sliceAcap (by omega)
   simp [hsz, h5]
  ·have h5 := hbl k hi cap .sliceAcap (by omega)
   have h6 := hbl k' lo hi .sliceB h1
   simp [hsz, h5, h6]
 rcases hv.2 with ⟨a0, rfl, rfl⟩ | ⟨b, off, cap, cur, ty, fr, rfl, hF, hb, hc1, hc2, hc3, hr⟩
 ·have e1 : lo = 0 := by simp at h2; omega
  have e2 : hi = 0 := by simpa using h2
  subst e1; subst e2
  exact ⟨.slice a0 0 0, ⟨by simp, .inl ⟨a0, rfl, by simp⟩⟩, by simpa using run a0 0 rfl (by simp)⟩
 ·refine ⟨_, ?_, run (some ⟨b, off, none⟩) cap rfl hc1⟩
  by_cases hq : cap = lo
  ·rw [if_pos hq]
   have e0 : (xs.take hi).drop lo = [] := List.eq_nil_of_length_eq_zero (by rw [hlen]; omega)
   rw [e0]
   refine ⟨by simp, .inr ⟨b, off, cap - lo, cur, ty, fr, by simp; omega, hF, hb, by simp, by omega, by simp, by simp⟩⟩
  ·rw [if_neg hq]
   simp only [Option.map_some, Addr.add_none]
   refine ⟨by have := hv.1; omega, .inr ⟨b, off + lo * s, cap - lo, cur, ty, fr, by rw [hlen], hF, hb, by omega, by omega, ?_, ?_⟩⟩
   ·intro h0
    have h3 := hc3 (by omega)
    rw [hs] at h3 ⊢
    have h4 : lo * s + (cap - lo) * s = cap * s := by rw [← Nat.add_mul]; congr 1; omega
    omega
   ·intro i hi2
    have h5 : lo + i < xs.length := by omega
    have h6 := hr (lo + i) h5
    have e1 : ((xs.take hi).drop lo)[i] = xs[lo + i] := by simp
    rw [e1]
    have e2 : off + lo * s + i * E.sz = off + (lo + i) * E.sz := by rw [hs, Nat.add_mul]; omega
    rw [e2]
    exact h6
theorem O.subR {lo hi : Nat} {v v' : Value} {xs : List α} {ol oh : Option Operand} (hx : ev n f x = v)
 (hr : ∀ low high : Option Value, ((low = .none ∧ lo = 0) ∨ ∃ k, low = some (.int k lo)) → ((high = .none ∧ hi = xs.length) ∨ ∃ k, high = some (.int k hi)) → ∀ w', (Instr.sliceAt t v low high .none).run P w' = .ok v' w')
 (hlo : (ol = .none ∧ lo = 0) ∨ ∃ z k, ol = some z ∧ ev n f z = .int k lo) (hhi : (oh = .none ∧ hi = xs.length) ∨ ∃ z k, oh = some z ∧ ev n f z = .int k hi)
 (h : O P n ops rest N Z (upd f d v') w) :
 O P n ops (ZO d (.slice t x ol oh .none) tr pos after :: rest) N Z f w := by
 refine O.val rfl rfl ?_ h
 have h3 : execOp (ev n f) (ZO d (.slice t x ol oh .none) tr pos after) = (do pure (.value (← Instr.sliceAt t (ev n f x) (ol.map (ev n f)) (oh.map (ev n f)) .none))) := rfl
 have h4 := hr (ol.map (ev n f)) (oh.map (ev n f))
  (by rcases hlo with ⟨rfl, e⟩ | ⟨z, k, rfl, e⟩
      ·exact .inl ⟨rfl, e⟩
      ·exact .inr ⟨k, by simp [e]⟩)
  (by rcases hhi with ⟨rfl, e⟩ | ⟨z, k, rfl, e⟩
      ·exact .inl ⟨rfl, e⟩
      ·exact .inr ⟨k, by simp [e]⟩) w
 rw [h3, Sem.run_bind, hx, h4]
 rfl
theorem D.oneYes {l : List Oper} {listed : Array Bool} {fuel i : Nat} {dst : Option Nat} {op : Op} {ty : TypeId} {j dj : Nat} {b : Bool}
 (hi : l[i]? = some { dst := dst, op := op, type := ty, pos := pos, after := after, guard := some (j, b) }) (hj : (l[j]?).bind (·.dst) = some dj) (hv : ev n f (.tmp dj) = .bool b) (hr : Region.ready .any l.toArray listed = [i])
 (hO : O P n [{ dst := dst, op := op, type := ty, pos := pos, after := after, guard := .none }] [{ dst := dst, op := op, type := ty, pos := pos, after := after, guard := .none }] (fun f' w' => Le wB w' ∧ D P n l (listed.setIfInBounds i true) N Z wB fuel f' w') Z f w) : D P n l listed N Z wB (fuel + 1) f w := by
 refine wpAnyH_all hr (by simp) ?_
 intro i' hi'
 obtain rfl : i' = i := by simpa using hi'
 have hy0 : yielded l.toArray (Fr n f).tmps j = some b := by
  have hd := getD_Fr n f dj
  rw [hv] at hd
  unfold yielded
  have h1 : (l.toArray[j]?).bind (·.dst) = some dj := by simpa using hj
  rw [h1]
  simp only [Option.bind_some]
  rw [Array.getD_eq_getD_getElem?] at hd
  cases hx : (Fr n f).tmps[dj]? with
  | none => rw [hx] at hd; simp [undef] at hd
  | some v => rw [hx] at hd; simp at hd; subst hd; rfl
 unfold wpOp
 have hi2 : l.toArray[i']? = some { dst := dst, op := op, type := ty, pos := pos, after := after, guard := some (j, b) } := by simpa using hi
 rw [hi2]
 unfold O at hO
 simp only [wpList, Region.wanted, if_true, hy0, beq_self_eq_true] at hO ⊢
 have key : ∀ a' w', Q0 n (fun f' w' => Le wB w' ∧ D P n l (listed.setIfInBounds i' true) N Z wB fuel f' w') Z .normal a' w' → Le wB w' ∧ wpAnyH P .any l.toArray (Q0 n N Z) (fun w' => Le wB w') fuel (listed.setIfInBounds i' true) a' w' := by
  rintro a' w' ⟨f', rfl, h1, h2⟩
  exact ⟨h1, h2⟩
 rcases hO with h | ⟨_, a0, w0, h0⟩
 ·left
  unfold Oper.wp at h ⊢
  have hex : execOp (Fr n f).eval { dst := dst, op := op, type := ty, pos := pos, after := after, guard := some (j, b) } = execOp (Fr n f).eval { dst := dst, op := op, type := ty, pos := pos, after := after, guard := .none } := rfl
  rw [hex]
  generalize (execOp (Fr n f).eval { dst := dst, op := op, type := ty, pos := pos, after := after, guard := .none }).run P w = r at h ⊢
  cases r with
  | ok nx w' =>
    cases nx with
    | value v => exact key _ _ h
    | skip => exact key _ _ h
    | defer d => exact key _ _ h
    | enter k args =>
      refine Calls.mono h ?_
      intro e w'' he
      cases e with
      | returned v => exact key _ _ he
      | panicked ch => exact he
      | outgrown => obtain ⟨a0, w0, h0⟩ := he; exact h0.elim
    | row r args => exact Rows.mono h fun v w'' hv => key _ _ hv
    | _ => exact h.elim
  | halt hh w' => cases hh <;> first | exact h | exact h.elim
 ·exact h0.elim
end
end Go.Pn
end
section
namespace Go.Pn
open Go.ChangeShapes Go.WideShapes Go.ChangeAt Go.RowKit
def slE {α : Type} (E : Enc α) : Enc (List α) where
 sz := 1
 rep := fun w F cs xs => ∃ v, cs = [v] ∧ Sl E w F v xs
 len := by rintro w F cs x ⟨v, rfl, _⟩; rfl
 one := by
  rintro w F cs x ⟨v, rfl, h⟩ c hc
  obtain rfl : c = v := by simpa using hc
  obtain ⟨l, cap, rfl, _⟩ := h.val
  rfl
 ext := by rintro w w' F cs x ⟨v, rfl, h⟩ hw; exact ⟨v, rfl, h.ext hw⟩
 weak := by rintro w F F' cs x ⟨v, rfl, h⟩ hF; exact ⟨v, rfl, h.weak hF⟩
def prE {α β : Type} (E : Enc α) (E' : Enc β) : Enc (α × β) where
 sz := E.sz + E'.sz
 rep := fun w F cs x => ∃ a b, cs = a ++ b ∧ E.rep w F a x.1 ∧ E'.rep w F b x.2
 len := by rintro w F cs x ⟨a, b, rfl, h1, h2⟩; rw [List.length_append, E.len h1, E'.len h2]
 one := by
  rintro w F cs x ⟨a, b, rfl, h1, h2⟩ c hc
  rcases List.mem_append.1 hc with h | h
  ·exact E.one h1 c h
  ·exact E'.one h2 c h
 ext := by rintro w w' F cs x ⟨a, b, rfl, h1, h2⟩ hw; exact ⟨a, b, rfl, E.ext h1 hw, E'.ext h2 hw⟩
 weak := by rintro w F F' cs x ⟨a, b, rfl, h1, h2⟩ hF; exact ⟨a, b, rfl, E.weak h1 hF, E'.weak h2 hF⟩
def intK (k : IntKind) : Flat Int := ⟨1, fun x => [.int k x], fun _ => rfl, by simp [Value.oneCell'], by decide⟩
def strF : Flat (List UInt8) := ⟨1, fun x => [str x], fun _ => rfl, by simp [Value.oneCell', str], by decide⟩
theorem cell_at {W : World} {a : Addr} {v : Value} (h : W.cell? a = some v) : ∃ cur ty fr, a.spot = none ∧ W.heap[a.block]? = some (.cells cur ty fr) := by
 unfold World.cell? at h
 split at h
 ·rename_i c ty fr hh
  split at h
  ·cases h
  ·rename_i hs
   exact ⟨c, ty, fr, by simpa using hs, hh⟩
 ·cases h
structure Opens (P : Program) (W : World) {α : Type} (E : Enc α) (Q : α → Prop) (t : TypeId) : Prop where
 sz : P.cellsOf t = E.sz
 op : ∀ {H : Type} {enc : TypeId × Value → H} {fuel : Nat} {cs : List Value} {x : DataW H × List MemPlace}, DataW.trod enc P W 0 (fun _ => true) true fuel t cs = some x → ∃ d, E.rep W (fun k => k < W.heap.size) cs d ∧ Q d
section
variable {P : Program} {W : World} {α β : Type} {E : Enc α} {E' : Enc β} {Q : α → Prop} {Q' : β → Prop} {t e : TypeId}
theorem Opens.int {k : IntKind} (ht : P.underlying t = some (.int k)) (hc : P.cellsOf t = 1) : Opens P W (intK k).enc (fun z => (Lit.int k z).wf = true) t :=
 ⟨hc, fun h => by obtain ⟨z, rfl, _, hw⟩ := DataW.trod_int ht h; exact ⟨z, rfl, hw⟩⟩
theorem Opens.str (ht : P.underlying t = some .string) (hc : P.cellsOf t = 1) : Opens P W strF.enc (fun l => l.length ≤ maxLen) t :=
 ⟨hc, fun h => by
  obtain ⟨s, rfl, _, hw⟩ := DataW.trod_string ht h
  refine ⟨s.data.toList, ?_, by rw [Array.length_toList]; exact hw⟩
  show [Value.string s] = [Go.Pn.str s.data.toList]
  unfold Go.Pn.str
  simp⟩
theorem Opens.imp (h : Opens P W E Q t) (hs : E'.sz = E.sz) (hi : ∀ cs d, E.rep W (fun k => k < W.heap.size) cs d → Q d → ∃ d', E'.rep W (fun k => k < W.heap.size) cs d' ∧ Q' d') : Opens P W E' Q' t :=
 ⟨h.sz.trans hs.symm, fun hx => by obtain ⟨d, h1, h2⟩ := h.op hx; exact hi _ d h1 h2⟩
theorem Opens.slice (h : Opens P W E Q e) (ht : P.underlying t = some (.slice e)) (hc : P.cellsOf t = 1) (hpos : 0 < E.sz) : Opens P W (slE E) (fun l => ∀ x ∈ l, Q x) t := by
 refine ⟨hc, fun {H enc fuel cs x} hx => ?_⟩
 rcases Deep.open_slice ht hx with ⟨rfl, _⟩ | ⟨a, len, cap, m, n, D, Pl, rfl, _, hl, hm, hmm, _, hel⟩
 ·exact ⟨[], ⟨_, rfl, Sl.nil _ _ _⟩, by simp⟩
 ·simp only [if_true] at hmm
  subst hmm
  rcases Nat.eq_zero_or_pos m with rfl | hpm
  ·obtain rfl : len = 0 := by omega
   exact ⟨[], ⟨_, rfl, by simp, .inl ⟨_, rfl, rfl⟩⟩, by simp⟩
  ·have each : ∀ i, i < m → ∃ q : α, ∃ cs', W.cells? 0 (a.add (i * E.sz)) E.sz = some cs' ∧ E.rep W (fun k => k < W.heap.size) cs' q ∧ Q q := by
    intro i hi
    obtain ⟨cs', h1, h2⟩ := hel i hi
    rw [h.sz] at h1
    obtain ⟨d, h3, h4⟩ := h.op h2
    exact ⟨d, cs', h1, h3, h4⟩
   obtain ⟨d0, _⟩ := each 0 hpm
   haveI : Inhabited α := ⟨d0⟩
   obtain ⟨q, hq⟩ := Deep.choose_lt each
   have hcell : ∀ i, i < m → ∀ j, j < E.sz → ∃ cs', E.rep W (fun k => k < W.heap.size) cs' (q i) ∧ cs'.length = E.sz ∧ W.cell? (a.add (i * E.sz + j)) = cs'[j]? := by
    intro i hi j hj
    obtain ⟨cs', h1, h2, _⟩ := hq i hi
    obtain ⟨_, hlen, hc⟩ := World.cells?_some h1
    refine ⟨cs', h2, hlen, ?_⟩
    rw [← hc j hj, Deep.add_add]
   obtain ⟨cs0, _, hl0, hc0⟩ := hcell 0 hpm 0 hpos
   rw [Nat.zero_mul, List.getElem?_eq_getElem (by omega)] at hc0
   obtain ⟨cur, ty, fr, hsp, hb⟩ := cell_at hc0
   obtain ⟨b, off, spot⟩ := a
   have hsp' : spot = none := by
    unfold Addr.add at hsp
    simpa using hsp
   subst hsp'
   have hb' : W.heap[b]? = some (.cells cur ty fr) := by
    unfold Addr.add at hb
    simpa using hb
   have hcur : ∀ k v, W.cell? ⟨b, k, none⟩ = some v → cur[k]? = some v := by
    intro k v hk
    unfold World.cell? at hk
    simpa [hb'] using hk
   refine ⟨(List.range len).map q, ⟨_, rfl, by simp; omega, .inr ⟨b, off, m, cur, ty, fr, by simp, lt_of_some hb', hb', by simpa using hl, hm, ?_, ?_⟩⟩, ?_⟩
   ·intro _
    obtain ⟨cs1, _, hl1, hc1⟩ := hcell (m - 1) (by omega) (E.sz - 1) (by omega)
    rw [List.getElem?_eq_getElem (by omega), Addr.add_none] at hc1
    have h2 := (Array.getElem?_eq_some_iff.1 (hcur _ _ hc1)).1
    have h3 : (m - 1) * E.sz + E.sz = m * E.sz := by
     obtain ⟨m', rfl⟩ : ∃ m', m = m' + 1 := ⟨m - 1, by omega⟩
     rw [Nat.add_sub_cancel, Nat.add_mul, Nat.one_mul]
    omega
   ·intro i hi
    have hi2 : i < len := by simpa using hi
    obtain ⟨cs', h1, h2, _⟩ := hq i (by omega)
    obtain ⟨_, hlen, hc⟩ := World.cells?_some h1
    have e1 : (cur.toList.drop (off + i * E.sz)).take E.sz = cs' := by
     apply List.ext_getElem?
     intro j
     by_cases hj : j < E.sz
     ·rw [List.getElem?_take, if_pos hj, List.getElem?_drop]
      have h3 := hc j hj
      rw [Deep.add_add, Addr.add_none, List.getElem?_eq_getElem (by omega)] at h3
      have h4 := hcur _ _ h3
      rw [List.getElem?_eq_getElem (l := cs') (by omega), Array.getElem?_toList, Nat.add_assoc]
      exact h4
     ·rw [List.getElem?_eq_none (by rw [List.length_take]; omega), List.getElem?_eq_none (by omega)]
    rw [e1]
    simpa using h2
   ·intro x hx
    obtain ⟨i, hi, rfl⟩ := List.mem_map.1 hx
    obtain ⟨_, _, _, h3⟩ := hq i (by have := List.mem_range.1 hi; omega)
    exact h3
theorem Opens.arg (h : Opens P W E Q t) {H : Type} {enc : TypeId × Value → H} {v : Value} {d : DataW H} {p : List MemPlace} (hd : DataW.Trod enc P W 0 (fun _ => true) true t v d p) : ∃ d, E.rep W (fun k => k < W.heap.size) v.cells.toList d ∧ Q d := by
 obtain ⟨fuel, hf⟩ := hd
 exact h.op hf
theorem arg_slice {H : Type} {enc : TypeId × Value → H} {base : Nat} {v : Value} {d : DataW H} {p : List MemPlace} (h : Opens P W E Q e) (ht : P.underlying t = some (.slice e)) (hc : P.cellsOf t = 1) (hpos : 0 < E.sz)
 (hval : Value.okWide P W .any base t v) (hd : DataW.Trod enc P W 0 (fun _ => true) true t v d p) : ∃ l : List α, Sl E W (fun k => k < W.heap.size) v l ∧ ∀ x ∈ l, Q x := by
 obtain ⟨a, len, cap, rfl⟩ := okWide_slice ht hval
 obtain ⟨l, ⟨v', h1, h2⟩, h3⟩ := (h.slice ht hc hpos).arg hd
 have e1 : v' = .slice a len cap := by simpa [Value.cells] using h1.symm
 subst e1
 exact ⟨l, h2, h3⟩
end
end Go.Pn
end
section
namespace Go.Pn
open Go.RowKit
def isNilS : Value → Bool
 | .slice none _ _ => true
 | _ => false
theorem isNilS_nil {α : Type} {E : Enc α} {w : World} {F : Nat → Prop} {v : Value} {xs : List α} (hv : Sl E w F v xs) (h : isNilS v = true) : xs = [] := by
 rcases hv.2 with ⟨a0, rfl, rfl⟩ | ⟨b, off, cap, cur, ty, fr, rfl, _⟩
 ·rfl
 ·cases h
section
variable {P : Program} {n : Nat} {ops rest : List Oper} {N : Val → World → Prop} {Z : List PanicEntry → World → Prop} {f : Val} {w : World}
 {d : Nat} {x : Operand} {t t' e tr : TypeId} {pos : String} {after : Array Edge} {α : Type} {E : Enc α} {F : Nat → Prop}
theorem run_eql_nilS {v : Value} {xs : List α} (ht : P.underlying t = some (.slice e)) (hv : Sl E w F v xs) : (binOp .eql t v (.slice none 0 0)).run P w = .ok (.bool (isNilS v)) w := by
 rcases hv.2 with ⟨a0, rfl, rfl⟩ | ⟨b, off, cap, cur, ty, fr, rfl, _⟩
 ·have h2 : binOp .eql t (.slice a0 0 0) (.slice none 0 0) = (do pure (.bool (← Op.equal t (.slice a0 0 0) (.slice none 0 0)))) := rfl
  have h1 : (Op.equal t (.slice a0 0 0) (.slice none 0 0)).run P w = .ok (isNilS (.slice a0 0 0)) w := by
   unfold Op.equal Op.maxDepth
   rw [Op.equalIn, Sem.run_bind, run_underlying ht]
   cases a0 <;> rfl
  rw [h2, Sem.run_bind, h1]
  rfl
 ·have h2 : binOp .eql t (.slice (some ⟨b, off, none⟩) xs.length cap) (.slice none 0 0) = (do pure (.bool (← Op.equal t (.slice (some ⟨b, off, none⟩) xs.length cap) (.slice none 0 0)))) := rfl
  have h1 : (Op.equal t (.slice (some ⟨b, off, none⟩) xs.length cap) (.slice none 0 0)).run P w = .ok false w := by
   unfold Op.equal Op.maxDepth
   rw [Op.equalIn, Sem.run_bind, run_underlying ht]
   rfl
  rw [h2, Sem.run_bind, h1]
  rfl
theorem eqGuard_sl {op : BinOp} {y : Operand} {v : Value} {a : Option Addr} {k c : Nat} {xs : List α} (hv : Sl E w F v xs) : (eqGuard op t x y v (.slice a k c)).run P w = .ok () w := by
 rcases hv.2 with ⟨a0, rfl, rfl⟩ | ⟨b, off, cap, cur, ty, fr, rfl, _⟩ <;> cases op <;> rfl
theorem O.eqlNilS {v : Value} {xs : List α} (ht : P.underlying t = some (.slice e)) (hx : ev n f x = v) (hv : Sl E w F v xs) (h : O P n ops rest N Z (upd f d (.bool (isNilS v))) w) :
 O P n ops (ZO d (.binOp .eql t x (.const (.slice none 0 0)) t') tr pos after :: rest) N Z f w :=
 O.val rfl rfl (run_bin hx (y := .const (.slice none 0 0)) rfl (eqGuard_sl hv) (run_eql_nilS ht hv) _ _) h
end
theorem OwnF.lit0 {α : Type} {G : Flat α} {ty : TypeId} {B : Nat} {w : World} {b : Nat} (h : Own0 w b ty []) (hB : B ≤ b) : OwnF G ty B w (.slice (some ⟨b, 0, none⟩) 0 0) [] :=
 ⟨⟨by simp, .inr ⟨b, 0, #[], rfl, hB, h, by simp, by unfold maxLen; omega, by simp, by simp⟩⟩, by simp⟩
theorem fill_seq : ∀ (vs : List Value) (k : Nat) (cells : Array Value), cells.size = k + vs.length → (∀ v ∈ vs, v.oneCell' = true) →
 Instr.fill (fun i => some (i * 1, 1)) cells ((List.range' k vs.length).zip vs) = some (cells.toList.take k ++ vs).toArray := by
 intro vs
 induction vs with
 | nil =>
   intro k cells h _
   have e : cells.toList.take k = cells.toList := List.take_of_length_le (by simp at h; simp; omega)
   simp [Instr.fill, e]
 | cons v vs ih =>
   intro k cells h h1
   have hv := h1 v (by simp)
   have hcells : v.cells = #[v] := by cases v <;> first | rfl | simp [Value.oneCell'] at hv
   rw [List.length_cons, List.range'_succ, List.zip_cons_cons]
   unfold Instr.fill
   simp only [hcells, Nat.mul_one]
   rw [if_neg (by simp at h ⊢; omega)]
   have e : (#[v].zipIdx.foldl (fun (cs : Array Value) (x : Value × Nat) => cs.setIfInBounds (k + x.2) x.1) cells) = cells.setIfInBounds k v := by simp
   have h2 := ih (k + 1) (cells.setIfInBounds k v) (by rw [Array.size_setIfInBounds, h, List.length_cons]; omega) (fun u hu => h1 u (by simp [hu]))
   simp only [Nat.mul_one] at h2
   rw [e, h2]
   have hk : k < cells.toList.length := by simp at h ⊢; omega
   have e2 : (cells.setIfInBounds k v).toList.take (k + 1) = cells.toList.take k ++ [v] := by
    rw [Array.toList_setIfInBounds, List.take_succ_eq_append_getElem (by simpa using hk)]
    have e3 : List.take k (cells.toList.set k v) = List.take k cells.toList := by
     rw [List.take_set, List.set_eq_of_length_le (by simp; omega)]
    rw [e3]
    simp
   rw [e2, List.append_assoc]
   rfl
section
variable {P : Program} {n : Nat} {ops rest : List Oper} {N : Val → World → Prop} {Z : List PanicEntry → World → Prop} {f : Val} {w : World}
 {d : Nat} {t e tr : TypeId} {pos : String} {after : Array Edge}
theorem O.litn {len : Nat} {parts : List (Nat × Operand)} {ie : TypeInfo} {z : Value} (vs : List Value) (hu : P.underlying t = some (.slice e)) (hie : P.info? e = some ie) (hsz : ie.size = 1) (hz : ie.zero = some z) (hl : vs.length = len) (hsmall : ¬ len > 2 ^ 24) (hpos : ¬ len = 0)
 (hvs : parts.map (fun x => (x.1, ev n f x.2)) = (List.range' 0 vs.length).zip vs) (h1 : ∀ v ∈ vs, v.oneCell' = true)
 (h : ∀ b w', w.heap.size ≤ b → Own0 w' b e vs → Le w w' → O P n ops rest N Z (upd f d (.slice (some ⟨b, 0, none⟩) len len)) w') :
 O P n ops (ZO d (.buildSlice t len parts.toArray) tr pos after :: rest) N Z f w := by
 refine O.lit (cells := vs.toArray) hu hie hz (by rw [hsz, Nat.mul_one]; exact hsmall) (by rw [hsz, Nat.mul_one]; exact hpos) hvs ?_ (by simpa using h)
 rw [hsz, fill_seq vs 0 _ (by simp [hl]) h1]
 simp
end
section
variable {P : Program} {n : Nat} {ops rest : List Oper} {N : Val → World → Prop} {Z : List PanicEntry → World → Prop} {f : Val} {w : World}
 {d : Nat} {x : Operand} {t tr : TypeId} {pos : String} {after : Array Edge}
end
theorem OwnF.ptr {α : Type} {G : Flat α} {ty : TypeId} {B : Nat} {w : World} {v : Value} {xs : List α} (h : OwnF G ty B w v xs) (hne : 0 < xs.length) : ∃ g cap, v = .slice (some ⟨g, 0, none⟩) xs.length cap := by
 obtain ⟨g, cap, _, hv, _⟩ := h.block hne
 exact ⟨g, cap, hv⟩
theorem OwnF.set {α : Type} {G : Flat α} {ty : TypeId} {B : Nat} {w : World} {g cap i : Nat} {xs : List α} {x : α} {u : Value} (hG : ∀ x, (G.e x).length = 1) (hu : G.e x = [u]) (h : OwnF G ty B w (.slice (some ⟨g, 0, none⟩) xs.length cap) xs) (hi : i < xs.length) :
 OwnF G ty B (w.setCell ⟨g, i, none⟩ u) (.slice (some ⟨g, 0, none⟩) xs.length cap) (xs.set i x) := by
 obtain ⟨h0, hm⟩ := h
 refine ⟨⟨by rw [G.length], ?_⟩, by rw [List.length_set]; exact hm⟩
 rcases h0.2 with ⟨h1, _⟩ | ⟨g', cap', cur, h1, hb, hg, hn, hc, hsz, ht⟩
 ·cases h1
 ·have e1 : g = g' := by cases h1; rfl
  have e2 : cap = cap' := by cases h1; rfl
  subst e1; subst e2
  have hset : ∀ (ys : List α) (j : Nat), j < ys.length → (ys.set j x).flatMap G.e = (ys.flatMap G.e).set j u := by
   intro ys
   induction ys with
   | nil => intro j hj; simp at hj
   | cons y ys ih =>
     intro j hj
     obtain ⟨c, hc⟩ : ∃ c, G.e y = [c] := by
      have := hG y
      match hq : G.e y, this with
      | [c], _ => exact ⟨c, rfl⟩
     cases j with
     | zero => simp [hu, hc]
     | succ j => simp [hc, ih j (by simpa using hj)]
  refine .inr ⟨g, cap, (cur.toList.set i u).toArray, by rw [List.length_set], hb, ?_, by rw [List.length_set]; exact hn, hc, by simpa using hsz, ?_⟩
  ·have h5 := heap_set w g i u (cs := cur.toList) (ty := ty) (fr := (0, 0)) (by simpa using hg)
   exact h5
  ·rw [List.length_set, hset xs i hi, ← ht]
   simp only [List.take_set]
section
variable {P : Program} {n : Nat} {ops rest : List Oper} {N : Val → World → Prop} {Z : List PanicEntry → World → Prop} {f : Val} {w : World}
 {x y : Operand} {t tr : TypeId} {pos : String} {after : Array Edge}
theorem O.storeF {α : Type} {G : Flat α} {ty : TypeId} {B g cap i : Nat} {xs : List α} (z : α) {u : Value} (hsz : ∀ w, (sizeOf t).run P w = .ok 1 w) (hs : G.sz = 1) (hG : ∀ x, (G.e x).length = 1) (hu : G.e z = [u]) (hx : ev n f x = .pointer (some ⟨g, i, none⟩)) (hy : ev n f y = u)
 (ho : OwnF G ty B w (.slice (some ⟨g, 0, none⟩) xs.length cap) xs) (hi : i < xs.length)
 (h : ∀ w', OwnF G ty B w' (.slice (some ⟨g, 0, none⟩) xs.length cap) (xs.set i z) → Ext (fun k => k = g) w w' → w'.heap.size = w.heap.size → O P n ops rest N Z f w') :
 O P n ops ({ dst := .none, op := .store t x y, type := tr, pos := pos, after := after, guard := .none } :: rest) N Z f w := by
 have h1 : u.oneCell' = true := G.one z u (by rw [hu]; simp)
 obtain ⟨g', cap', cs, hv, hown, hcs, hn, _, hc3, _⟩ := ho.block (by omega)
 have e1 : g = g' := by cases hv; rfl
 have e2 : cap = cap' := by cases hv; rfl
 subst e1; subst e2
 refine O.act rfl rfl ?_ (h (w.setCell ⟨g, i, none⟩ u) (ho.set hG hu hi) (Ext.set w ⟨g, i, none⟩ u) (by simp))
 have h3 : execOp (ev n f) { dst := .none, op := .store t x y, type := tr, pos := pos, after := after, guard := .none } = (do Instr.storeAt t (ev n f x) (ev n f y); pure .skip) := rfl
 rw [h3, Sem.run_bind, hx, hy]
 have hcells : u.cells = #[u] := by cases u <;> first | rfl | simp [Value.oneCell'] at h1
 have hlt : i < cs.length := by rw [hs, Nat.mul_one] at hc3; omega
 have hc := hown.cell (i := i) (v := cs[i]) (by simp)
 have hf := hown.free hlt
 have h4 : (Instr.storeAt t (.pointer (some ⟨g, i, none⟩)) u).run P w = .ok () (w.setCell ⟨g, i, none⟩ u) := by
  simp [Instr.storeAt, Instr.sureAddr, storeVar, hsz, hcells, storeCells, Addr.add, run_store P w ⟨g, i, none⟩ u .plain h1, hc, hf]
 rw [h4]
 rfl
end
section
variable {P : Program} {n : Nat} {ops rest : List Oper} {N : Val → World → Prop} {Z : List PanicEntry → World → Prop} {f : Val} {w : World}
 {d : Nat} {x y : Operand} {t t' tr : TypeId} {pos : String} {after : Array Edge} {α : Type} {G : Flat α} {F : Nat → Prop}
theorem O.fieldAd {fields : Array Field} {fd : Field} {k s b o : Nat} (ht : P.underlying t = some (.struct fields)) (hf : fields[k]? = some fd) (hs : ∀ w, (sizeOf fd.type).run P w = .ok s w) (h0 : s ≠ 0) (hx : ev n f x = .pointer (some ⟨b, o, none⟩))
 (h : O P n ops rest N Z (upd f d (.pointer (some ⟨b, o + fd.offset, none⟩))) w) : O P n ops (ZO d (.fieldAddr t x k) tr pos after :: rest) N Z f w := by
 refine O.val rfl rfl ?_ h
 have h3 : execOp (ev n f) (ZO d (.fieldAddr t x k) tr pos after) = (do pure (.value (← Instr.fieldAt t (ev n f x) k))) := rfl
 rw [h3, Sem.run_bind, hx]
 have h4 : (Instr.fieldAt t (.pointer (some ⟨b, o, none⟩)) k).run P w = .ok (.pointer (some ⟨b, o + fd.offset, none⟩)) w := by
  unfold Instr.fieldAt
  rw [Sem.run_bind, run_underlying ht, Result.andThen_ok]
  simp [hf, Instr.sureAddr, fieldPlace, hs, h0, Addr.add_none]
 rw [h4]
 rfl
theorem O.fa {fields : Array Field} {fd : Field} {k s b o : Nat} (ht : P.underlying t = some (.struct fields)) (hf : fields[k]? = some fd) (hs : ∀ w, (sizeOf fd.type).run P w = .ok s w) (hx : ev n f x = .pointer (some ⟨b, o, none⟩))
 (h : O P n ops rest N Z (upd f d (.pointer (some ⟨b, o + fd.offset, none⟩))) w) (h0 : s ≠ 0 := by decide) : O P n ops (ZO d (.fieldAddr t x k) tr pos after :: rest) N Z f w := O.fieldAd ht hf hs h0 hx h
theorem run_load_flat {a : Addr} {z : α} (ha : At G.enc w F a z) : (loadCells a G.sz).run P w = .ok (G.e z).toArray w := by
 obtain ⟨b, off, cur, ty, fr, rfl, hF, hb, hs, hr⟩ := ha
 have hr' : (cur.toList.drop off).take G.sz = G.e z := hr
 rw [← G.len z]
 refine run_loadCells_list w ⟨b, off, none⟩ (G.e z) fun j v hj => ?_
 rw [Addr.add_none]
 rw [← hr', List.getElem?_take] at hj
 split at hj
 ·rw [List.getElem?_drop] at hj
  simp only [World.cell?, hb, Option.isSome_none, Bool.false_eq_true, if_false]
  simpa using hj
 ·cases hj
theorem O.loadG {a : Addr} {z : α} (hag : ∀ w, (isAgg t).run P w = .ok true w) (hs : ∀ w, (sizeOf t).run P w = .ok G.sz w) (hx : ev n f x = .pointer (some a)) (ha : At G.enc w F a z)
 (h : O P n ops rest N Z (upd f d (.agg (G.e z).toArray)) w) : O P n ops (ZO d (.load t x) tr pos after :: rest) N Z f w := by
 refine O.val rfl rfl ?_ h
 have h3 : execOp (ev n f) (ZO d (.load t x) tr pos after) = (do pure (.value (← Instr.loadAt t (ev n f x)))) := rfl
 rw [h3, Sem.run_bind, hx]
 have h4 : (Instr.loadAt t (.pointer (some a))).run P w = .ok (.agg (G.e z).toArray) w := by
  simp [Instr.loadAt, Instr.sureAddr, loadVar, hag, hs, run_load_flat (P := P) ha]
 rw [h4]
 rfl
theorem O.loadOA {b o s : Nat} {ty : TypeId} {cs : List Value} (hag : ∀ w, (isAgg t).run P w = .ok true w) (hs : ∀ w, (sizeOf t).run P w = .ok s w) (hx : ev n f x = .pointer (some ⟨b, o, none⟩)) (ho : Own w b ty cs) (hlt : o + s ≤ cs.length)
 (h : O P n ops rest N Z (upd f d (.agg ((cs.drop o).take s).toArray)) w) : O P n ops (ZO d (.load t x) tr pos after :: rest) N Z f w := by
 refine O.val rfl rfl ?_ h
 have h3 : execOp (ev n f) (ZO d (.load t x) tr pos after) = (do pure (.value (← Instr.loadAt t (ev n f x)))) := rfl
 rw [h3, Sem.run_bind, hx]
 have hl : ((cs.drop o).take s).length = s := by simp; omega
 have hr : (loadCells ⟨b, o, none⟩ s).run P w = .ok ((cs.drop o).take s).toArray w := by
  have h5 := run_loadCells_list (P := P) w ⟨b, o, none⟩ ((cs.drop o).take s) fun j v hj => by
   rw [Addr.add_none]
   rw [List.getElem?_take] at hj
   split at hj
   ·rw [List.getElem?_drop] at hj; exact ho.cell hj
   ·cases hj
  rwa [hl] at h5
 have h4 : (Instr.loadAt t (.pointer (some ⟨b, o, none⟩))).run P w = .ok (.agg ((cs.drop o).take s).toArray) w := by
  simp [Instr.loadAt, Instr.sureAddr, loadVar, hag, hs, hr]
 rw [h4]
 rfl
theorem O.build {parts : List (Nat × Operand)} {vs : List (Nat × Value)} {cells : Array Value} (hvs : parts.map (fun x => (x.1, ev n f x.2)) = vs) (hb : P.built t vs = some cells) (h : O P n ops rest N Z (upd f d (.agg cells)) w) :
 O P n ops (ZO d (.build t parts.toArray) tr pos after :: rest) N Z f w := by
 refine O.val rfl rfl ?_ h
 have h3 : execOp (ev n f) (ZO d (.build t parts.toArray) tr pos after) = (do pure (.value (← Instr.build t (parts.toArray.map fun x => (x.1, ev n f x.2))))) := rfl
 rw [h3, Sem.run_bind, run_build w t _ cells (by simpa [hvs] using hb)]
 rfl
end
theorem run_storeCells_own {P : Program} {b : Nat} {ty : TypeId} : ∀ (vs : List Value) (o i : Nat) (cs : List Value) (w : World), Own w b ty cs → o + i + vs.length ≤ cs.length → (∀ v ∈ vs, v.oneCell' = true) →
 ∃ w', (storeCells ⟨b, o, none⟩ vs i).run P w = .ok () w' ∧ Own w' b ty (cs.take (o + i) ++ vs ++ cs.drop (o + i + vs.length)) ∧ Ext (fun k => k = b) w w' ∧ w'.heap.size = w.heap.size := by
 intro vs
 induction vs with
 | nil =>
   intro o i cs w ho _ _
   exact ⟨w, rfl, by simpa using ho, Ext.refl _ _, rfl⟩
 | cons v vs ih =>
   intro o i cs w ho hl h1
   have hl' : o + i < cs.length := by simp at hl; omega
   have hv := h1 v (by simp)
   have hc := ho.cell (i := o + i) (v := cs[o + i]) (by simp)
   have hf := ho.free hl'
   have ho' := ho.set (o + i) v
   obtain ⟨w', hr, ho2, he, hs⟩ := ih o (i + 1) (cs.set (o + i) v) _ ho' (by simp at hl ⊢; omega) (fun u hu => h1 u (by simp [hu]))
   refine ⟨w', ?_, ?_, (Ext.set w ⟨b, o + i, none⟩ v).trans he, by rw [hs]; simp⟩
   ·have e : storeCells ⟨b, o, none⟩ (v :: vs) i = (do store ((⟨b, o, none⟩ : Addr).add i) v; storeCells ⟨b, o, none⟩ vs (i + 1)) := rfl
    rw [e, Sem.run_bind, Addr.add_none]
    have hst : (store ⟨b, o + i, none⟩ v).run P w = .ok () (w.setCell ⟨b, o + i, none⟩ v) := by
     have := run_store P w ⟨b, o + i, none⟩ v .plain hv
     simpa [hc, hf] using this
    rw [hst, Result.andThen_ok, hr]
   ·have e1 : (cs.set (o + i) v).take (o + (i + 1)) = cs.take (o + i) ++ [v] := by
     rw [show o + (i + 1) = o + i + 1 by omega, List.take_succ_eq_append_getElem (by simpa using hl')]
     rw [List.take_set, List.set_eq_of_length_le (by simp; omega)]
     simp
    have e2 : (cs.set (o + i) v).drop (o + (i + 1) + vs.length) = cs.drop (o + i + (vs.length + 1)) := by
     rw [List.drop_set_of_lt (by omega)]
     congr 1
     omega
    rw [e1, e2] at ho2
    simpa using ho2
section
variable {P : Program} {n : Nat} {ops rest : List Oper} {N : Val → World → Prop} {Z : List PanicEntry → World → Prop} {f : Val} {w : World}
 {x y : Operand} {t ty tr : TypeId} {pos : String} {after : Array Edge}
theorem O.storeA {b o s : Nat} {cs vs : List Value} (hsz : ∀ w, (sizeOf t).run P w = .ok s w) (hl : vs.length = s) (hx : ev n f x = .pointer (some ⟨b, o, none⟩)) (hy : ev n f y = .agg vs.toArray) (h1 : ∀ v ∈ vs, v.oneCell' = true) (ho : Own w b ty cs) (hlt : o + s ≤ cs.length)
 (h : ∀ w', Own w' b ty (cs.take o ++ vs ++ cs.drop (o + s)) → Ext (fun k => k = b) w w' → w'.heap.size = w.heap.size → O P n ops rest N Z f w') :
 O P n ops ({ dst := .none, op := .store t x y, type := tr, pos := pos, after := after, guard := .none } :: rest) N Z f w := by
 subst hl
 obtain ⟨w', hr, ho', he, hs⟩ := run_storeCells_own (P := P) vs o 0 cs w ho (by simpa using hlt) h1
 refine O.act rfl rfl ?_ (h w' (by simpa using ho') he hs)
 have h3 : execOp (ev n f) { dst := .none, op := .store t x y, type := tr, pos := pos, after := after, guard := .none } = (do Instr.storeAt t (ev n f x) (ev n f y); pure .skip) := rfl
 rw [h3, Sem.run_bind, hx, hy]
 have h4 : (Instr.storeAt t (.pointer (some ⟨b, o, none⟩)) (.agg vs.toArray)).run P w = .ok () w' := by
  simp [Instr.storeAt, Instr.sureAddr, storeVar, hsz, Value.cells, hr]
 rw [h4]
 rfl
end
end Go.Pn
end
section
namespace Go.Pn
open Go.RowKit
section
variable {P : Program} {n : Nat} {ops rest : List Oper} {N : Val → World → Prop} {X : Nat → Val → World → Prop} {R : Val → World → Prop} {Z : List PanicEntry → World → Prop} {f : Val} {w : World}
 {d : Nat} {x y : Operand} {t t' e tr : TypeId} {pos : String} {after : Array Edge}
theorem C.drawD {l : List Oper} {id : Nat} (hm : P.follows .mixedOrders = true) (h : ∀ w1, Le w w1 → w1.drawn = w.drawn + 1 → D P n l (Array.replicate l.toArray.size false) N Z w1 l.toArray.size f w1) : C P n (.region id l.toArray true) N X R Z f w := by
 refine wp_mono (wp_region_held (S := fun w' => Le { w with drawn := w.drawn + 1 } w') hm (h { w with drawn := w.drawn + 1 } ⟨rfl, rfl, rfl, Nat.le_refl _, fun _ _ _ => rfl⟩ rfl)) ?_
 intro e a w he
 cases e with
 | normal => exact he
 | exit i => obtain ⟨_, _, h⟩ := he; exact h.elim
 | goto l => exact he
 | ret => obtain ⟨_, _, h⟩ := he; exact h.elim
 | panic ch => exact he
 | outgrown => exact he
end
theorem grow_of_le {w w' : World} (e : Le w w') (hd : w.drawn ≤ w'.drawn) : ∃ q os, w' = Go.Sort.grow (w.drewN q) os := by
 refine ⟨w'.drawn - w.drawn, w'.heap.extract w.heap.size w'.heap.size, ?_⟩
 have hheap : w'.heap = w.heap ++ w'.heap.extract w.heap.size w'.heap.size := by
  apply Array.ext_getElem?
  intro i
  by_cases hi : i < w.heap.size
  ·rw [Array.getElem?_append_left hi]
   exact e.block i hi not_false
  ·rw [Array.getElem?_append_right (by omega), Array.getElem?_extract]
   have hs := e.size
   split
   ·congr 1
    omega
   ·rw [Array.getElem?_eq_none (by omega)]
 have hdr : w'.drawn = w.drawn + (w'.drawn - w.drawn) := by omega
 have e1 := e.os
 have e2 := e.tape
 have e3 := e.output
 cases w with
 | mk h t d o u =>
   cases w' with
   | mk h' t' d' o' u' =>
     simp only at hheap hdr e1 e2 e3
     subst e1 e2 e3
     unfold Go.Sort.grow World.drewN
     simp only [World.mk.injEq, true_and, and_true]
     exact ⟨hheap, hdr⟩
theorem foldl_sets (off : Nat) : ∀ (vs : List Value) (i : Nat) (cs : Array Value), off + i + vs.length ≤ cs.size →
 ((vs.zipIdx i).foldl (fun (cs : Array Value) (x : Value × Nat) => cs.setIfInBounds (off + x.2) x.1) cs).toList = cs.toList.take (off + i) ++ vs ++ cs.toList.drop (off + i + vs.length) := by
 intro vs
 induction vs with
 | nil => intro i cs _; simp
 | cons v vs ih =>
   intro i cs h
   rw [List.zipIdx_cons, List.foldl_cons, ih (i + 1) _ (by simp at h ⊢; omega)]
   have hl : off + i < cs.toList.length := by simp at h ⊢; omega
   simp only [Array.toList_setIfInBounds]
   have e1 : (cs.toList.set (off + i) v).take (off + (i + 1)) = cs.toList.take (off + i) ++ [v] := by
    rw [show off + (i + 1) = off + i + 1 by omega, List.take_succ_eq_append_getElem (by simpa using hl), List.take_set, List.set_eq_of_length_le (by simp; omega)]
    simp
   have e2 : (cs.toList.set (off + i) v).drop (off + (i + 1) + vs.length) = cs.toList.drop (off + i + (vs.length + 1)) := by
    rw [List.drop_set_of_lt (by omega)]
    congr 1
    omega
   rw [e1, e2]
   simp
theorem fill_flat {α : Type} (G : Flat α) : ∀ (vs : List α) (k : Nat) (cells : Array Value), cells.size = k * G.sz + vs.length * G.sz →
 Instr.fill (fun i => some (i * G.sz, G.sz)) cells ((List.range' k vs.length).zip (vs.map fun x => .agg (G.e x).toArray)) = some (cells.toList.take (k * G.sz) ++ vs.flatMap G.e).toArray := by
 intro vs
 induction vs with
 | nil =>
   intro k cells h
   have e : cells.toList.take (k * G.sz) = cells.toList := List.take_of_length_le (by simp at h; simp; omega)
   simp [Instr.fill, e]
 | cons v vs ih =>
   intro k cells h
   have hk : (k + 1) * G.sz = k * G.sz + G.sz := by rw [Nat.add_mul, Nat.one_mul]
   have hv : (vs.length + 1) * G.sz = vs.length * G.sz + G.sz := by rw [Nat.add_mul, Nat.one_mul]
   rw [List.length_cons, hv] at h
   rw [List.length_cons, List.map_cons, List.range'_succ, List.zip_cons_cons]
   unfold Instr.fill
   have hc : (Value.agg (G.e v).toArray).cells = (G.e v).toArray := rfl
   have hs : (G.e v).toArray.size = G.sz := by simp [G.len]
   simp only [hc]
   have hn : ¬ (decide ((G.e v).toArray.size ≠ G.sz) || decide (k * G.sz + (G.e v).toArray.size > cells.size)) = true := by
    rw [Bool.or_eq_true, decide_eq_true_eq, decide_eq_true_eq]
    rintro (h1 | h1)
    ·exact h1 hs
    ·omega
   rw [if_neg hn]
   have e := foldl_sets (k * G.sz) (G.e v) 0 cells (by rw [G.len]; omega)
   have e0 : (G.e v).toArray.zipIdx.foldl (fun (cs : Array Value) (x : Value × Nat) => cs.setIfInBounds (k * G.sz + x.2) x.1) cells = ((G.e v).zipIdx 0).foldl (fun (cs : Array Value) (x : Value × Nat) => cs.setIfInBounds (k * G.sz + x.2) x.1) cells := by
    rw [← Array.foldl_toList]
    simp
   rw [e0]
   generalize ((G.e v).zipIdx 0).foldl (fun (cs : Array Value) (x : Value × Nat) => cs.setIfInBounds (k * G.sz + x.2) x.1) cells = cs' at e ⊢
   have hsz : cs'.size = cells.size := by
    rw [← Array.length_toList, e]
    simp [G.len]
    omega
   rw [ih (k + 1) cs' (by rw [hsz, h, hk]; omega), e, hk]
   have e3 : (cells.toList.take (k * G.sz + 0) ++ G.e v ++ cells.toList.drop (k * G.sz + 0 + (G.e v).length)).take (k * G.sz + G.sz) = cells.toList.take (k * G.sz) ++ G.e v := by
    rw [List.take_append_of_le_length (by simp [G.len]; omega), List.take_of_length_le (by simp [G.len]; omega), Nat.add_zero]
   rw [e3, List.append_assoc, List.flatMap_cons]
section
variable {P : Program} {n : Nat} {ops rest : List Oper} {N : Val → World → Prop} {Z : List PanicEntry → World → Prop} {f : Val} {w : World}
 {d : Nat} {t e tr : TypeId} {pos : String} {after : Array Edge} {α : Type} {G : Flat α}
theorem O.litG {len : Nat} {parts : List (Nat × Operand)} {ie : TypeInfo} {z : Value} (vs : List α) (hu : P.underlying t = some (.slice e)) (hie : P.info? e = some ie) (hsz : ie.size = G.sz) (hz : ie.zero = some z) (hl : vs.length = len) (hsmall : ¬ len * G.sz > 2 ^ 24) (hpos : ¬ len * G.sz = 0)
 (hvs : parts.map (fun x => (x.1, ev n f x.2)) = (List.range' 0 vs.length).zip (vs.map fun x => .agg (G.e x).toArray))
 (h : ∀ b w', w.heap.size ≤ b → Own0 w' b e (vs.flatMap G.e) → Le w w' → O P n ops rest N Z (upd f d (.slice (some ⟨b, 0, none⟩) len len)) w') :
 O P n ops (ZO d (.buildSlice t len parts.toArray) tr pos after :: rest) N Z f w := by
 refine O.lit (cells := (vs.flatMap G.e).toArray) hu hie hz (by rw [hsz]; exact hsmall) (by rw [hsz]; exact hpos) hvs ?_ (by simpa using h)
 rw [hsz, fill_flat G vs 0 _ (by simp [hl])]
 simp
end
theorem Sl.litG {α : Type} {G : Flat α} {w : World} {b n : Nat} {ty : TypeId} {vs : List α} (h : Own w b ty (vs.flatMap G.e)) (hn : vs.length = n) (hm : n ≤ maxLen) : Sl G.enc w (fun k => k = b) (.slice (some ⟨b, 0, none⟩) n n) vs := by
 subst hn
 exact Sl.of_own h (by rw [← G.length, List.take_length]) (Nat.le_refl _) hm (by rw [G.length]; exact Nat.le_refl _)
end Go.Pn
end
section
namespace Go.Pn
open Go.RowKit
section
variable {α : Type} {G : Flat α} {ty : TypeId} {B : Nat} {w : World} {g cap : Nat} {xs : List α}
theorem Flat.take (G : Flat α) (xs : List α) (i : Nat) : (xs.flatMap G.e).take (i * G.sz) = (xs.take i).flatMap G.e := by
 induction xs generalizing i with
 | nil => simp
 | cons x xs ih =>
   cases i with
   | zero => simp
   | succ i =>
     rw [List.flatMap_cons, List.take_succ_cons, List.flatMap_cons, ← ih i, Nat.add_mul, Nat.one_mul, Nat.add_comm]
     rw [show G.sz + i * G.sz = (G.e x).length + i * G.sz by rw [G.len], List.take_length_add_append]
theorem Flat.drop (G : Flat α) (xs : List α) (i : Nat) : (xs.flatMap G.e).drop (i * G.sz) = (xs.drop i).flatMap G.e := by
 induction xs generalizing i with
 | nil => simp
 | cons x xs ih =>
   cases i with
   | zero => simp
   | succ i =>
     rw [List.flatMap_cons, List.drop_succ_cons, ← ih i, Nat.add_mul, Nat.one_mul, Nat.add_comm]
     rw [show G.sz + i * G.sz = (G.e x).length + i * G.sz by rw [G.len], List.drop_length_add_append]
end
section
variable {α : Type} {G : Flat α} {ty : TypeId} {B : Nat} {w : World} {g cap : Nat} {xs : List α}
theorem OwnF.part (h : OwnF G ty B w (.slice (some ⟨g, 0, none⟩) xs.length cap) xs) {k : Nat} (hk : k ≤ xs.length) : Sl G.enc w (fun b => b = g) (.slice (some ⟨g, k * G.sz, none⟩) (xs.length - k) (cap - k)) (xs.drop k) := by
 obtain ⟨h0, hm⟩ := h
 rcases h0.2 with ⟨h1, _⟩ | ⟨g', cap', cur, h1, hb, hg, hn, hc, hsz, ht⟩
 ·cases h1
 ·have e1 : g = g' := by cases h1; rfl
  have e2 : cap = cap' := by cases h1; rfl
  subst e1; subst e2
  have hl : (xs.drop k).length = xs.length - k := by simp
  have hm1 : (cap - k) * G.sz = cap * G.sz - k * G.sz := by rw [Nat.sub_mul]
  have hm2 : k * G.sz ≤ cap * G.sz := Nat.mul_le_mul_right _ (by omega)
  rw [← hl]
  have h00 : Own w g ty cur.toList := ⟨(0, 0), by simpa using hg, .inl rfl⟩
  refine Own.part (G := G) (ty := ty) h00 ?_ (by rw [hl]; omega) (by omega) (by rw [hm1]; simp; omega)
  rw [hl, ← G.drop, ← ht, List.drop_take, Nat.sub_mul]
theorem OwnF.first (h : OwnF G ty B w (.slice (some ⟨g, 0, none⟩) xs.length cap) xs) {k : Nat} (hk : k ≤ xs.length) : OwnF G ty B w (.slice (some ⟨g, 0, none⟩) k cap) (xs.take k) := by
 obtain ⟨h0, hm⟩ := h
 rcases h0.2 with ⟨h1, _⟩ | ⟨g', cap', cur, h1, hb, hg, hn, hc, hsz, ht⟩
 ·cases h1
 ·have e1 : g = g' := by cases h1; rfl
  have e2 : cap = cap' := by cases h1; rfl
  subst e1; subst e2
  have hl : (xs.take k).length = k := by simp; omega
  refine ⟨⟨by rw [G.length], .inr ⟨g, cap, cur, by rw [hl], hb, hg, by omega, hc, hsz, ?_⟩⟩, by omega⟩
  rw [hl, ← G.take, ← ht, List.take_take, Nat.min_eq_left (Nat.mul_le_mul_right _ hk)]
end
section
variable {P : Program} {n : Nat} {ops rest : List Oper} {N : Val → World → Prop} {Z : List PanicEntry → World → Prop} {f : Val} {w : World}
 {d : Nat} {x y : Operand} {t e ty tr : TypeId} {pos : String} {after : Array Edge} {α : Type} {G : Flat α} {B g cap : Nat} {xs : List α}
end
section
variable {P : Program} {n : Nat} {ops rest : List Oper} {N : Val → World → Prop} {Z : List PanicEntry → World → Prop} {f : Val} {w : World}
 {d : Nat} {x y : Operand} {t t' tr : TypeId} {pos : String} {after : Array Edge}
end
theorem Outs.three {P : Program} {fn : Func} {n : Nat} {Post : Value → World → Prop} {f : Val} {w : World} {t u s : Nat} {v v' v'' : Value} (hr : fn.results = #[.tmp t, .tmp u, .tmp s]) (hv : ev n f (.tmp t) = v) (hv' : ev n f (.tmp u) = v') (hv'' : ev n f (.tmp s) = v'') (h : Post (.tuple #[v, v', v'']) w) : Outs P fn n Post f w :=
 ⟨_, by
  have e1 : (Fr n f).tmps.getD t undef = v := (getD_Fr n f t).trans hv
  have e2 : (Fr n f).tmps.getD u undef = v' := (getD_Fr n f u).trans hv'
  have e3 : (Fr n f).tmps.getD s undef = v'' := (getD_Fr n f s).trans hv''
  simp [results, hr, -Array.getD_eq_getD_getElem?, e1, e2, e3], h⟩
end Go.Pn
end
section
namespace Go.Pn
open Go.RowKit
section
variable {P : Program} {n : Nat} {ops rest : List Oper} {N : Val → World → Prop} {Z : List PanicEntry → World → Prop} {f : Val} {w : World}
 {d : Nat} {x : Operand} {t tr : TypeId} {pos : String} {after : Array Edge}
theorem O.makeF {g : Fn} {first cap : List Operand} {v1 v2 : List Value} (h1 : first.map (ev n f) = v1) (h2 : cap.map (ev n f) = v2) (h : O P n ops rest N Z (upd f d (.func g v1.toArray v2.toArray)) w) :
 O P n ops (ZO d (.makeFunc g first.toArray cap.toArray) tr pos after :: rest) N Z f w := by
 refine O.val rfl rfl ?_ h
 have h3 : execOp (ev n f) (ZO d (.makeFunc g first.toArray cap.toArray) tr pos after) = (do pure (.value (← Instr.makeFunc g (first.toArray.map (ev n f)) (cap.toArray.map (ev n f))))) := rfl
 rw [h3, ← h1, ← h2]
 simp [Instr.makeFunc]
theorem O.callV {g : Nat} {cs : List Value} {xs : List Operand} {vs : List Value} {ats : Array TypeId} {Post : Value → World → Prop}
 (hk : ∀ args w, (callFunc g args).run P w = .ok (.enter g args) w) (hx : ev n f x = .func (.func g) #[] cs.toArray) (hxs : xs.map (ev n f) = vs)
 (hc : Ret P g (vs ++ cs).toArray w Post) (h : ∀ v w', Post v w' → O P n ops rest N Z (upd f d v) w') :
 O P n ops (ZO d (.call { callee := .value x, args := xs.toArray, argTypes := ats }) tr pos after :: rest) N Z f w := by
 subst hxs
 unfold O at h ⊢
 refine wpList_plain rfl fun K hK => ?_
 have hrun : (execOp (ev n f) (ZO d (.call { callee := .value x, args := xs.toArray, argTypes := ats }) tr pos after)).run P w = .ok (.enter g ((xs.map (ev n f)) ++ cs).toArray) w := by
  simp [execOp, resolve, Deferred.ofValue, invoke, hx, hk]
 simp only [Oper.wp, eval_Fr, hrun, Oper.upon_enter]
 refine Calls.mono hc ?_
 intro e w' he
 cases e with
 | returned v => show K ((Fr n f).put (some d) v) w'; rw [put_Fr]; exact hK _ _ (h v w' he)
 | panicked ch => exact he.elim
 | outgrown => exact he.elim
end
theorem Outs.cell1 {P : Program} {fn : Func} {n : Nat} {Post : Value → World → Prop} {f : Val} {w : World} {t b : Nat} {ty ty' : TypeId} {v : Value} (hr : fn.results = #[.cell t ty]) (hag : ∀ w, (isAgg ty).run P w = .ok false w)
 (hv : ev n f (.tmp t) = .pointer (some ⟨b, 0, Option.none⟩)) (ho : Own w b ty' [v]) (h : Post v w) : Outs P fn n Post f w := by
 refine ⟨_, ?_, h⟩
 have hg : (Fr n f).tmps.getD t undef = .pointer (some ⟨b, 0, Option.none⟩) := (getD_Fr n f t).trans hv
 have hc := ho.cell (i := 0) (v := v) rfl
 simp [results, hr, -Array.getD_eq_getD_getElem?, hg, asAddr, loadVar, hag, hc]
theorem OwnF.one {α : Type} {G : Flat α} {ty : TypeId} {B : Nat} {w : World} {v : Value} {xs : List α} (h : OwnF G ty B w v xs) : v.oneCell' = true := by
 rcases h.1.2 with ⟨rfl, _⟩ | ⟨g, cap, cur, rfl, _⟩ <;> rfl
end Go.Pn
end
section
namespace Go.Pn
section
variable {P : Program} {n : Nat} {c : Code} {N : Val → World → Prop} {X : Nat → Val → World → Prop} {R : Val → World → Prop} {Z : List PanicEntry → World → Prop} {f : Val} {w wB : World}
 {l : List Oper} {pos : String} {after : Array Edge}
theorem C.join (Q : Val → World → Val → World → Prop) (h1 : C P n c (Q f w) X R Z f w) (h2 : ∀ f' w', Q f w f' w' → N f' w') : C P n c N X R Z f w := h1.mono h2
def DStep (P : Program) (n : Nat) (l : List Oper) (listed : Array Bool) (N : Val → World → Prop) (Z : List PanicEntry → World → Prop) (wB : World) (fuel : Nat) (f : Val) (w : World) (j : Nat) : Prop :=
 wpOp P l.toArray (Q0 n N Z) j (fun a' w' => Le wB w' ∧ wpAnyH P .any l.toArray (Q0 n N Z) (fun w' => Le wB w') fuel (listed.setIfInBounds j true) a' w') (Fr n f) w
def allP (p : Nat → Prop) : List Nat → Prop
 | [] => True
 | i :: r => p i ∧ allP p r
theorem allP_mem {p : Nat → Prop} : ∀ {l : List Nat}, allP p l → ∀ i ∈ l, p i
 | [], _, i, h => by cases h
 | j :: r, h, i, hi => by
   rcases List.mem_cons.1 hi with rfl | hi
   ·exact h.1
   ·exact allP_mem h.2 i hi
theorem D.many {listed : Array Bool} {fuel : Nat} (is : List Nat) (hr : Region.ready .any l.toArray listed = is) (hne : is ≠ []) (h : allP (DStep P n l listed N Z wB fuel f w) is) : D P n l listed N Z wB (fuel + 1) f w := by
 subst hr
 exact wpAnyH_all rfl hne (allP_mem h)
theorem D.stepU {listed : Array Bool} {fuel j : Nat} {o : Oper} (hi : l[j]? = some o) (hg : o.guard = .none)
 (hO : O P n [o] [o] (fun f' w' => Le wB w' ∧ D P n l (listed.setIfInBounds j true) N Z wB fuel f' w') Z f w) : DStep P n l listed N Z wB fuel f w j := D.step hi hg hO
end
end Go.Pn
end
section
namespace Go.Pn
open Go.RowKit
theorem Flat.set1 {α : Type} (G : Flat α) {off : Nat} {z : α} {u : Value} : ∀ (xs : List α) (i : Nat) (h : i < xs.length), off < G.sz → G.e z = (G.e xs[i]).set off u → (xs.flatMap G.e).set (i * G.sz + off) u = (xs.set i z).flatMap G.e
 | [], i, h, _, _ => by simp at h
 | x :: xs, 0, h, ho, hz => by
   simp only [List.getElem_cons_zero] at hz
   rw [List.flatMap_cons, List.set_cons_zero, List.flatMap_cons, Nat.zero_mul, Nat.zero_add, List.set_append_left _ _ (by rw [G.len]; exact ho), hz]
 | x :: xs, i + 1, h, ho, hz => by
   simp only [List.getElem_cons_succ] at hz
   have ih := Flat.set1 G (off := off) (z := z) (u := u) xs i (by simpa using h) ho hz
   rw [List.flatMap_cons, List.set_cons_succ, List.flatMap_cons, List.set_append_right _ _ (by rw [G.len, Nat.add_mul]; omega), G.len, ← ih]
   congr 2
   rw [Nat.add_mul]
   omega
section
variable {α : Type} {G : Flat α} {ty : TypeId} {B : Nat} {w : World} {g cap : Nat} {xs : List α}
theorem OwnF.put1 {i off : Nat} {z : α} {u : Value} (h : OwnF G ty B w (.slice (some ⟨g, 0, none⟩) xs.length cap) xs) (hi : i < xs.length) (ho : off < G.sz) (hz : G.e z = (G.e xs[i]).set off u) :
 OwnF G ty B (w.setCell ⟨g, i * G.sz + off, none⟩ u) (.slice (some ⟨g, 0, none⟩) xs.length cap) (xs.set i z) := by
 obtain ⟨h0, hm⟩ := h
 refine ⟨⟨by rw [G.length], ?_⟩, by rw [List.length_set]; exact hm⟩
 rcases h0.2 with ⟨h1, _⟩ | ⟨g', cap', cur, h1, hb, hg, hn, hc, hsz, ht⟩
 ·cases h1
 ·have e1 : g = g' := by cases h1; rfl
  have e2 : cap = cap' := by cases h1; rfl
  subst e1; subst e2
  refine .inr ⟨g, cap, (cur.toList.set (i * G.sz + off) u).toArray, by rw [List.length_set], hb, ?_, by rw [List.length_set]; exact hn, hc, by simpa using hsz, ?_⟩
  ·have h5 := heap_set w g (i * G.sz + off) u (cs := cur.toList) (ty := ty) (fr := (0, 0)) (by simpa using hg)
   exact h5
  ·rw [List.length_set, ← G.set1 xs i hi ho hz, ← ht]
   simp only [List.take_set]
end
section
variable {P : Program} {n : Nat} {ops rest : List Oper} {N : Val → World → Prop} {Z : List PanicEntry → World → Prop} {f : Val} {w : World}
 {d : Nat} {x y : Operand} {t tr ty : TypeId} {pos : String} {after : Array Edge} {α : Type}
theorem At.cellAt {E : Enc α} {w : World} {F : Nat → Prop} {a : Addr} {z : α} (ha : At E w F a z) : ∃ cs, E.rep w F cs z ∧ ∀ i v, cs[i]? = some v → w.cell? (a.add i) = some v := by
 obtain ⟨b, off, cur, ty, fr, rfl, hF, hb, hs, hr⟩ := ha
 refine ⟨_, hr, fun i v hv => ?_⟩
 rw [Addr.add_none]
 rw [List.getElem?_take] at hv
 split at hv
 ·rw [List.getElem?_drop] at hv
  simp only [World.cell?, hb, Option.isSome_none, Bool.false_eq_true, if_false]
  simpa using hv
 ·cases hv
theorem O.fieldAt {fields : Array Field} {fd : Field} {k s : Nat} {a : Addr} (ht : P.underlying t = some (.struct fields)) (hf : fields[k]? = some fd) (hs : ∀ w, (sizeOf fd.type).run P w = .ok s w) (h0 : s ≠ 0) (hx : ev n f x = .pointer (some a))
 (h : O P n ops rest N Z (upd f d (.pointer (some (a.add fd.offset)))) w) : O P n ops (ZO d (.fieldAddr t x k) tr pos after :: rest) N Z f w := by
 refine O.val rfl rfl ?_ h
 have h3 : execOp (ev n f) (ZO d (.fieldAddr t x k) tr pos after) = (do pure (.value (← Instr.fieldAt t (ev n f x) k))) := rfl
 rw [h3, Sem.run_bind, hx]
 have h4 : (Instr.fieldAt t (.pointer (some a)) k).run P w = .ok (.pointer (some (a.add fd.offset))) w := by
  unfold Instr.fieldAt
  rw [Sem.run_bind, run_underlying ht, Result.andThen_ok]
  simp [hf, Instr.sureAddr, fieldPlace, hs, h0]
 rw [h4]
 rfl
theorem O.ft {fields : Array Field} {fd : Field} {k s : Nat} {a : Addr} (ht : P.underlying t = some (.struct fields)) (hf : fields[k]? = some fd) (hs : ∀ w, (sizeOf fd.type).run P w = .ok s w) (hx : ev n f x = .pointer (some a))
 (h : O P n ops rest N Z (upd f d (.pointer (some (a.add fd.offset)))) w) (h0 : s ≠ 0 := by decide) : O P n ops (ZO d (.fieldAddr t x k) tr pos after :: rest) N Z f w := O.fieldAt ht hf hs h0 hx h
theorem O.loadAtC {E : Enc α} {F : Nat → Prop} {a : Addr} {z : α} {off : Nat} (hag : ∀ w, (isAgg t).run P w = .ok false w) (hoff : off < E.sz) (hx : ev n f x = .pointer (some (a.add off))) (ha : At E w F a z)
 (h : ∀ cs u, E.rep w F cs z → cs[off]? = some u → O P n ops rest N Z (upd f d u) w) :
 O P n ops (ZO d (.load t x) tr pos after :: rest) N Z f w := by
 obtain ⟨cs, hr, hc⟩ := ha.cellAt
 have hl : off < cs.length := by rw [E.len hr]; exact hoff
 have hu := hc off cs[off] (by simp [hl])
 refine O.val rfl rfl ?_ (h cs cs[off] hr (by simp [hl]))
 have h3 : execOp (ev n f) (ZO d (.load t x) tr pos after) = (do pure (.value (← Instr.loadAt t (ev n f x)))) := rfl
 rw [h3, Sem.run_bind, hx]
 have h4 : (Instr.loadAt t (.pointer (some (a.add off)))).run P w = .ok cs[off] w := by
  simp [Instr.loadAt, Instr.sureAddr, loadVar, hag, hu]
 rw [h4]
 rfl
theorem O.loadAtF {G : Flat α} {F : Nat → Prop} {a : Addr} {z : α} {off : Nat} {u : Value} (hag : ∀ w, (isAgg t).run P w = .ok false w) (hu : (G.e z)[off]? = some u) (hx : ev n f x = .pointer (some (a.add off))) (ha : At G.enc w F a z)
 (h : O P n ops rest N Z (upd f d u) w) : O P n ops (ZO d (.load t x) tr pos after :: rest) N Z f w := by
 have hoff : off < G.enc.sz := by
  have := (List.getElem?_eq_some_iff.1 hu).1
  rw [G.len] at this
  exact this
 refine O.loadAtC hag hoff hx ha fun cs u' hr hu' => ?_
 have e : cs = G.e z := hr
 subst e
 rw [hu] at hu'
 cases hu'
 exact h
theorem O.loadC {G : Flat α} {B g cap i off k : Nat} {xs : List α} {u : Value} (hk : k = i * G.sz + off) (hag : ∀ w, (isAgg t).run P w = .ok false w) (hx : ev n f x = .pointer (some ⟨g, k, none⟩))
 (ho : OwnF G ty B w (.slice (some ⟨g, 0, none⟩) xs.length cap) xs) (hi : i < xs.length) (hu : (G.e xs[i])[off]? = some u)
 (h : O P n ops rest N Z (upd f d u) w) : O P n ops (ZO d (.load t x) tr pos after :: rest) N Z f w := by
 subst hk
 have hof : off < G.sz := by
  have := (List.getElem?_eq_some_iff.1 hu).1
  rw [G.len] at this
  exact this
 obtain ⟨h0, hm⟩ := ho
 rcases h0.2 with ⟨h1, _⟩ | ⟨g', cap', cur, h1, hb, hg, hn, hc, hsz, ht⟩
 ·cases h1
 ·have e1 : g = g' := by cases h1; rfl
  subst e1
  have hseg := G.seg xs hi
  have hcell : w.cell? ⟨g, i * G.sz + off, none⟩ = some u := by
   have q : ((cur.toList.take (xs.length * G.sz)).drop (i * G.sz))[off]? = some u := by
    rw [← hseg, List.getElem?_take, if_pos hof] at hu
    rw [ht]
    exact hu
   rw [List.getElem?_drop, List.getElem?_take] at q
   split at q
   ·simp only [World.cell?, hg, Option.isSome_none, Bool.false_eq_true, if_false]
    simpa using q
   ·cases q
  refine O.val rfl rfl ?_ h
  have h3 : execOp (ev n f) (ZO d (.load t x) tr pos after) = (do pure (.value (← Instr.loadAt t (ev n f x)))) := rfl
  rw [h3, Sem.run_bind, hx]
  have h4 : (Instr.loadAt t (.pointer (some ⟨g, i * G.sz + off, none⟩))).run P w = .ok u w := by
   simp [Instr.loadAt, Instr.sureAddr, loadVar, hag, hcell]
  rw [h4]
  rfl
end
end Go.Pn
end
section
namespace Go.Pn
open Go.RowKit
def Pred {α : Type} (P : Program) (M : Nat → Prop) (w : World) (v : Value) (arg : α → Value) (p : α → Bool) : Prop :=
 ∃ (g : Nat) (cs : List Value), v = .func (.func g) #[] cs.toArray ∧ (∀ args w, (callFunc g args).run P w = .ok (.enter g args) w) ∧
  ∀ x w', Ext M w w' → Ret P g (arg x :: cs).toArray w' (fun v w'' => v = .bool (p x) ∧ Le w' w'')
section
variable {α : Type} {P : Program} {M : Nat → Prop} {w w' : World} {v : Value} {arg : α → Value} {p : α → Bool}
theorem Pred.keepM {M' : Nat → Prop} (h : Pred P M w v arg p) (e : Ext M' w w') (hM : ∀ k, M' k → M k) : Pred P M w' v arg p := by
 obtain ⟨g, cs, h1, h2, h3⟩ := h
 exact ⟨g, cs, h1, h2, fun x w'' e' => h3 x w'' (Ext.trans (e.mono fun k _ h => hM k h) e')⟩
theorem Pred.weak {M' : Nat → Prop} (h : Pred P M w v arg p) (hM : ∀ k, M' k → M k) : Pred P M' w v arg p := by
 obtain ⟨g, cs, h1, h2, h3⟩ := h
 exact ⟨g, cs, h1, h2, fun x w'' e' => h3 x w'' (e'.mono fun k _ h => hM k h)⟩
theorem Pred.keep (h : Pred P M w v arg p) (e : Le w w') : Pred P M w' v arg p := h.keepM e fun _ h => h.elim
end
section
variable {P : Program} {n : Nat} {ops rest : List Oper} {N : Val → World → Prop} {Z : List PanicEntry → World → Prop} {f : Val} {w : World}
 {d : Nat} {x y : Operand} {t tr ty : TypeId} {pos : String} {after : Array Edge}
theorem O.callP {α : Type} {M : Nat → Prop} {v : Value} {arg : α → Value} {p : α → Bool} {ats : Array TypeId} (z : α) (hp : Pred P M w v arg p) (hx : ev n f x = v) (hy : ev n f y = arg z) (h : ∀ w', Le w w' → O P n ops rest N Z (upd f d (.bool (p z))) w') :
 O P n ops (ZO d (.call { callee := .value x, args := [y].toArray, argTypes := ats }) tr pos after :: rest) N Z f w := by
 obtain ⟨g, cs, rfl, hk, hr⟩ := hp
 exact O.callV (vs := [arg z]) hk hx (by simp [hy]) (hr z w (Ext.refl _ _)) fun v w' h' => by obtain ⟨rfl, e⟩ := h'; exact h w' e
end
def Wr (ty te : TypeId) (w : World) (bw g : Nat) (xs : List UInt8) : Prop :=
 ∃ v, Own w bw ty [v] ∧ OwnF byteF te 0 w v xs ∧ (∀ k, bk v k → k = g) ∧ (∀ k, bk v k → k ≠ bw) ∧ g < w.heap.size
section
variable {ty te : TypeId} {w w' : World} {bw g : Nat} {xs : List UInt8}
theorem Wr.keepM {M : Nat → Prop} (h : Wr ty te w bw g xs) (e : Ext M w w') (hM : ∀ k, (k = bw ∨ k = g) → ¬ M k) : Wr ty te w' bw g xs := by
 obtain ⟨v, h1, h2, h3, h4, h5⟩ := h
 exact ⟨v, h1.keepM e (hM bw (.inl rfl)), h2.keepM e fun k hk => hM k (.inr (h3 k hk)), h3, h4, e.lt h5⟩
theorem Wr.keepA {M : Nat → Prop} (h : Wr ty te w bw g xs) (e : Ext M w w') (hM : ∀ k, (k = bw ∨ k = g) → ¬ M k := by intro k hk h; first | (have q := hF k hk; (try dsimp only at h); omega) | (have q := hF2 k hk; (try dsimp only at h); omega) | (have q := hFb k hk; (try dsimp only at h); omega) | ((try dsimp only at hk); (try dsimp only at h); omega)) : Wr ty te w' bw g xs := Wr.keepM h e hM
theorem Wr.keep (h : Wr ty te w bw g xs) (e : Le w w') : Wr ty te w' bw g xs := h.keepM e fun _ _ => not_false
theorem Wr.lt (h : Wr ty te w bw g xs) : bw < w.heap.size ∧ g < w.heap.size := by
 obtain ⟨v, h1, h2, h3, h4, h5⟩ := h
 exact ⟨h1.lt, h5⟩
theorem Wr.new (h : Own w bw ty [.slice none 0 0]) : Wr ty te w bw bw [] := ⟨_, h, OwnF.nil _ _ _ _, fun _ h => h.elim, fun _ h => h.elim, h.lt⟩
theorem Wr.cell (h : Wr ty te w bw g xs) : ∃ v, Own w bw ty [v] ∧ OwnF byteF te 0 w v xs ∧ (∀ k, bk v k → k = g) ∧ (∀ k, bk v k → k ≠ bw) := by
 obtain ⟨v, h1, h2, h3, h4, _⟩ := h
 exact ⟨v, h1, h2, h3, h4⟩
theorem Wr.put {v : Value} (h1 : Own w bw ty [v]) (h2 : OwnF byteF te 0 w v xs) (h3 : ∀ k, bk v k → k ≠ bw) : ∃ g', Wr ty te w bw g' xs ∧ ((bk v g' ∧ ∀ k, bk v k → k = g') ∨ g' = bw) := by
 by_cases h : ∃ k, bk v k
 ·obtain ⟨k, hk⟩ := h
  have huniq : ∀ j, bk v j → j = k := by
   intro j hj
   cases v with
   | slice a n c =>
     cases a with
     | none => exact hj.elim
     | some a => simp only [bk] at hj hk; rw [hj, hk]
   | _ => exact hj.elim
  exact ⟨k, ⟨v, h1, h2, huniq, h3, (h2.bk_ge k hk).2⟩, .inl ⟨hk, huniq⟩⟩
 ·exact ⟨bw, ⟨v, h1, h2, fun k hk => absurd ⟨k, hk⟩ h, h3, h1.lt⟩, .inr rfl⟩
end
end Go.Pn
end
section
namespace Go.Pn
open Go.RowKit
section
variable {α : Type} {G : Flat α} {w w' : World} {F : Nat → Prop} {v v' y : Value} {xs ys : List α} {B : Nat} {ty : TypeId}
end
section
variable {P : Program} {n : Nat} {ops rest : List Oper} {N : Val → World → Prop} {Z : List PanicEntry → World → Prop} {f : Val} {w : World}
 {d : Nat} {x y : Operand} {t t' ty tr e : TypeId} {pos : String} {after : Array Edge} {α : Type} {G : Flat α} {F : Nat → Prop}
end
abbrev MarkT := (Int × Int) × Int × BitVec 64
abbrev ItemT := List UInt8 × List MarkT
def markF : Flat MarkT := ⟨4, fun m => [.int .i64 m.1.1, .int .i64 m.1.2, .int .i64 m.2.1, .int .u64 (m.2.2.toNat : Int)], fun _ => rfl, by simp [Value.oneCell'], by decide⟩
def mv (m : MarkT) : Value := .agg #[.int .i64 m.1.1, .int .i64 m.1.2, .int .i64 m.2.1, .int .u64 (m.2.2.toNat : Int)]
def itemE : Enc ItemT where
 sz := 2
 rep := fun w F cs x => ∃ v, cs = [str x.1, v] ∧ Sl markF.enc w F v x.2
 len := by rintro w F cs x ⟨v, rfl, _⟩; rfl
 one := by
  rintro w F cs x ⟨v, rfl, h⟩ c hc
  obtain ⟨l, cap, rfl, _⟩ := h.val
  simp only [List.mem_cons, List.not_mem_nil, or_false] at hc
  rcases hc with rfl | rfl <;> rfl
 ext := by rintro w w' F cs x ⟨v, rfl, h⟩ hw; exact ⟨v, rfl, h.ext hw⟩
 weak := by rintro w F F' cs x ⟨v, rfl, h⟩ hF; exact ⟨v, rfl, h.weak hF⟩
def slv (x : Option Addr × Nat × Nat) : Value := .slice x.1 x.2.1 x.2.2
def itemF : Flat (List UInt8 × (Option Addr × Nat × Nat)) := ⟨2, fun x => [str x.1, slv x.2], fun _ => rfl, by simp [Value.oneCell', str, slv], by decide⟩
def Items (w : World) (F : Nat → Prop) (raw : List (List UInt8 × (Option Addr × Nat × Nat))) (xs : List ItemT) : Prop :=
 raw.length = xs.length ∧ ∀ i, ∀ h : i < raw.length, ∀ h' : i < xs.length, raw[i].1 = xs[i].1 ∧ Sl markF.enc w F (slv raw[i].2) xs[i].2
theorem Items.nil {w : World} {F : Nat → Prop} : Items w F [] [] := ⟨rfl, fun i h => by simp at h⟩
theorem Items.keepM {M : Nat → Prop} {w w' : World} {F : Nat → Prop} {raw : List (List UInt8 × (Option Addr × Nat × Nat))} {xs : List ItemT} (h : Items w F raw xs) (e : Ext M w w') (hM : ∀ k, F k → ¬ M k) : Items w' F raw xs :=
 ⟨h.1, fun i h1 h2 => ⟨(h.2 i h1 h2).1, (h.2 i h1 h2).2.keepM e hM⟩⟩
theorem Items.keepA {M : Nat → Prop} {w w' : World} {F : Nat → Prop} {raw : List (List UInt8 × (Option Addr × Nat × Nat))} {xs : List ItemT} (h : Items w F raw xs) (e : Ext M w w') (hM : ∀ k, F k → ¬ M k := by intro k hk h; first | (have q := hF k hk; (try dsimp only at h); omega) | (have q := hF2 k hk; (try dsimp only at h); omega) | (have q := hFb k hk; (try dsimp only at h); omega) | ((try dsimp only at hk); (try dsimp only at h); omega)) : Items w' F raw xs := Items.keepM h e hM
theorem Items.keep {w w' : World} {F : Nat → Prop} {raw : List (List UInt8 × (Option Addr × Nat × Nat))} {xs : List ItemT} (h : Items w F raw xs) (e : Le w w') : Items w' F raw xs := h.keepM e fun _ _ => not_false
theorem Items.weak {w : World} {F F' : Nat → Prop} {raw : List (List UInt8 × (Option Addr × Nat × Nat))} {xs : List ItemT} (h : Items w F raw xs) (hF : ∀ k, F k → F' k) : Items w F' raw xs :=
 ⟨h.1, fun i h1 h2 => ⟨(h.2 i h1 h2).1, (h.2 i h1 h2).2.weak hF⟩⟩
theorem Items.weakA {w : World} {F F' : Nat → Prop} {raw : List (List UInt8 × (Option Addr × Nat × Nat))} {xs : List ItemT} (h : Items w F raw xs) (hF : ∀ k, F k → F' k := by intro q hq; (try dsimp only at hq); (try dsimp only); omega) : Items w F' raw xs := Items.weak h hF
theorem Items.snoc {w : World} {F : Nat → Prop} {raw : List (List UInt8 × (Option Addr × Nat × Nat))} {xs : List ItemT} {a : List UInt8 × (Option Addr × Nat × Nat)} {x : ItemT} (h : Items w F raw xs) (hn : a.1 = x.1) (hm : Sl markF.enc w F (slv a.2) x.2) : Items w F (raw ++ [a]) (xs ++ [x]) := by
 refine ⟨by simp [h.1], fun i h1 h2 => ?_⟩
 have hl := h.1
 simp only [List.length_append, List.length_cons, List.length_nil] at h1
 by_cases hi : i < raw.length
 ·rw [List.getElem_append_left hi, List.getElem_append_left (by omega)]
  exact h.2 i hi (by omega)
 ·have e1 : i = raw.length := by omega
  subst e1
  rw [List.getElem_append_right (by omega), List.getElem_append_right (by omega)]
  simp only [Nat.sub_self, hl, List.getElem_cons_zero]
  exact ⟨hn, hm⟩
theorem Items.sl {w : World} {F : Nat → Prop} {v : Value} {raw : List (List UInt8 × (Option Addr × Nat × Nat))} {xs : List ItemT} (h : Items w F raw xs) (hv : Sl itemF.enc w F v raw) : Sl itemE w F v xs := by
 have hl := h.1
 refine ⟨by rw [← hl]; exact hv.1, ?_⟩
 rcases hv.2 with ⟨a, rfl, rfl⟩ | ⟨b, off, cap, cur, ty, fr, rfl, hF, hb, h1, h2, h3, hr⟩
 ·exact .inl ⟨a, rfl, List.eq_nil_of_length_eq_zero (by rw [← hl]; rfl)⟩
 ·refine .inr ⟨b, off, cap, cur, ty, fr, by rw [hl], hF, hb, by omega, h2, by rw [← hl]; exact h3, fun i hi => ?_⟩
  have h4 : (cur.toList.drop (off + i * 2)).take 2 = itemF.e (raw[i]'(by omega)) := hr i (by omega)
  obtain ⟨h5, h6⟩ := h.2 i (by omega) hi
  refine ⟨_, ?_, h6⟩
  show (cur.toList.drop (off + i * 2)).take 2 = _
  rw [h4, ← h5]
  rfl
theorem Sl.slv {α : Type} {E : Enc α} {w : World} {F : Nat → Prop} {v : Value} {xs : List α} (h : Sl E w F v xs) : ∃ a, v = Go.Pn.slv a := by
 obtain ⟨l, cap, rfl, _⟩ := h.val
 exact ⟨(l, xs.length, cap), rfl⟩
theorem Sl.oneC {α : Type} {E : Enc α} {w : World} {F : Nat → Prop} {v : Value} {xs : List α} (h : Sl E w F v xs) : v.oneCell' = true := by
 obtain ⟨l, cap, rfl, _⟩ := h.val
 rfl
section
variable {P : Program} {n : Nat} {ops rest : List Oper} {N : Val → World → Prop} {Z : List PanicEntry → World → Prop} {f : Val} {w : World}
 {d : Nat} {x : Operand} {t tr : TypeId} {pos : String} {after : Array Edge}
end
section
variable {P : Program} {n : Nat} {ops rest : List Oper} {N : Val → World → Prop} {Z : List PanicEntry → World → Prop} {f : Val} {w : World}
 {d : Nat} {x y : Operand} {t t' tr : TypeId} {pos : String} {after : Array Edge}
end
section
variable {P : Program} {n : Nat} {ops rest : List Oper} {N : Val → World → Prop} {Z : List PanicEntry → World → Prop} {f : Val} {w : World}
 {d : Nat} {x y : Operand} {t t' tr : TypeId} {pos : String} {after : Array Edge}
end
end Go.Pn
end
section
namespace Go.Pn
open Go.ChangeShapes Go.WideShapes Go.ChangeAt Go.RowKit
section
variable {P : Program} {W : World} {α β γ : Type} {E : Enc α} {E' : Enc β} {E'' : Enc γ} {Q : α → Prop} {Q' : β → Prop} {Q'' : γ → Prop} {t e : TypeId}
end
end Go.Pn
end
section
namespace Go.Pn
open Go.ChangeShapes Go.WideShapes Go.ChangeAt Go.RowKit
section
variable {P : Program} {W : World} {t : TypeId}
theorem trodF {H : Type} {enc : TypeId × Value → H} {base : Nat} {spare : Nat → Bool} {held : Bool} {fuel : Nat} {cs : List Value} {x : DataW H × List MemPlace} {k : FloatKind} (ht : P.underlying t = some (.float k)) (h : DataW.trod enc P W base spare held fuel t cs = some x) : ∃ n, cs = [.float k n] ∧ (Lit.float k n).wf = true := by
 cases fuel with
 | zero => simp [DataW.trod] at h
 | succ n =>
   unfold DataW.trod at h
   rw [ht] at h
   split at h <;> simp_all
theorem fl_of_wf {n : Nat} (h : (Lit.float .f64 n).wf = true) : Value.float .f64 n = fl (BitVec.ofNat 64 n) := by
 have h2 : n < 2 ^ 64 := by simpa [Lit.wf] using h
 unfold fl
 rw [BitVec.toNat_ofNat, Nat.mod_eq_of_lt h2]
theorem Opens.f64 (ht : P.underlying t = some (.float .f64)) (hc : P.cellsOf t = 1) : Opens P W flF.enc (fun _ => True) t :=
 ⟨hc, fun h => by
  obtain ⟨n, rfl, hw⟩ := trodF ht h
  exact ⟨BitVec.ofNat 64 n, (show [Value.float .f64 n] = [fl (BitVec.ofNat 64 n)] by rw [fl_of_wf hw]), trivial⟩⟩
end
end Go.Pn
end
section
namespace Go.Pn
section
variable {P : Program} {n : Nat} {ops rest : List Oper} {N : Val → World → Prop} {Z : List PanicEntry → World → Prop} {f : Val} {w : World}
variable {d : Nat} {t t' ty : TypeId} {pos : String} {after : Array Edge} {x y : Operand} {a b : BitVec 64}
theorem oor (c : Option Ordering) (d e : Ordering) : (c == some d || c == some e) = decide (c = some d ∨ c = some e) := by
 rw [oeq, oeq]
 by_cases h1 : c = some d <;> by_cases h2 : c = some e <;> simp [h1, h2]
theorem O.leqF (hx : ev n f x = fl a) (hy : ev n f y = fl b) (h : O P n ops rest N Z (upd f d (.bool (decide (flt a b ∨ feq a b)))) w) :
 O P n ops (ZO d (.binOp .leq t x y t') ty pos after :: rest) N Z f w :=
 O.val rfl rfl (by
  have e : (FloatKind.f64.format.order a.toNat b.toNat == some Ordering.lt || FloatKind.f64.format.order a.toNat b.toNat == some Ordering.eq) = decide (flt a b ∨ feq a b) := oor _ _ _
  simp [execOp, hx, hy, fl, eqGuard, binOp, Op.floatCmp, e]) h
theorem O.geqF (hx : ev n f x = fl a) (hy : ev n f y = fl b) (h : O P n ops rest N Z (upd f d (.bool (decide (fgt a b ∨ feq a b)))) w) :
 O P n ops (ZO d (.binOp .geq t x y t') ty pos after :: rest) N Z f w :=
 O.val rfl rfl (by
  have e : (FloatKind.f64.format.order a.toNat b.toNat == some Ordering.gt || FloatKind.f64.format.order a.toNat b.toNat == some Ordering.eq) = decide (fgt a b ∨ feq a b) := oor _ _ _
  simp [execOp, hx, hy, fl, eqGuard, binOp, Op.floatCmp, e]) h
def FRes (o : Option Nat) (r : BitVec 64) : Prop := match o with
 | some z => r.toNat = z
 | none => nanB r
theorem map_lt {o : Option Ieee.Datum} {z : Nat} (h : o.map FloatKind.f64.format.write = some z) : z < 2 ^ 64 := by
 obtain ⟨d, _, rfl⟩ := Option.map_eq_some_iff.1 h
 exact write_lt d
theorem res_of {o : Option Nat} {g : Sem Value} {u v : Nat}
 (hg' : g.run P w = match o with
   | some r => .ok (.float .f64 r) w
   | none => .ok (.float .f64 ((Question.nanBits .f64 u v).cut (w.tape w.drawn (.nanBits .f64 u v)))) { w with drawn := w.drawn + 1 })
 (h : ∀ z, o = some z → z < 2 ^ 64) : ∃ r w', g.run P w = .ok (fl r) w' ∧ Le w w' ∧ FRes o r := by
 cases o with
 | some z =>
   have hz := h z rfl
   refine ⟨BitVec.ofNat 64 z, w, ?_, Le.refl w, ?_⟩
   ·rw [hg']
    show Result.ok (Value.float .f64 z) w = Result.ok (Value.float .f64 (BitVec.ofNat 64 z).toNat) w
    rw [BitVec.toNat_ofNat, Nat.mod_eq_of_lt hz]
   ·show (BitVec.ofNat 64 z).toNat = z
    rw [BitVec.toNat_ofNat]
    exact Nat.mod_eq_of_lt hz
 | none =>
   obtain ⟨r, hr, hn⟩ := nan_cut (w.tape w.drawn (.nanBits .f64 u v)) u v
   refine ⟨r, { w with drawn := w.drawn + 1 }, ?_, ⟨rfl, rfl, rfl, Nat.le_refl _, fun _ _ _ => rfl⟩, hn⟩
   rw [hg', fl, hr]
theorem run_floatMul {x y : Nat} (P : Program) (w : World) : (Op.floatArith .mul .f64 x y).run P w = match Ieee.Format.mul FloatKind.f64.format x y with
 | some r => .ok (.float .f64 r) w
 | none => .ok (.float .f64 ((Question.nanBits .f64 x y).cut (w.tape w.drawn (.nanBits .f64 x y)))) { w with drawn := w.drawn + 1 } := by
 show Sem.run P ((match Ieee.Format.mul FloatKind.f64.format x y with | some r => (pure (Value.float .f64 r) : Sem Value) | none => (do pure (Value.float .f64 (← choose (.nanBits .f64 x y))) : Sem Value)) : Sem Value) w = _
 cases Ieee.Format.mul FloatKind.f64.format x y <;> rfl
theorem run_floatDiv {x y : Nat} (P : Program) (w : World) : (Op.floatArith .quo .f64 x y).run P w = match Ieee.Format.div FloatKind.f64.format x y with
 | some r => .ok (.float .f64 r) w
 | none => .ok (.float .f64 ((Question.nanBits .f64 x y).cut (w.tape w.drawn (.nanBits .f64 x y)))) { w with drawn := w.drawn + 1 } := by
 show Sem.run P ((match Ieee.Format.div FloatKind.f64.format x y with | some r => (pure (Value.float .f64 r) : Sem Value) | none => (do pure (Value.float .f64 (← choose (.nanBits .f64 x y))) : Sem Value)) : Sem Value) w = _
 cases Ieee.Format.div FloatKind.f64.format x y <;> rfl
def FMul (a b r : BitVec 64) : Prop := FRes (FloatKind.f64.format.mul a.toNat b.toNat) r
def FDiv (a b r : BitVec 64) : Prop := FRes (FloatKind.f64.format.div a.toNat b.toNat) r
theorem O.mulF (hx : ev n f x = fl a) (hy : ev n f y = fl b) (h : ∀ r w', Le w w' → FMul a b r → O P n ops rest N Z (upd f d (fl r)) w') :
 O P n ops (ZO d (.binOp .mul t x y t') ty pos after :: rest) N Z f w := by
 obtain ⟨r, w', h1, h2, h3⟩ := res_of (run_floatMul (x := a.toNat) (y := b.toNat) P w) (fun z h => map_lt h)
 refine O.val rfl rfl ?_ (h r w' h2 h3)
 rw [fl] at h1
 simp [execOp, hx, hy, fl, eqGuard, binOp, h1]
theorem O.quoF (hx : ev n f x = fl a) (hy : ev n f y = fl b) (h : ∀ r w', Le w w' → FDiv a b r → O P n ops rest N Z (upd f d (fl r)) w') :
 O P n ops (ZO d (.binOp .quo t x y t') ty pos after :: rest) N Z f w := by
 obtain ⟨r, w', h1, h2, h3⟩ := res_of (run_floatDiv (x := a.toNat) (y := b.toNat) P w) (fun z h => map_lt h)
 refine O.val rfl rfl ?_ (h r w' h2 h3)
 rw [fl] at h1
 simp [execOp, hx, hy, fl, eqGuard, binOp, h1]
def ofI (z : Int) : BitVec 64 := BitVec.ofNat 64 (floatOfInt .f64 z)
theorem ofI_nat (z : Int) : (ofI z).toNat = floatOfInt .f64 z := by
 unfold ofI
 rw [BitVec.toNat_ofNat]
 exact Nat.mod_eq_of_lt (write_lt (.number (z < 0) z.natAbs 0))
theorem O.convIF {z : Int} {k : IntKind} {u : TypeDesc} (ht : P.underlying t = some u) (ht' : P.underlying t' = some (.float .f64)) (hx : ev n f x = .int k z) (h : O P n ops rest N Z (upd f d (fl (ofI z))) w) :
 O P n ops (ZO d (.convert t t' x) ty pos after :: rest) N Z f w :=
 O.val rfl rfl (by
  have h1 := run_convert_int_float (P := P) w t t' k .f64 z (by rw [ht]; rfl) ht'
  simp [execOp, hx, h1, fl, ofI_nat]) h
theorem O.convFI {z : Int} {u : TypeDesc} (ht : P.underlying t = some u) (ht' : P.underlying t' = some (.int .i64)) (hv : floatToIntVal .f64 a.toNat .i64 = some z) (hx : ev n f x = fl a) (h : O P n ops rest N Z (upd f d (i64 z)) w) :
 O P n ops (ZO d (.convert t t' x) ty pos after :: rest) N Z f w :=
 O.val rfl rfl (by
  have h1 := run_convert_float_int (P := P) w t t' .f64 .i64 a.toNat z (by rw [ht]; rfl) ht' hv
  simp [execOp, hx, h1, fl]) h
abbrev floorX : Array Value → Sem Value := Extern.MathFloor.toIntegral "math.archFloor" .down
theorem run_floor {s : Bool} {m : Nat} {p : Int} (h : FloatKind.f64.format.read a.toNat = .number s m p) : (floorX #[fl a]).run P w = .ok (.float .f64 (FloatKind.f64.format.write ((Ieee.Datum.number s m p).integral .down))) w := by
 show Sem.run P (match FloatKind.f64.decode a.toNat with
  | .nan s t => if FloatKind.f64.format.quiet t = t then (pure (.float .f64 a.toNat) : Sem Value) else do
    let kept ← choose (.extern "math.Floor,Ceil,Trunc,RoundToEven.signallingNaN kept" 2)
    pure (.float .f64 (if kept == 1 then a.toNat else FloatKind.f64.encode (.nan s (FloatKind.f64.format.quiet t))))
  | d => (pure (.float .f64 (FloatKind.f64.encode (d.integral .down))) : Sem Value)) w = _
 have e : FloatKind.f64.decode a.toNat = .number s m p := h
 rw [e]
 rfl
end
end Go.Pn
end
section
namespace Go.Pn.Fl
def key (x : BitVec 64) : BitVec 64 := if x < 9223372036854775808#64 then 9223372036854775808#64 + x else 18446744073709551615#64 - x
def off (x : BitVec 64) : BitVec 64 := if 9223372036854775808#64 ≤ x then x - 9223372036854775808#64 else 18446744073709551615#64 - x
theorem high_toNat : (9223372036854775808#64).toNat = 2 ^ 63 := rfl
theorem and_high (x : BitVec 64) : x &&& 9223372036854775808#64 ≠ 0#64 ↔ ¬ x < 9223372036854775808#64 := by
 rw [BitVec.lt_def, high_toNat, Ne, ← BitVec.toNat_inj, BitVec.toNat_and, high_toNat]
 have hx := x.isLt
 have e0 : (0#64).toNat = 0 := rfl
 rw [e0]
 by_cases h : x.toNat < 2 ^ 63
 ·have h1 : x.toNat &&& 2 ^ 63 = 0 := by
   apply Nat.eq_of_testBit_eq
   intro i
   rw [Nat.testBit_and, Nat.testBit_two_pow, Nat.zero_testBit]
   by_cases hi : 63 = i
   ·subst hi
    rw [Nat.testBit_lt_two_pow h]
    rfl
   ·simp [hi]
  simp only [h1, h, not_true]
 ·have ht : x.toNat.testBit 63 = true := by
   rw [Nat.testBit_eq_decide_div_mod_eq]
   exact decide_eq_true (by omega)
  have h1 : ¬ x.toNat &&& 2 ^ 63 = 0 := by
   intro h2
   have h3 := congrArg (fun n => n.testBit 63) h2
   simp only [Nat.testBit_and, Nat.testBit_two_pow_self, ht, Nat.zero_testBit] at h3
   cases h3
  simp only [h1, h, not_false_eq_true]
theorem not_eq (x : BitVec 64) : ~~~ x = 18446744073709551615#64 - x := by
 apply BitVec.eq_of_toNat_eq
 rw [BitVec.toNat_not, BitVec.toNat_sub]
 have hx := x.isLt
 have e : (18446744073709551615#64).toNat = 18446744073709551615 := rfl
 rw [e]
 omega
theorem or_high {x : BitVec 64} (h : x < 9223372036854775808#64) : x ||| 9223372036854775808#64 = 9223372036854775808#64 + x := by
 rw [BitVec.lt_def, high_toNat] at h
 apply BitVec.eq_of_toNat_eq
 have h1 := Nat.two_pow_add_eq_or_of_lt h 1
 rw [Nat.mul_one] at h1
 rw [BitVec.toNat_or, BitVec.toNat_add, high_toNat, Nat.or_comm, ← h1]
 omega
theorem key_hi {x : BitVec 64} (h : x &&& 9223372036854775808#64 ≠ 0#64) : ~~~ x = key x := by unfold key; rw [if_neg ((and_high x).1 h), not_eq]
theorem key_lo {x : BitVec 64} (h : ¬ x &&& 9223372036854775808#64 ≠ 0#64) : x ||| 9223372036854775808#64 = key x := by
 have h1 : x < 9223372036854775808#64 := Decidable.of_not_not (fun h2 => h ((and_high x).2 h2))
 unfold key; rw [if_pos h1, or_high h1]
def ucmp (a b : BitVec 64) : Int := if a < b then -1 else if a > b then 1 else 0
def cmp (a b : BitVec 64) : Int := ucmp (key a) (key b)
def canon (x : BitVec 64) : BitVec 64 := if x % 9223372036854775808#64 > 9218868437227405312#64 then 9221120237041090560#64 else if x % 9223372036854775808#64 = 0#64 then 0#64 else x
end Go.Pn.Fl
end
section
namespace Go.Pn.Fl
open Ieee
theorem fSign : Format.signWeight FloatKind.f64.format = 9223372036854775808 := by decide
theorem fInf : Format.infRung FloatKind.f64.format = 9218868437227405312 := by decide
theorem fBin : Format.binade FloatKind.f64.format = 4503599627370496 := by decide
def sg (x : BitVec 64) : Bool := x.toNat / 9223372036854775808 % 2 == 1
def rung (x : BitVec 64) : Nat := x.toNat % 9223372036854775808
theorem read_sub {x : BitVec 64} (h : rung x < 4503599627370496) : FloatKind.f64.format.read x.toNat = .number (sg x) (rung x) (Format.leastPlace FloatKind.f64.format) := by
 unfold Format.read
 simp only [fSign, fBin]
 have h' : x.toNat % 9223372036854775808 < 4503599627370496 := h
 rw [if_pos h']
 rfl
theorem read_norm {x : BitVec 64} (h : ¬ rung x < 4503599627370496) (h2 : rung x < 9218868437227405312) :
 FloatKind.f64.format.read x.toNat = .number (sg x) (4503599627370496 + rung x % 4503599627370496) (Format.leastPlace FloatKind.f64.format + (rung x / 4503599627370496 - 1 : Nat)) := by
 unfold Format.read
 simp only [fSign, fBin, fInf]
 have h' : ¬ x.toNat % 9223372036854775808 < 4503599627370496 := h
 have h2' : x.toNat % 9223372036854775808 < 9218868437227405312 := h2
 rw [if_neg h', if_pos h2']
 rfl
theorem read_inf {x : BitVec 64} (h2 : rung x = 9218868437227405312) : FloatKind.f64.format.read x.toNat = .infinity (sg x) := by
 unfold Format.read
 simp only [fSign, fBin, fInf]
 have e : x.toNat % 9223372036854775808 = 9218868437227405312 := h2
 rw [if_neg (by omega), if_neg (by omega), if_pos e]
 rfl
theorem read_nan {x : BitVec 64} (h2 : rung x > 9218868437227405312) : FloatKind.f64.format.read x.toNat = .nan (sg x) (rung x - 9218868437227405312) := by
 unfold Format.read
 simp only [fSign, fBin, fInf]
 have e : x.toNat % 9223372036854775808 > 9218868437227405312 := h2
 rw [if_neg (by omega), if_neg (by omega), if_neg (by omega)]
 rfl
theorem read_any (x : BitVec 64) : (rung x > 9218868437227405312 ∧ ∃ s t, FloatKind.f64.format.read x.toNat = .nan s t) ∨ (rung x = 9218868437227405312 ∧ FloatKind.f64.format.read x.toNat = .infinity (sg x)) ∨
 (rung x < 9218868437227405312 ∧ ∃ m p, FloatKind.f64.format.read x.toNat = .number (sg x) m p ∧ (m = 0 ↔ rung x = 0)) := by
 rcases Nat.lt_trichotomy (rung x) 9218868437227405312 with h | h | h
 ·right; right
  refine ⟨h, ?_⟩
  by_cases h2 : rung x < 4503599627370496
  ·exact ⟨_, _, read_sub h2, Iff.rfl⟩
  ·exact ⟨_, _, read_norm h2 h, by omega⟩
 ·exact .inr (.inl ⟨h, read_inf h⟩)
 ·exact .inl ⟨h, _, _, read_nan h⟩
theorem feq_self (x : BitVec 64) : feq x x ↔ ¬ rung x > 9218868437227405312 := by
 unfold feq ford Format.order
 rcases read_any x with ⟨h, s, t, e⟩ | ⟨h, e⟩ | ⟨h, m, p, e, _⟩ <;> rw [e] <;> simp [Datum.order, h, Nat.le_of_lt] <;> omega
theorem feq_zero (x : BitVec 64) : feq x 0#64 ↔ rung x = 0 := by
 have e0 : FloatKind.f64.format.read (0#64).toNat = .number false 0 (Format.leastPlace FloatKind.f64.format) := by decide
 unfold feq ford Format.order
 rw [e0]
 rcases read_any x with ⟨h, s, t, e⟩ | ⟨h, e⟩ | ⟨h, m, p, e, hm⟩ <;> rw [e]
 ·simp [Datum.order]; omega
 ·cases sg x <;> simp [Datum.order] <;> omega
 ·rw [← hm]
  have hc : ∀ a b : Int, compare a b = .eq ↔ a = b := fun a b => Std.LawfulEqOrd.compare_eq_iff_eq
  simp only [Datum.order, Option.some.injEq, hc, signed]
  generalize (p - min p (Format.leastPlace FloatKind.f64.format)).toNat = i
  generalize (Format.leastPlace FloatKind.f64.format - min p (Format.leastPlace FloatKind.f64.format)).toNat = j
  have hp : 0 < 2 ^ i := Nat.pow_pos (by decide)
  have e1 : m <<< i = m * 2 ^ i := Nat.shiftLeft_eq _ _
  have e2 : (0 : Nat) <<< j = 0 := by rw [Nat.shiftLeft_eq, Nat.zero_mul]
  rw [e1, e2]
  constructor
  ·intro h0
   have h1 : m * 2 ^ i = 0 := by
    cases sg x
    ·simp only [Bool.false_eq_true, if_false] at h0; omega
    ·simp only [Bool.false_eq_true, if_false] at h0; omega
   rcases Nat.mul_eq_zero.1 h1 with h | h
   ·exact h
   ·omega
  ·rintro rfl
   cases sg x <;> simp
theorem rung_mod (x : BitVec 64) : (x % 9223372036854775808#64).toNat = rung x := by rw [BitVec.toNat_umod]; rfl
theorem canon_nan {x : BitVec 64} (h : ¬ feq x x) : canon x = 9221120237041090560#64 := by
 rw [feq_self] at h
 unfold canon
 rw [if_pos]
 show _ < _
 rw [BitVec.lt_def, rung_mod]
 show 9218868437227405312 < _
 omega
theorem canon_rest {x : BitVec 64} (h : ¬ ¬ feq x x) : ¬ (x % 9223372036854775808#64 > 9218868437227405312#64) := by
 rw [feq_self] at h
 intro h2
 have h3 : (9218868437227405312#64).toNat < (x % 9223372036854775808#64).toNat := h2
 rw [rung_mod] at h3
 have h4 : (9218868437227405312#64).toNat = 9218868437227405312 := rfl
 omega
theorem canon_zero {x : BitVec 64} (h : ¬ ¬ feq x x) (h2 : feq x 0#64) : canon x = 0#64 := by
 unfold canon
 rw [if_neg (canon_rest h), if_pos]
 apply BitVec.eq_of_toNat_eq
 rw [rung_mod, (feq_zero x).1 h2]
 rfl
theorem canon_else {x : BitVec 64} (h : ¬ ¬ feq x x) (h2 : ¬ feq x 0#64) : canon x = x := by
 unfold canon
 rw [if_neg (canon_rest h), if_neg]
 intro h3
 apply h2
 rw [feq_zero, ← rung_mod, h3]
 rfl
end Go.Pn.Fl
end
section
namespace Go.Pn.Fl
def ins (o : List (BitVec 64)) (x : BitVec 64) : List (BitVec 64) := o.takeWhile (fun y => decide (key y ≤ key x)) ++ x :: o.dropWhile (fun y => decide (key y ≤ key x))
def sorted (l : List (BitVec 64)) : List (BitVec 64) := l.foldl ins []
theorem ins_length (o : List (BitVec 64)) (x : BitVec 64) : (ins o x).length = o.length + 1 := by
 unfold ins
 have h := congrArg List.length (List.takeWhile_append_dropWhile (p := fun y => decide (key y ≤ key x)) (l := o))
 rw [List.length_append] at h
 rw [List.length_append, List.length_cons]
 omega
theorem sorted_length (l : List (BitVec 64)) : (sorted l).length = l.length := by
 unfold sorted
 suffices h : ∀ o, (l.foldl ins o).length = o.length + l.length by simpa using h []
 induction l with
 | nil => simp
 | cons x l ih => intro o; rw [List.foldl_cons, ih, ins_length, List.length_cons]; omega
inductive Sum : List (BitVec 64) → BitVec 64 → Prop
 | nil : Sum [] 0#64
 | snoc {l : List (BitVec 64)} {s x r : BitVec 64} : Sum l s → FAdd s x r → Sum (l ++ [x]) r
theorem add_nan {s x r : BitVec 64} (h : nanB s) (ha : FAdd s x r) : nanB r := by
 unfold FAdd at ha
 have e : FloatKind.f64.format.add s.toNat x.toNat = none := by
  unfold Ieee.Format.add
  rw [read_nan (x := s) h]
  rfl
 rw [e] at ha
 exact ha
theorem add_same {s x r r' : BitVec 64} (h : FAdd s x r) (h' : FAdd s x r') : r = r' ∨ (nanB r ∧ nanB r') := by
 unfold FAdd at h h'
 cases e : FloatKind.f64.format.add s.toNat x.toNat with
 | none => rw [e] at h h'; exact .inr ⟨h, h'⟩
 | some z => rw [e] at h h'; exact .inl (BitVec.eq_of_toNat_eq (h.trans h'.symm))
theorem sum_same {l : List (BitVec 64)} {r : BitVec 64} (h : Sum l r) : ∀ {r'}, Sum l r' → r = r' ∨ (nanB r ∧ nanB r') := by
 induction h with
 | nil =>
   intro r' h'
   generalize hl : ([] : List (BitVec 64)) = l' at h'
   cases h' with
   | nil => exact .inl rfl
   | snoc _ _ => simp at hl
 | @snoc l s x r hs ha ih =>
   intro r' h'
   generalize hl : l ++ [x] = l' at h'
   cases h' with
   | nil => simp at hl
   | @snoc l2 s2 x2 _ hs2 ha2 =>
     obtain ⟨rfl, hx⟩ := List.append_inj' hl rfl
     obtain rfl : x = x2 := by simpa using hx
     rcases ih hs2 with rfl | ⟨h1, h2⟩
     ·exact add_same ha ha2
     ·exact .inr ⟨add_nan h1 ha, add_nan h2 ha2⟩
theorem canon_of_nan {x : BitVec 64} (h : nanB x) : canon x = 9221120237041090560#64 := by
 apply canon_nan
 rw [feq_self]
 intro h2
 exact h2 h
theorem sum_canon {l : List (BitVec 64)} {r r' : BitVec 64} (h : Sum l r) (h' : Sum l r') : canon r = canon r' := by
 rcases sum_same h h' with rfl | ⟨h1, h2⟩
 ·rfl
 ·rw [canon_of_nan h1, canon_of_nan h2]
end Go.Pn.Fl
end
section
namespace Go.Pn.Fl
open Ieee
theorem key_nat (x : BitVec 64) : (key x).toNat = if x.toNat < 9223372036854775808 then 9223372036854775808 + x.toNat else 18446744073709551615 - x.toNat := by
 have hx := x.isLt
 unfold key
 have e : x < 9223372036854775808#64 ↔ x.toNat < 9223372036854775808 := by rw [BitVec.lt_def]; rfl
 by_cases h : x.toNat < 9223372036854775808
 ·rw [if_pos (e.2 h), if_pos h, BitVec.toNat_add]
  have e1 : (9223372036854775808#64).toNat = 9223372036854775808 := rfl
  rw [e1]; omega
 ·rw [if_neg (fun h2 => h (e.1 h2)), if_neg h, BitVec.toNat_sub]
  have e1 : (18446744073709551615#64).toNat = 18446744073709551615 := rfl
  rw [e1]; omega
theorem off_nat (x : BitVec 64) : (off x).toNat = if 9223372036854775808 ≤ x.toNat then x.toNat - 9223372036854775808 else 18446744073709551615 - x.toNat := by
 have hx := x.isLt
 unfold off
 have e : 9223372036854775808#64 ≤ x ↔ 9223372036854775808 ≤ x.toNat := by rw [BitVec.le_def]; rfl
 by_cases h : 9223372036854775808 ≤ x.toNat
 ·rw [if_pos (e.2 h), if_pos h, BitVec.toNat_sub]
  have e1 : (9223372036854775808#64).toNat = 9223372036854775808 := rfl
  rw [e1]; omega
 ·rw [if_neg (fun h2 => h (e.1 h2)), if_neg h, BitVec.toNat_sub]
  have e1 : (18446744073709551615#64).toNat = 18446744073709551615 := rfl
  rw [e1]; omega
theorem off_key (x : BitVec 64) : off (key x) = x := by
 have hx := x.isLt
 apply BitVec.eq_of_toNat_eq
 rw [off_nat, key_nat]
 split <;> split <;> omega
theorem key_inj {a b : BitVec 64} (h : key a = key b) : a = b := by rw [← off_key a, h, off_key]
theorem ucmp_zero (a b : BitVec 64) : ucmp a b = 0 ↔ a = b := by
 unfold ucmp
 simp only [BitVec.lt_def, gt_iff_lt, ← BitVec.toNat_inj]
 split
 ·constructor
  ·intro h; cases h
  ·intro h; omega
 ·split
  ·constructor
   ·intro h; cases h
   ·intro h; omega
  ·constructor
   ·intro _; omega
   ·intro _; rfl
theorem cmp_zero (a b : BitVec 64) : cmp a b = 0 ↔ a = b := by
 unfold cmp
 rw [ucmp_zero]
 exact ⟨key_inj, fun h => by rw [h]⟩
theorem cmp_lt_iff (a b : BitVec 64) : cmp a b < 0 ↔ key a < key b := by
 unfold cmp ucmp
 split
 ·simp [*]
 ·split <;> simp [*]
theorem cmp_self (a : BitVec 64) : cmp a a = 0 := (cmp_zero a a).2 rfl
theorem ins_perm (o : List (BitVec 64)) (x : BitVec 64) : (ins o x).Perm (x :: o) := by
 unfold ins
 refine List.perm_middle.trans ?_
 rw [List.takeWhile_append_dropWhile]
theorem foldl_perm (l : List (BitVec 64)) : ∀ o, (l.foldl ins o).Perm (l ++ o) := by
 induction l with
 | nil => intro o; exact List.Perm.refl _
 | cons x l ih =>
   intro o
   rw [List.foldl_cons]
   refine (ih _).trans ?_
   refine ((ins_perm o x).append_left l).trans ?_
   exact List.perm_middle
theorem sorted_perm (l : List (BitVec 64)) : (sorted l).Perm l := by
 have := foldl_perm l []
 rwa [List.append_nil] at this
def Asc (l : List (BitVec 64)) : Prop := l.Pairwise (fun a b => key a ≤ key b)
theorem ins_asc {o : List (BitVec 64)} (x : BitVec 64) (h : Asc o) : Asc (ins o x) := by
 unfold ins
 induction o with
 | nil => simp [Asc]
 | cons y o ih =>
   have h1 := List.pairwise_cons.1 h
   by_cases hy : key y ≤ key x
   ·have e1 : (y :: o).takeWhile (fun z => decide (key z ≤ key x)) = y :: o.takeWhile (fun z => decide (key z ≤ key x)) := by simp [hy]
    have e2 : (y :: o).dropWhile (fun z => decide (key z ≤ key x)) = o.dropWhile (fun z => decide (key z ≤ key x)) := by simp [hy]
    rw [e1, e2, List.cons_append]
    refine List.pairwise_cons.2 ⟨?_, ih h1.2⟩
    intro z hz
    have hz2 : z ∈ x :: o := (ins_perm o x).mem_iff.1 hz
    rcases List.mem_cons.1 hz2 with rfl | hz3
    ·exact hy
    ·exact h1.1 z hz3
   ·have e1 : (y :: o).takeWhile (fun z => decide (key z ≤ key x)) = [] := by simp [hy]
    have e2 : (y :: o).dropWhile (fun z => decide (key z ≤ key x)) = y :: o := by simp [hy]
    rw [e1, e2, List.nil_append]
    refine List.pairwise_cons.2 ⟨?_, h⟩
    intro z hz
    have hxy : key x ≤ key y := by rw [BitVec.le_def] at hy ⊢; omega
    rcases List.mem_cons.1 hz with rfl | hz
    ·exact hxy
    ·have := h1.1 z hz
     rw [BitVec.le_def] at *
     omega
theorem sorted_asc (l : List (BitVec 64)) : Asc (sorted l) := by
 unfold sorted
 suffices h : ∀ o, Asc o → Asc (l.foldl ins o) from h [] List.Pairwise.nil
 induction l with
 | nil => intro o h; exact h
 | cons x l ih => intro o h; exact ih _ (ins_asc x h)
theorem asc_one : ∀ {l l' : List (BitVec 64)}, l.Perm l' → Asc l → Asc l' → l = l' := by
 intro l
 induction l with
 | nil => intro l' h _ _; exact (List.nil_perm.1 h).symm
 | cons a l ih =>
   intro l' h h1 h2
   cases l' with
   | nil => exact absurd h.length_eq (by simp)
   | cons b l' =>
     have p1 := List.pairwise_cons.1 h1
     have p2 := List.pairwise_cons.1 h2
     have hab : a = b := by
      have ha : a ∈ b :: l' := h.mem_iff.1 (by simp)
      have hb : b ∈ a :: l := h.mem_iff.2 (by simp)
      rcases List.mem_cons.1 ha with e | ha
      ·exact e
      ·rcases List.mem_cons.1 hb with e | hb
       ·exact e.symm
       ·have q1 := p2.1 a ha
        have q2 := p1.1 b hb
        apply key_inj
        apply BitVec.eq_of_toNat_eq
        rw [BitVec.le_def] at q1 q2
        omega
     subst hab
     rw [ih h.cons_inv p1.2 p2.2]
theorem sorted_of_asc {l l' : List (BitVec 64)} (h : l'.Perm l) (h2 : Asc l') : l' = sorted l := asc_one (h.trans (sorted_perm l).symm) h2 (sorted_asc l)
theorem canon_canon (x : BitVec 64) : canon (canon x) = canon x := by
 by_cases h1 : x % 9223372036854775808#64 > 9218868437227405312#64
 ·have e : canon x = 9221120237041090560#64 := by unfold canon; rw [if_pos h1]
  rw [e]; decide
 ·by_cases h2 : x % 9223372036854775808#64 = 0#64
  ·have e : canon x = 0#64 := by unfold canon; rw [if_neg h1, if_pos h2]
   rw [e]; decide
  ·have e : canon x = x := by unfold canon; rw [if_neg h1, if_neg h2]
   rw [e, e]
def addv (s x : BitVec 64) : BitVec 64 := match FloatKind.f64.format.add s.toNat x.toNat with
 | some z => BitVec.ofNat 64 z
 | none => 9221120237041090560#64
theorem addv_ok (s x : BitVec 64) : FAdd s x (addv s x) := by
 unfold FAdd addv
 cases h : FloatKind.f64.format.add s.toNat x.toNat with
 | some z =>
   show (BitVec.ofNat 64 z).toNat = z
   rw [BitVec.toNat_ofNat]
   exact Nat.mod_eq_of_lt (add_lt h)
 | none => show nanB 9221120237041090560#64; unfold nanB; decide
theorem sum_fold (l : List (BitVec 64)) : ∀ {p : List (BitVec 64)} {s : BitVec 64}, Sum p s → Sum (p ++ l) (l.foldl addv s) := by
 induction l with
 | nil => intro p s h; simpa using h
 | cons x l ih =>
   intro p s h
   have := ih (Sum.snoc h (addv_ok s x))
   rwa [List.append_assoc] at this
def tot (l : List (BitVec 64)) : BitVec 64 := canon ((sorted (l.map canon)).foldl addv 0#64)
theorem tot_eq {l : List (BitVec 64)} {r : BitVec 64} (h : Sum (sorted (l.map canon)) r) : canon r = tot l := sum_canon h (by have := sum_fold (sorted (l.map canon)) Sum.nil; rwa [List.nil_append] at this)
def part (k : Nat) (l : List (BitVec 64)) : List Value := ((l.take k).map fun x => fl (canon x)) ++ List.replicate (l.length - k) (fl 0#64)
theorem part_length {k : Nat} {l : List (BitVec 64)} (h : k ≤ l.length) : (part k l).length = l.length := by unfold part; simp; omega
theorem part_zero (l : List (BitVec 64)) : part 0 l = (List.replicate l.length 0#64).flatMap flF.e := by
 unfold part
 simp
 induction l.length with
 | zero => rfl
 | succ n ih => rw [List.replicate_succ, ih, List.replicate_succ, List.flatMap_cons]; rfl
theorem part_set {k : Nat} {l : List (BitVec 64)} (h : k < l.length) : (part k l).set k (fl (canon l[k])) = part (k + 1) l := by
 have e : l.length - k = (l.length - (k + 1)) + 1 := by omega
 unfold part
 rw [List.set_append_right _ _ (by simp; omega), List.take_succ_eq_append_getElem h, e, List.replicate_succ, List.map_append, List.append_assoc]
 have e2 : k - (List.map (fun x => fl (canon x)) (l.take k)).length = 0 := by simp; omega
 rw [e2]
 rfl
theorem part_end (l : List (BitVec 64)) : part l.length l = (l.map canon).flatMap flF.e := by
 unfold part
 simp
 induction l with
 | nil => rfl
 | cons a l ih => rw [List.map_cons, ih, List.map_cons, List.flatMap_cons]; rfl
def mag (r : Nat) : Nat := if r < 4503599627370496 then r else (4503599627370496 + r % 4503599627370496) * 2 ^ (r / 4503599627370496 - 1)
theorem mag_mono {r s : Nat} (h : r < s) : mag r < mag s := by
 unfold mag
 by_cases hs : s < 4503599627370496
 ·rw [if_pos (by omega), if_pos hs]; exact h
 ·rw [if_neg hs]
  have hp : 0 < 2 ^ (s / 4503599627370496 - 1) := Nat.pow_pos (by decide)
  by_cases hr : r < 4503599627370496
  ·rw [if_pos hr]
   have h1 : 4503599627370496 * 1 ≤ (4503599627370496 + s % 4503599627370496) * 2 ^ (s / 4503599627370496 - 1) := Nat.mul_le_mul (Nat.le_add_right _ _) hp
   omega
  ·rw [if_neg hr]
   by_cases hq : r / 4503599627370496 = s / 4503599627370496
   ·rw [hq]
    exact Nat.mul_lt_mul_of_pos_right (by omega) hp
   ·have hlt : r / 4503599627370496 < s / 4503599627370496 := by
     have : r / 4503599627370496 ≤ s / 4503599627370496 := Nat.div_le_div_right (by omega)
     omega
    obtain ⟨k, hk⟩ : ∃ k, s / 4503599627370496 - 1 = (r / 4503599627370496 - 1) + 1 + k := ⟨s / 4503599627370496 - 1 - (r / 4503599627370496 - 1) - 1, by omega⟩
    rw [hk]
    have hk1 : 0 < 2 ^ k := Nat.pow_pos (by decide)
    have hr1 : 0 < 2 ^ (r / 4503599627370496 - 1) := Nat.pow_pos (by decide)
    have e : 2 ^ (r / 4503599627370496 - 1 + 1 + k) = 2 ^ (r / 4503599627370496 - 1) * 2 * 2 ^ k := by rw [Nat.pow_add, Nat.pow_succ]
    rw [e]
    generalize 2 ^ (r / 4503599627370496 - 1) = p at *
    generalize 2 ^ k = q at *
    have hm : r % 4503599627370496 < 4503599627370496 := Nat.mod_lt _ (by decide)
    have h1 : (4503599627370496 + r % 4503599627370496) * p < (2 * 4503599627370496) * p := Nat.mul_lt_mul_of_pos_right (by omega) hr1
    have h2 : 4503599627370496 * (p * 2) ≤ (4503599627370496 + s % 4503599627370496) * (p * 2 * q) := Nat.mul_le_mul (Nat.le_add_right _ _) (Nat.le_mul_of_pos_right _ hk1)
    omega
theorem read_mag {x : BitVec 64} (h : rung x < 9218868437227405312) : ∃ m e : Nat, FloatKind.f64.format.read x.toNat = .number (sg x) m (Format.leastPlace FloatKind.f64.format + (e : Int)) ∧ m * 2 ^ e = mag (rung x) := by
 by_cases h2 : rung x < 4503599627370496
 ·refine ⟨rung x, 0, ?_, ?_⟩
  ·rw [read_sub h2]; simp
  ·unfold mag; rw [if_pos h2]; simp
 ·refine ⟨_, _, read_norm h2 h, ?_⟩
  unfold mag; rw [if_neg h2]
def sv (s : Bool) (m : Nat) : Int := if s then -(m : Int) else m
theorem compare_scale (x y : Int) (c : Nat) (hc : 0 < c) : compare x y = compare (x * c) (y * c) := by
 have hc' : (0 : Int) < c := by omega
 have h1 : x < y ↔ x * c < y * c := (Int.mul_lt_mul_right hc').symm
 have h2 : x = y ↔ x * c = y * c := ⟨fun h => by rw [h], fun h => Int.eq_of_mul_eq_mul_right (by omega) h⟩
 show compareOfLessAndEq x y = compareOfLessAndEq (x * c) (y * c)
 unfold compareOfLessAndEq
 by_cases hl : x < y
 ·rw [if_pos hl, if_pos (h1.1 hl)]
 ·rw [if_neg hl, if_neg (fun h => hl (h1.2 h))]
  by_cases he : x = y
  ·rw [if_pos he, if_pos (h2.1 he)]
  ·rw [if_neg he, if_neg (fun h => he (h2.2 h))]
theorem sv_mul (s : Bool) (m c : Nat) : sv s m * c = sv s (m * c) := by
 unfold sv
 cases s
 ·simp
 ·simp [Int.neg_mul]
theorem order_num (s t : Bool) (m n e1 e2 : Nat) (L : Int) : Datum.order (.number s m (L + e1)) (.number t n (L + e2)) = some (compare (sv s (m * 2 ^ e1)) (sv t (n * 2 ^ e2))) := by
 have a1 : (L + (e1 : Int) - min (L + e1) (L + e2)).toNat = e1 - min e1 e2 := by omega
 have a2 : (L + (e2 : Int) - min (L + e1) (L + e2)).toNat = e2 - min e1 e2 := by omega
 simp only [Datum.order, a1, a2]
 have b : ∀ (s : Bool) (m j : Nat), signed s m j = sv s (m * 2 ^ j) := by
  intro s m j
  unfold signed sv
  rw [Nat.shiftLeft_eq]
 rw [b, b, compare_scale _ _ (2 ^ min e1 e2) (Nat.pow_pos (by decide)), sv_mul, sv_mul, Nat.mul_assoc, Nat.mul_assoc, ← Nat.pow_add, ← Nat.pow_add, Nat.sub_add_cancel (Nat.min_le_left _ _), Nat.sub_add_cancel (Nat.min_le_right _ _)]
theorem comp_lt (a b : Int) : compare a b = .lt ↔ a < b := by
 show compareOfLessAndEq a b = .lt ↔ a < b
 unfold compareOfLessAndEq
 split
 ·simp [*]
 ·split <;> simp [*]
theorem comp_gt (a b : Int) : compare a b = .gt ↔ b < a := by
 show compareOfLessAndEq a b = .gt ↔ b < a
 unfold compareOfLessAndEq
 split
 ·simp; omega
 ·split
  ·simp; omega
  ·simp; omega
end Go.Pn.Fl
end
section
namespace Go.Pn.Rnd
def rne (n g : Nat) : Nat := n / g + (if g < 2 * (n % g) ∨ (g = 2 * (n % g) ∧ n / g % 2 = 1) then 1 else 0)
theorem rne_scale (n g k : Nat) (hk : 0 < k) : rne (n * k) (g * k) = rne n g := by
 unfold rne
 rw [Nat.mul_div_mul_right _ _ hk, Nat.mul_mod_mul_right]
 have e1 : (g * k < 2 * (n % g * k)) ↔ g < 2 * (n % g) := by
  rw [← Nat.mul_assoc]
  exact Nat.mul_lt_mul_right hk
 have e2 : (g * k = 2 * (n % g * k)) ↔ g = 2 * (n % g) := by
  rw [← Nat.mul_assoc]
  exact Nat.mul_left_inj (by omega)
 simp only [e1, e2]
theorem rne_one (n : Nat) : rne n 1 = n := by
 unfold rne
 have : n % 1 = 0 := Nat.mod_one n
 rw [this, Nat.div_one]
 simp
theorem rne_mul (m g : Nat) (hg : 0 < g) : rne (m * g) g = m := by
 have := rne_scale m 1 g hg
 rwa [Nat.one_mul, rne_one] at this
theorem rne_mono {a b g : Nat} (hg : 0 < g) (h : a ≤ b) : rne a g ≤ rne b g := by
 unfold rne
 have ha := Nat.div_add_mod a g
 have hb := Nat.div_add_mod b g
 have h1 := Nat.mod_lt a hg
 have h2 := Nat.mod_lt b hg
 have hd : a / g ≤ b / g := Nat.div_le_div_right h
 rcases Nat.lt_or_eq_of_le hd with hlt | heq
 ·split <;> split <;> omega
 ·rw [heq] at ha ⊢
  have : a % g ≤ b % g := by omega
  split <;> split <;> omega
theorem log2_mul_pow {m k : Nat} (hm : 0 < m) : (m * 2 ^ k).log2 = m.log2 + k := by
 have hp : 0 < 2 ^ k := Nat.two_pow_pos k
 have hne : m * 2 ^ k ≠ 0 := by
  have := Nat.mul_pos hm hp
  omega
 rw [Nat.log2_eq_iff hne]
 have h1 : 2 ^ m.log2 ≤ m := Nat.log2_self_le (by omega)
 have h2 : m < 2 ^ (m.log2 + 1) := Nat.lt_log2_self
 constructor
 ·rw [Nat.pow_add]
  exact Nat.mul_le_mul_right _ h1
 ·rw [Nat.add_right_comm, Nat.pow_add]
  exact Nat.mul_lt_mul_of_pos_right h2 hp
theorem cut_even (neg : Bool) (n d : Nat) : Ieee.Toward.even.cut neg n d = rne n (2 ^ d) := by
 unfold Ieee.Toward.cut
 simp only [Nat.one_shiftLeft]
 have hlt : n < 2 ^ (n.log2 + 1) := Nat.lt_log2_self
 have key : ∀ g : Nat, (n / g + (decide (g < 2 * (n % g)) || (g == 2 * (n % g) && n / g % 2 == 1)).toNat) = rne n g := by
  intro g
  unfold rne
  congr 1
  by_cases c1 : g < 2 * (n % g)
  ·simp [c1]
  ·by_cases c2 : g = 2 * (n % g)
   ·by_cases c3 : n / g % 2 = 1
    ·simp [c3, ← c2]
    ·simp [c1, c3]
   ·have : (g == 2 * (n % g)) = false := by simpa using c2
    simp [c1, this, c2]
 rw [key]
 rcases Nat.le_total d (n.log2 + 2) with h | h
 ·rw [Nat.min_eq_left h]
 ·rw [Nat.min_eq_right h]
  have zero : ∀ g, 2 * n < g → rne n g = 0 := by
   intro g hg
   unfold rne
   rw [Nat.div_eq_of_lt (by omega), Nat.mod_eq_of_lt (by omega), if_neg (by omega)]
  have e1 : 2 ^ (n.log2 + 2) = 2 * 2 ^ (n.log2 + 1) := by rw [Nat.pow_succ]; omega
  have e2 : 2 ^ (n.log2 + 2) ≤ 2 ^ d := Nat.pow_le_pow_right (by decide) h
  rw [zero _ (by omega), zero _ (by omega)]
@[irreducible] def k0 : Nat := 1074
theorem k0_eq : k0 = 1074 := by unfold k0; rfl
def R (v : Nat) : Nat := min ((v.log2 - (k0 + 52)) * 4503599627370496 + rne v (2 ^ ((v.log2 - (k0 + 52)) + k0))) 9218868437227405312
theorem R_le (v : Nat) : R v ≤ 9218868437227405312 := Nat.min_le_right _ _
theorem log2_zero : Nat.log2 0 = 0 := by decide
theorem rne_zero (g : Nat) : rne 0 g = 0 := by unfold rne; simp
theorem R_zero : R 0 = 0 := by
 unfold R
 rw [log2_zero, Nat.zero_sub, Nat.zero_mul, rne_zero]
 rfl
theorem nearest_R (mag k : Nat) : Ieee.Format.nearest Ieee.double false mag ((k : Int) - 2 * (k0 : Int)) = R (mag * 2 ^ k) := by
 unfold Ieee.Format.nearest
 by_cases h0 : mag = 0
 ·subst h0
  rw [if_pos rfl, Nat.zero_mul, R_zero]
  rfl
 ·rw [if_neg h0]
  have hb : Ieee.Format.binade Ieee.double = 4503599627370496 := by decide
  have hi : Ieee.Format.infRung Ieee.double = 9218868437227405312 := by decide
  have hl : Ieee.Format.leastPlace Ieee.double = -(k0 : Int) := by rw [k0_eq]; decide
  have hf : Ieee.double.fractionBits = 52 := rfl
  have hk0 := k0_eq
  simp only [hb, hi, hl, hf, Ieee.Format.word, Bool.false_eq_true, if_false]
  have hpos : 0 < mag := Nat.pos_of_ne_zero h0
  have hlog := log2_mul_pow (k := k) hpos
  unfold R
  rw [hlog]
  generalize mag.log2 = L
  have e1 : max ((k : Int) - 2 * (k0 : Int) + (L : Int) - ((52 : Nat) : Int)) (-(k0 : Int)) = (((L + k - (k0 + 52) : Nat) : Int)) - (k0 : Int) := by omega
  rw [e1]
  have e2 : ((((L + k - (k0 + 52) : Nat) : Int)) - (k0 : Int) - -(k0 : Int)).toNat = L + k - (k0 + 52) := by omega
  rw [e2, cut_even]
  generalize L + k - (k0 + 52) = e
  congr 2
  rcases Nat.le_total k (e + k0) with h | h
  ·have e3 : ((k : Int) - 2 * (k0 : Int) - ((e : Int) - (k0 : Int))).toNat = 0 := by omega
   have e4 : ((e : Int) - (k0 : Int) - ((k : Int) - 2 * (k0 : Int))).toNat = e + k0 - k := by omega
   rw [e3, e4, Nat.shiftLeft_zero]
   have := rne_scale mag (2 ^ (e + k0 - k)) (2 ^ k) (Nat.two_pow_pos k)
   rw [← Nat.pow_add, Nat.sub_add_cancel h] at this
   exact this.symm
  ·have e3 : ((k : Int) - 2 * (k0 : Int) - ((e : Int) - (k0 : Int))).toNat = k - (e + k0) := by omega
   have e4 : ((e : Int) - (k0 : Int) - ((k : Int) - 2 * (k0 : Int))).toNat = 0 := by omega
   rw [e3, e4, Nat.shiftLeft_eq, Nat.pow_zero, rne_one]
   have := rne_mul (mag * 2 ^ (k - (e + k0))) (2 ^ (e + k0)) (Nat.two_pow_pos _)
   rw [Nat.mul_assoc, ← Nat.pow_add, Nat.sub_add_cancel h] at this
   exact this.symm
theorem rne_le {n g m : Nat} (hg : 0 < g) (h : n ≤ m * g) : rne n g ≤ m := by
 have := rne_mono hg h
 rwa [rne_mul _ _ hg] at this
theorem le_rne {n g m : Nat} (hg : 0 < g) (h : m * g ≤ n) : m ≤ rne n g := by
 have := rne_mono hg h
 rwa [rne_mul _ _ hg] at this
theorem two52 : 2 ^ 52 = 4503599627370496 := by decide
theorem two53 : 2 ^ 53 = 9007199254740992 := by decide
theorem R_mono {v u : Nat} (h : v ≤ u) : R v ≤ R u := by
 have hlog : v.log2 ≤ u.log2 := by
  by_cases h0 : v = 0
  ·rw [h0, log2_zero]; omega
  ·exact (Nat.le_log2 (by omega)).2 (Nat.le_trans (Nat.log2_self_le h0) h)
 unfold R
 refine Nat.le_min.2 ⟨Nat.le_trans (Nat.min_le_left _ _) ?_, Nat.min_le_right _ _⟩
 generalize he : v.log2 - (k0 + 52) = e
 generalize he' : u.log2 - (k0 + 52) = e'
 have hee : e ≤ e' := by omega
 rcases Nat.lt_or_eq_of_le hee with hlt | heq
 ·have hu0 : u ≠ 0 := by
   intro h0
   rw [h0, log2_zero] at he'
   omega
  have h1 : 4503599627370496 ≤ rne u (2 ^ (e' + k0)) := by
   refine le_rne (Nat.two_pow_pos _) ?_
   have h2 := Nat.log2_self_le hu0
   rw [show u.log2 = 52 + (e' + k0) by omega, Nat.pow_add, two52] at h2
   exact h2
  have h3 : rne v (2 ^ (e + k0)) ≤ 9007199254740992 := by
   refine rne_le (Nat.two_pow_pos _) ?_
   have h4 : v < 2 ^ (v.log2 + 1) := Nat.lt_log2_self
   have h5 : 2 ^ (v.log2 + 1) ≤ 2 ^ (53 + (e + k0)) := Nat.pow_le_pow_right (by decide) (by omega)
   rw [Nat.pow_add 2 53, two53] at h5
   exact Nat.le_of_lt (Nat.lt_of_lt_of_le h4 h5)
  omega
 ·subst heq
  have := rne_mono (Nat.two_pow_pos (e + k0)) h
  omega
def V (r : Nat) : Nat := if r < 4503599627370496 then r else (4503599627370496 + r % 4503599627370496) * 2 ^ (r / 4503599627370496 - 1)
theorem R_V {r : Nat} (h : r ≤ 9218868437227405312) : R (V r * 2 ^ k0) = r := by
 unfold V
 split
 ·rename_i hs
  unfold R
  have hlog : (r * 2 ^ k0).log2 - (k0 + 52) = 0 := by
   rcases Nat.eq_zero_or_pos r with rfl | hp
   ·rw [Nat.zero_mul, log2_zero]; omega
   ·rw [log2_mul_pow hp]
    have : r.log2 < 52 := (Nat.log2_lt (by omega)).2 (by rw [two52]; exact hs)
    omega
  rw [hlog, Nat.zero_mul, Nat.zero_add, Nat.zero_add, rne_mul _ _ (Nat.two_pow_pos _)]
  omega
 ·rename_i hs
  have hq : 1 ≤ r / 4503599627370496 := by omega
  generalize hqq : r / 4503599627370496 = q at hq
  have hm : r % 4503599627370496 < 4503599627370496 := Nat.mod_lt _ (by decide)
  have hr : 4503599627370496 * q + r % 4503599627370496 = r := by rw [← hqq]; exact Nat.div_add_mod _ _
  generalize r % 4503599627370496 = m at hm hr
  rw [Nat.mul_assoc, ← Nat.pow_add]
  unfold R
  have hl0 : (4503599627370496 + m).log2 = 52 := (Nat.log2_eq_iff (by omega)).2 ⟨by rw [two52]; omega, by rw [two53]; omega⟩
  rw [log2_mul_pow (by omega), hl0]
  have e1 : 52 + (q - 1 + k0) - (k0 + 52) = q - 1 := by omega
  rw [e1, rne_mul _ _ (Nat.two_pow_pos _)]
  omega
theorem V_mono {r s : Nat} (h : r ≤ s) (hs : s ≤ 9218868437227405312) : V r ≤ V s := by
 rcases Nat.le_total (V r) (V s) with h1 | h1
 ·exact h1
 ·have := R_mono (Nat.mul_le_mul_right (2 ^ k0) h1)
  rw [R_V hs, R_V (Nat.le_trans h hs)] at this
  have e : s = r := Nat.le_antisymm this h
  rw [e]
  exact Nat.le_refl _
theorem V_R_int {c : Nat} (h : c < 9007199254740992) : V (R (c * 2 ^ (2 * k0))) = c * 2 ^ k0 := by
 rcases Nat.eq_zero_or_pos c with rfl | hp
 ·rw [Nat.zero_mul, Nat.zero_mul, R_zero]
  rfl
 ·have hk0 := k0_eq
  have hL : c.log2 ≤ 52 := by
   have : c.log2 < 53 := (Nat.log2_lt (by omega)).2 (by rw [two53]; exact h)
   omega
  have h1 : 2 ^ c.log2 ≤ c := Nat.log2_self_le (by omega)
  have h2 : c < 2 ^ (c.log2 + 1) := Nat.lt_log2_self
  unfold R
  rw [log2_mul_pow hp]
  have e1 : c.log2 + 2 * k0 - (k0 + 52) = c.log2 + k0 - 52 := by omega
  rw [e1]
  have e2 : c * 2 ^ (2 * k0) = (c * 2 ^ (52 - c.log2)) * 2 ^ (c.log2 + k0 - 52 + k0) := by
   rw [Nat.mul_assoc, ← Nat.pow_add]
   congr 2
   omega
  rw [e2, rne_mul _ _ (Nat.two_pow_pos _)]
  have h3 : 4503599627370496 ≤ c * 2 ^ (52 - c.log2) := by
   have := Nat.mul_le_mul_right (2 ^ (52 - c.log2)) h1
   rw [← Nat.pow_add, show c.log2 + (52 - c.log2) = 52 by omega, two52] at this
   exact this
  have h4 : c * 2 ^ (52 - c.log2) < 9007199254740992 := by
   have := Nat.mul_lt_mul_of_pos_right h2 (Nat.two_pow_pos (52 - c.log2))
   rw [← Nat.pow_add, show c.log2 + 1 + (52 - c.log2) = 53 by omega, two53] at this
   exact this
  have h5 : c * 2 ^ k0 = c * 2 ^ (52 - c.log2) * 2 ^ (c.log2 + k0 - 52) := by
   rw [Nat.mul_assoc, ← Nat.pow_add]
   congr 2
   omega
  rw [h5]
  generalize c * 2 ^ (52 - c.log2) = m at h3 h4 ⊢
  generalize hE : c.log2 + k0 - 52 = E
  have hE2 : E ≤ 1074 := by omega
  rw [Nat.min_eq_left (by omega)]
  unfold V
  rw [if_neg (by omega)]
  have e3 : (E * 4503599627370496 + m) / 4503599627370496 - 1 = E := by omega
  have e4 : 4503599627370496 + (E * 4503599627370496 + m) % 4503599627370496 = m := by omega
  rw [e3, e4]
end Go.Pn.Rnd
end
section
namespace Go.Pn.Rnd
open Ieee Go.Pn.Fl
def Pos (x : BitVec 64) : Prop := x.toNat < 9218868437227405312
instance (x : BitVec 64) : Decidable (Pos x) := inferInstanceAs (Decidable (_ < _))
def Unit (x : BitVec 64) : Prop := x.toNat ≤ 4607182418800017408
instance (x : BitVec 64) : Decidable (Unit x) := inferInstanceAs (Decidable (_ ≤ _))
theorem Unit.pos {x : BitVec 64} (h : Unit x) : Pos x := by unfold Unit at h; unfold Pos; omega
theorem pos_rung {x : BitVec 64} (h : Pos x) : rung x = x.toNat ∧ sg x = false := by
 unfold Pos at h
 refine ⟨Nat.mod_eq_of_lt (by omega), ?_⟩
 unfold sg
 rw [show x.toNat / 9223372036854775808 = 0 by omega]
 rfl
theorem read_pos {x : BitVec 64} (h : Pos x) : ∃ m e : Nat, FloatKind.f64.format.read x.toNat = .number false m ((e : Int) - (k0 : Int)) ∧ m * 2 ^ e = V x.toNat := by
 obtain ⟨h1, h2⟩ := pos_rung h
 have h3 : rung x < 9218868437227405312 := by rw [h1]; exact h
 obtain ⟨m, e, h4, h5⟩ := read_mag h3
 refine ⟨m, e, ?_, ?_⟩
 ·rw [h4, h2]
  have hl : Ieee.Format.leastPlace FloatKind.f64.format = -(k0 : Int) := by rw [k0_eq]; decide
  rw [hl]
  congr 1
  omega
 ·rw [h5, h1]
  rfl
theorem write_R (m k : Nat) : FloatKind.f64.format.write (.number false m ((k : Int) - 2 * (k0 : Int))) = R (m * 2 ^ k) := nearest_R m k
def pm (a b : BitVec 64) : BitVec 64 := BitVec.ofNat 64 (R (V a.toNat * V b.toNat))
theorem R_nat (v : Nat) : (BitVec.ofNat 64 (R v)).toNat = R v := by
 rw [BitVec.toNat_ofNat]
 have := R_le v
 exact Nat.mod_eq_of_lt (by omega)
theorem pm_nat (a b : BitVec 64) : (pm a b).toNat = R (V a.toNat * V b.toNat) := R_nat _
theorem mul_pos {a b r : BitVec 64} (ha : Pos a) (hb : Pos b) (h : FMul a b r) : r = pm a b := by
 obtain ⟨m, e, h1, h2⟩ := read_pos ha
 obtain ⟨k, g, h3, h4⟩ := read_pos hb
 have h5 : FloatKind.f64.format.mul a.toNat b.toNat = some (R (V a.toNat * V b.toNat)) := by
  unfold Ieee.Format.mul
  rw [h1, h3]
  show some (FloatKind.f64.format.write (.number (false ^^ false) (m * k) (((e : Int) - (k0 : Int)) + ((g : Int) - (k0 : Int))))) = _
  have e1 : ((e : Int) - (k0 : Int)) + ((g : Int) - (k0 : Int)) = ((e + g : Nat) : Int) - 2 * (k0 : Int) := by omega
  rw [e1]
  show some (FloatKind.f64.format.write (.number false (m * k) (((e + g : Nat) : Int) - 2 * (k0 : Int)))) = _
  rw [write_R, ← h2, ← h4, Nat.pow_add, Nat.mul_mul_mul_comm]
 unfold FMul FRes at h
 rw [h5] at h
 apply BitVec.eq_of_toNat_eq
 rw [pm_nat]
 exact h
def nf (c : Nat) : BitVec 64 := BitVec.ofNat 64 (R (c * 2 ^ (2 * k0)))
theorem nf_nat (c : Nat) : (nf c).toNat = R (c * 2 ^ (2 * k0)) := R_nat _
theorem ofI_nf (c : Nat) : ofI (c : Int) = nf c := by
 apply BitVec.eq_of_toNat_eq
 rw [ofI_nat, nf_nat]
 show FloatKind.f64.format.write (.number (decide ((c : Int) < 0)) (c : Int).natAbs 0) = _
 rw [decide_eq_false (by omega), Int.natAbs_natCast]
 have := write_R c (2 * k0)
 rw [show (((2 * k0 : Nat) : Int) - 2 * (k0 : Int)) = 0 by omega] at this
 exact this
theorem V_nf {c : Nat} (h : c < 9007199254740992) : V (nf c).toNat = c * 2 ^ k0 := by rw [nf_nat, V_R_int h]
theorem V_lt {r : Nat} (h : V r < 9007199254740992 * 2 ^ k0) (hr : r ≤ 9218868437227405312) : r < 9218868437227405312 := by
 rcases Nat.lt_or_eq_of_le hr with h1 | h1
 ·exact h1
 ·exfalso
  subst h1
  obtain ⟨q, hq⟩ : ∃ q, q = 2046 := ⟨_, rfl⟩
  have e : V 9218868437227405312 = 4503599627370496 * 2 ^ q := by
   unfold V
   have e1 : 9218868437227405312 % 4503599627370496 = 0 := by decide
   have e2 : 9218868437227405312 / 4503599627370496 - 1 = q := by rw [hq]
   rw [if_neg (by decide), e1, e2, Nat.add_zero]
  rw [e] at h
  have h2 : 9007199254740992 * 2 ^ k0 = 4503599627370496 * 2 ^ (k0 + 1) := by rw [Nat.pow_succ, Nat.mul_comm (2 ^ k0) 2, ← Nat.mul_assoc]
  rw [h2] at h
  have h3 := Nat.lt_of_mul_lt_mul_left h
  have h4 : 2 ^ (k0 + 1) ≤ 2 ^ q := Nat.pow_le_pow_right (by decide) (by rw [k0_eq, hq]; decide)
  exact absurd h3 (Nat.not_lt.2 h4)
theorem nf_pos {c : Nat} (h : c < 9007199254740992) : Pos (nf c) := by
 have h1 := V_nf h
 have h2 : (nf c).toNat ≤ 9218868437227405312 := by rw [nf_nat]; exact R_le _
 refine V_lt ?_ h2
 rw [h1]
 exact Nat.mul_lt_mul_of_pos_right h (Nat.two_pow_pos _)
theorem V_one : V 4607182418800017408 = 2 ^ k0 := by
 unfold V
 rw [if_neg (by decide)]
 have e : 4503599627370496 + 4607182418800017408 % 4503599627370496 = 2 ^ 52 := by decide
 have e2 : 4607182418800017408 / 4503599627370496 - 1 = k0 - 52 := by rw [k0_eq]
 rw [e, e2, ← Nat.pow_add]
 congr 1
 have := k0_eq
 omega
theorem V_unit {x : BitVec 64} (h : Unit x) : V x.toNat ≤ 2 ^ k0 := by rw [← V_one]; exact V_mono h (by decide)
theorem pm_le {a b : BitVec 64} (ha : Pos a) (hb : Unit b) : (pm a b).toNat ≤ a.toNat := by
 rw [pm_nat]
 refine Nat.le_trans (R_mono (Nat.mul_le_mul_left _ (V_unit hb))) ?_
 rw [R_V (Nat.le_of_lt ha)]
 exact Nat.le_refl _
theorem pm_unit {a b : BitVec 64} (ha : Unit a) (hb : Unit b) : Unit (pm a b) := Nat.le_trans (pm_le ha.pos hb) ha
def one : BitVec 64 := 4607182418800017408#64
theorem one_unit : Unit one := Nat.le_refl _
def wh (x : BitVec 64) : Nat := V x.toNat / 2 ^ k0
theorem wh_nf {c : Nat} (h : c < 9007199254740992) : wh (nf c) = c := by
 unfold wh
 rw [V_nf h, Nat.mul_div_cancel _ (Nat.two_pow_pos _)]
theorem cut_plain (way : Toward) (hw : way = .down ∨ way = .zero) (n d : Nat) : way.cut false n d = n / 2 ^ d := by
 have h0 : way.cut false n d = n / (1 <<< min d (n.log2 + 2)) := by
  rcases hw with rfl | rfl
  ·show n / (1 <<< min d (n.log2 + 2)) + (false && _).toNat = _
   simp
  ·show n / (1 <<< min d (n.log2 + 2)) + (false).toNat = _
   simp
 rw [h0, Nat.one_shiftLeft]
 have hlt : n < 2 ^ (n.log2 + 1) := Nat.lt_log2_self
 rcases Nat.le_total d (n.log2 + 2) with h | h
 ·rw [Nat.min_eq_left h]
 ·rw [Nat.min_eq_right h, Nat.div_eq_of_lt, Nat.div_eq_of_lt]
  ·exact Nat.lt_of_lt_of_le hlt (Nat.pow_le_pow_right (by decide) (by omega))
  ·exact Nat.lt_of_lt_of_le hlt (Nat.pow_le_pow_right (by decide) (by omega))
theorem cut_wh (way : Toward) (hw : way = .down ∨ way = .zero) {x : BitVec 64} {m e : Nat} (h : m * 2 ^ e = V x.toNat) : way.cut false (m <<< ((e : Int) - (k0 : Int)).toNat) (-((e : Int) - (k0 : Int))).toNat = wh x := by
 rw [cut_plain way hw, Nat.shiftLeft_eq]
 unfold wh
 rw [← h]
 rcases Nat.le_total k0 e with h1 | h1
 ·have e1 : ((e : Int) - (k0 : Int)).toNat = e - k0 := by omega
  have e2 : (-((e : Int) - (k0 : Int))).toNat = 0 := by omega
  rw [e1, e2, Nat.pow_zero, Nat.div_one]
  conv => rhs; rw [show e = (e - k0) + k0 by omega, Nat.pow_add, ← Nat.mul_assoc, Nat.mul_div_cancel _ (Nat.two_pow_pos _)]
 ·have e1 : ((e : Int) - (k0 : Int)).toNat = 0 := by omega
  have e2 : (-((e : Int) - (k0 : Int))).toNat = k0 - e := by omega
  rw [e1, e2, Nat.pow_zero, Nat.mul_one]
  conv => rhs; rw [show k0 = (k0 - e) + e by omega, Nat.pow_add, Nat.mul_div_mul_right _ _ (Nat.two_pow_pos _)]
theorem run_floor_pos {P : Program} {w : World} {x : BitVec 64} (h : Pos x) : (floorX #[fl x]).run P w = .ok (fl (nf (wh x))) w := by
 obtain ⟨m, e, h1, h2⟩ := read_pos h
 rw [run_floor h1]
 have e1 : (Ieee.Datum.number false m ((e : Int) - (k0 : Int))).integral .down = .number false (wh x) 0 := by
  show Ieee.Datum.number false _ 0 = _
  rw [cut_wh .down (.inl rfl) h2]
 rw [e1]
 have e2 := write_R (wh x) (2 * k0)
 rw [show (((2 * k0 : Nat) : Int) - 2 * (k0 : Int)) = 0 by omega] at e2
 rw [e2, fl, nf_nat]
theorem toInt_pos {x : BitVec 64} (h : Pos x) (hw : wh x < 9007199254740992) : floatToIntVal .f64 x.toNat .i64 = some (wh x : Int) := by
 obtain ⟨m, e, h1, h2⟩ := read_pos h
 unfold floatToIntVal
 have e0 : FloatKind.f64.decode x.toNat = .number false m ((e : Int) - (k0 : Int)) := h1
 rw [e0]
 have e1 : (Ieee.Datum.number false m ((e : Int) - (k0 : Int))).toInt .zero = some (wh x : Int) := by
  show some (Ieee.signed false _ 0) = _
  rw [cut_wh .zero (.inr rfl) h2]
  unfold Ieee.signed
  simp
 rw [e1]
 have l1 : IntKind.i64.min = -9223372036854775808 := rfl
 have l2 : IntKind.i64.max = 9223372036854775807 := rfl
 show (if _ then _ else _) = _
 rw [if_pos ⟨by omega, by omega⟩]
theorem wh_mono {a b : BitVec 64} (h : a.toNat ≤ b.toNat) (hb : Pos b) : wh a ≤ wh b := Nat.div_le_div_right (V_mono h (Nat.le_of_lt hb))
def price (n : Nat) (f : BitVec 64) : Nat := wh (pm (nf n) f)
theorem prod_pos {n : Nat} {f : BitVec 64} (hn : n < 9007199254740992) (hf : Unit f) : Pos (pm (nf n) f) := Nat.lt_of_le_of_lt (pm_le (nf_pos hn) hf) (nf_pos hn)
theorem price_le {n : Nat} {f : BitVec 64} (hn : n < 9007199254740992) (hf : Unit f) : price n f ≤ n := by
 have := wh_mono (pm_le (nf_pos hn) hf) (nf_pos hn)
 rwa [wh_nf hn] at this
end Go.Pn.Rnd
end
section
namespace Go.Pn.Rnd
open Ieee Go.Pn.Fl
def Num (x : BitVec 64) : Prop := rung x ≤ 9218868437227405312
instance (x : BitVec 64) : Decidable (Num x) := inferInstanceAs (Decidable (_ ≤ _))
def iv (x : BitVec 64) : Int := sv (sg x) (mag (rung x))
theorem mag_pos {r : Nat} (h : 0 < r) : 0 < mag r := by
 have := mag_mono h
 omega
theorem ford_num {x y : BitVec 64} (hx : Num x) (hy : Num y) : ford x y = some (compare (iv x) (iv y)) := by
 have lt_of : ∀ {a b : Int}, a < b → compare a b = .lt := fun h => (comp_lt _ _).2 h
 have gt_of : ∀ {a b : Int}, b < a → compare a b = .gt := fun h => (comp_gt _ _).2 h
 have eq_of : ∀ {a b : Int}, a = b → compare a b = .eq := fun h => Std.LawfulEqOrd.compare_eq_iff_eq.2 h
 unfold ford Format.order iv
 have hI : ∀ r, r < 9218868437227405312 → mag r < mag 9218868437227405312 := fun r h => mag_mono h
 have hp : 0 < mag 9218868437227405312 := mag_pos (by decide)
 rcases Nat.lt_or_eq_of_le hx with h1 | h1 <;> rcases Nat.lt_or_eq_of_le hy with h2 | h2
 ·obtain ⟨m, e, e1, e2⟩ := read_mag h1
  obtain ⟨k, g, e3, e4⟩ := read_mag h2
  rw [e1, e3, order_num, e2, e4]
 ·obtain ⟨m, e, e1, e2⟩ := read_mag h1
  have q := hI _ h1
  rw [e1, read_inf h2, h2]
  generalize mag 9218868437227405312 = B at hp q
  generalize mag (rung x) = A at q
  cases sg x <;> cases sg y <;> simp only [Datum.order, sv, if_true, if_false, Bool.false_eq_true, Option.some.injEq] <;> first | (rw [lt_of (by omega)]; done) | (rw [gt_of (by omega)]; done)
 ·obtain ⟨m, e, e1, e2⟩ := read_mag h2
  have q := hI _ h2
  rw [e1, read_inf h1, h1]
  generalize mag 9218868437227405312 = B at hp q
  generalize mag (rung y) = A at q
  cases sg x <;> cases sg y <;> simp only [Datum.order, sv, if_true, if_false, Bool.false_eq_true, Option.some.injEq] <;> first | (rw [lt_of (by omega)]; done) | (rw [gt_of (by omega)]; done)
 ·rw [read_inf h1, read_inf h2, h1, h2]
  generalize mag 9218868437227405312 = B at hp
  cases sg x <;> cases sg y <;> simp only [Datum.order, sv, if_true, if_false, Bool.false_eq_true, Option.some.injEq] <;> first | (rw [eq_of (by omega)]; rfl) | (rw [lt_of (by omega)]; rfl) | (rw [gt_of (by omega)]; rfl)
theorem ford_nan {x y : BitVec 64} (h : ¬ Num x ∨ ¬ Num y) : ford x y = none := by
 unfold ford Format.order
 rcases h with h | h
 ·have h1 : rung x > 9218868437227405312 := by unfold Num at h; omega
  rw [read_nan h1]
  rfl
 ·have h1 : rung y > 9218868437227405312 := by unfold Num at h; omega
  rw [read_nan h1]
  cases FloatKind.f64.format.read x.toNat <;> rfl
theorem feq_iff (x y : BitVec 64) : feq x y ↔ Num x ∧ Num y ∧ iv x = iv y := by
 unfold feq
 by_cases h : Num x ∧ Num y
 ·rw [ford_num h.1 h.2, Option.some.injEq, Std.LawfulEqOrd.compare_eq_iff_eq]
  exact ⟨fun q => ⟨h.1, h.2, q⟩, fun q => q.2.2⟩
 ·rw [ford_nan (by by_cases h1 : Num x; exact .inr fun h2 => h ⟨h1, h2⟩; exact .inl h1)]
  exact ⟨fun q => (by cases q), fun q => absurd ⟨q.1, q.2.1⟩ h⟩
theorem flt_iff (x y : BitVec 64) : flt x y ↔ Num x ∧ Num y ∧ iv x < iv y := by
 unfold flt
 by_cases h : Num x ∧ Num y
 ·rw [ford_num h.1 h.2, Option.some.injEq, comp_lt]
  exact ⟨fun q => ⟨h.1, h.2, q⟩, fun q => q.2.2⟩
 ·rw [ford_nan (by by_cases h1 : Num x; exact .inr fun h2 => h ⟨h1, h2⟩; exact .inl h1)]
  exact ⟨fun q => (by cases q), fun q => absurd ⟨q.1, q.2.1⟩ h⟩
theorem fgt_iff (x y : BitVec 64) : fgt x y ↔ Num x ∧ Num y ∧ iv y < iv x := by
 unfold fgt
 by_cases h : Num x ∧ Num y
 ·rw [ford_num h.1 h.2, Option.some.injEq, comp_gt]
  exact ⟨fun q => ⟨h.1, h.2, q⟩, fun q => q.2.2⟩
 ·rw [ford_nan (by by_cases h1 : Num x; exact .inr fun h2 => h ⟨h1, h2⟩; exact .inl h1)]
  exact ⟨fun q => (by cases q), fun q => absurd ⟨q.1, q.2.1⟩ h⟩
theorem num_pos {x : BitVec 64} (h : Pos x) : Num x := by
 unfold Num
 rw [(pos_rung h).1]
 exact Nat.le_of_lt h
theorem iv_pos {x : BitVec 64} (h : Pos x) : iv x = (mag x.toNat : Nat) := by
 unfold iv
 rw [(pos_rung h).1, (pos_rung h).2]
 rfl
theorem canon_num {x : BitVec 64} (h : Num x) : canon x = if rung x = 0 then 0#64 else x := by
 have h1 : ¬ ¬ feq x x := fun q => q ((feq_self x).2 (by unfold Num at h; omega))
 by_cases h2 : rung x = 0
 ·rw [if_pos h2, canon_zero h1 ((feq_zero x).2 h2)]
 ·rw [if_neg h2, canon_else h1 (fun q => h2 ((feq_zero x).1 q))]
theorem canon_nn {x : BitVec 64} (h : ¬ Num x) : canon x = 9221120237041090560#64 := canon_nan fun q => h (by have := (feq_self x).1 q; unfold Num; omega)
theorem iv_canon {x : BitVec 64} (h : Num x) : iv (canon x) = iv x := by
 rw [canon_num h]
 split
 ·rename_i h0
  unfold iv
  rw [h0]
  have e0 : rung 0#64 = 0 := by decide
  rw [e0]
  have e1 : mag 0 = 0 := by decide
  rw [e1]
  unfold sv
  split <;> split <;> rfl
 ·rfl
theorem canon_ge {x : BitVec 64} (h : Num x) (h0 : 0 ≤ iv x) : canon x = x ∧ sg x = false ∨ rung x = 0 ∧ canon x = 0#64 := by
 rw [canon_num h]
 by_cases h1 : rung x = 0
 ·exact .inr ⟨h1, by rw [if_pos h1]⟩
 ·refine .inl ⟨by rw [if_neg h1], ?_⟩
  have := mag_pos (Nat.pos_of_ne_zero h1)
  unfold iv sv at h0
  cases hs : sg x
  ·rfl
  ·rw [hs, if_pos rfl] at h0; omega
theorem nat_of_sg {x : BitVec 64} (h : sg x = false) : x.toNat = rung x := by
 have hx := x.isLt
 unfold sg at h
 unfold rung
 have h1 : x.toNat / 9223372036854775808 % 2 ≠ 1 := by
  intro q
  rw [q] at h
  cases h
 omega
theorem iv_one : iv one = (mag 4607182418800017408 : Nat) := iv_pos one_unit.pos
theorem iv_zero : iv 0#64 = 0 := by
 rw [iv_pos (by decide)]
 decide
theorem unit_iv {x : BitVec 64} (h : Num x) : (0 ≤ iv x ∧ iv x ≤ iv one) ↔ Unit (canon x) := by
 rw [iv_one]
 constructor
 ·rintro ⟨h0, h1⟩
  rcases canon_ge h h0 with ⟨e, hs⟩ | ⟨_, e⟩
  ·rw [e]
   have h2 := nat_of_sg hs
   unfold Unit
   rw [h2]
   unfold iv sv at h1
   rw [hs] at h1
   rcases Nat.lt_or_ge 4607182418800017408 (rung x) with h3 | h3
   ·have := mag_mono h3
    simp only [Bool.false_eq_true, if_false] at h1
    omega
   ·exact h3
  ·rw [e]; decide
 ·intro hu
  have h1 : iv x = (mag (canon x).toNat : Nat) := by rw [← iv_canon h, iv_pos hu.pos]
  rw [h1]
  unfold Unit at hu
  refine ⟨by omega, ?_⟩
  rcases Nat.lt_or_eq_of_le hu with h2 | h2
  ·have := mag_mono h2; omega
  ·rw [h2]; exact Int.le_refl _
theorem part_iff (x : BitVec 64) : ((fgt x 0#64 ∨ feq x 0#64) ∧ (flt x one ∨ feq x one)) ↔ Unit (canon x) := by
 have n0 : Num 0#64 := by decide
 have n1 : Num one := num_pos one_unit.pos
 by_cases h : Num x
 ·rw [← unit_iv h, fgt_iff, feq_iff, flt_iff, feq_iff, iv_zero]
  simp only [h, n0, n1, true_and]
  constructor
  ·rintro ⟨a, b⟩; exact ⟨by omega, by omega⟩
  ·rintro ⟨a, b⟩; exact ⟨by omega, by omega⟩
 ·rw [canon_nn h]
  constructor
  ·rintro ⟨a | a, _⟩
   ·exact absurd ((fgt_iff _ _).1 a).1 h
   ·exact absurd ((feq_iff _ _).1 a).1 h
  ·intro q; exact absurd q (by decide)
theorem part_canon (x : BitVec 64) : ((fgt (canon x) 0#64 ∨ feq (canon x) 0#64) ∧ (flt (canon x) one ∨ feq (canon x) one)) ↔ Unit (canon x) := by rw [part_iff, canon_canon]
theorem feq_unit {x y : BitVec 64} (hx : Unit x) (hy : Unit y) : feq x y ↔ x = y := by
 rw [feq_iff, iv_pos hx.pos, iv_pos hy.pos]
 constructor
 ·rintro ⟨_, _, h⟩
  apply BitVec.eq_of_toNat_eq
  rcases Nat.lt_trichotomy x.toNat y.toNat with q | q | q
  ·have := mag_mono q; omega
  ·exact q
  ·have := mag_mono q; omega
 ·rintro rfl
  exact ⟨num_pos hx.pos, num_pos hx.pos, rfl⟩
theorem key_unit {x : BitVec 64} (h : Unit x) : (key x).toNat = 9223372036854775808 + x.toNat := by
 unfold Unit at h
 rw [key_nat, if_pos (by omega)]
theorem cmp_unit {x y : BitVec 64} (hx : Unit x) (hy : Unit y) : cmp x y < 0 ↔ x.toNat < y.toNat := by
 rw [cmp_lt_iff, BitVec.lt_def, key_unit hx, key_unit hy]
 omega
end Go.Pn.Rnd
end
section
namespace Go.Pn
section
variable {P : Program} {n : Nat} {ops rest : List Oper} {N : Val → World → Prop} {Z : List PanicEntry → World → Prop} {f : Val} {w : World}
 {d : Nat} {x : Operand} {t ty : TypeId} {pos : String} {after : Array Edge} {F : Nat → Prop}
theorem O.load1F {α : Type} {G : Flat α} {a : Addr} {z : α} {u : Value} (hag : ∀ w, (isAgg t).run P w = .ok false w) (h1 : G.sz = 1) (hu : G.e z = [u]) (hx : ev n f x = .pointer (some a)) (ha : At G.enc w F a z)
 (h : O P n ops rest N Z (upd f d u) w) : O P n ops ({ dst := some d, op := .load t x, type := ty, pos := pos, after := after, guard := .none } :: rest) N Z f w :=
 O.load1 (E := G.enc) hag h1 hx ha fun v hv => by
  have e : [v] = G.e z := hv
  rw [hu] at e
  obtain rfl : v = u := by simpa using e
  exact h
end
end Go.Pn
namespace Go.Pn.Dt
abbrev Dot := Int × Int
def dotF : Flat Dot := ⟨2, fun d => [.int .i64 d.1, .int .i64 d.2], fun _ => rfl, by simp [Value.oneCell'], by decide⟩
def intF : Flat Int := ⟨1, fun x => [.int .i64 x], fun _ => rfl, by simp [Value.oneCell'], by decide⟩
abbrev intE : Enc Int := intF.enc
theorem intE.inv {w : World} {F : Nat → Prop} {v : Value} {x : Int} (h : intE.rep w F [v] x) : v = .int .i64 x := by
 have : [v] = [Value.int .i64 x] := h
 simpa using this
def Valid (d : Dot) : Prop := 1 ≤ d.1 ∧ d.1 ≤ 65535 ∧ 1 ≤ d.2 ∧ d.2 ≤ 4294967295
instance (d : Dot) : Decidable (Valid d) := by unfold Valid; infer_instance
def Less (a b : Dot) : Prop := a.2 < b.2 ∨ (a.2 = b.2 ∧ a.1 < b.1)
instance (a b : Dot) : Decidable (Less a b) := by unfold Less; infer_instance
def cmp (a b : Dot) : Int := if Less a b then -1 else if Less b a then 1 else 0
theorem less_irrefl (a : Dot) : ¬ Less a a := by unfold Less; omega
theorem less_total (a b : Dot) : Less a b ∨ a = b ∨ Less b a := by
 unfold Less
 rcases Int.lt_trichotomy a.2 b.2 with h | h | h
 ·exact .inl (.inl h)
 ·rcases Int.lt_trichotomy a.1 b.1 with k | k | k
  ·exact .inl (.inr ⟨h, k⟩)
  ·exact .inr (.inl (Prod.ext k h))
  ·exact .inr (.inr (.inr ⟨h.symm, k⟩))
 ·exact .inr (.inr (.inl h))
def icmp (a b : Int) : Int := if a < b then -1 else if b < a then 1 else 0
theorem cmp_zero (a b : Dot) : cmp a b = 0 ↔ a = b := by
 unfold cmp
 constructor
 ·intro h
  split at h
  ·cases h
  ·split at h
   ·cases h
   ·rcases less_total a b with k | k | k
    ·contradiction
    ·exact k
    ·contradiction
 ·rintro rfl
  rw [if_neg (less_irrefl a), if_neg (less_irrefl a)]
def withD (s : List Dot) (d : Dot) : List Dot := if d ∈ s then s else s.takeWhile (fun y => decide (Less y d)) ++ d :: s.dropWhile (fun y => decide (Less y d))
def addAll (s l : List Dot) : List Dot := l.foldl withD s
def set (l : List Dot) : List Dot := addAll [] l
def mg (p q r : Bool) : Nat → List Dot → List Dot → List Dot
 | 0, _, _ => []
 | _ + 1, [], [] => []
 | n + 1, a :: x, [] => (if p then [a] else []) ++ mg p q r n x []
 | n + 1, [], b :: y => (if r then [b] else []) ++ mg p q r n [] y
 | n + 1, a :: x, b :: y =>
   if Less a b then (if p then [a] else []) ++ mg p q r n x (b :: y)
   else if Less b a then (if r then [b] else []) ++ mg p q r n (a :: x) y
   else (if q then [a] else []) ++ mg p q r n x y
def merge (p q r : Bool) (x y : List Dot) : List Dot := mg p q r (x.length + y.length) x y
theorem merge_first {p q r : Bool} {a : Dot} {x y : List Dot} (h : y = [] ∨ ∃ b y', y = b :: y' ∧ Less a b) : merge p q r (a :: x) y = (if p then [a] else []) ++ merge p q r x y := by
 unfold merge
 rcases h with rfl | ⟨b, y', rfl, h⟩
 ·simp [mg]
 ·have e : (a :: x).length + (b :: y').length = (x.length + (b :: y').length) + 1 := by simp; omega
  rw [e, mg, if_pos h]
theorem keepA {p q r : Bool} {out x y R : List Dot} {a : Dot} (hI : out ++ merge p q r (a :: x) y = R) (h : y = [] ∨ ∃ b y', y = b :: y' ∧ Less a b) : (if p then out ++ [a] else out) ++ merge p q r x y = R := by
 rw [merge_first h] at hI
 cases p <;> simpa using hI
end Go.Pn.Dt
end
section
namespace Go.Pn.Cn
open Go Go.Pn
abbrev Dot := Dt.Dot
abbrev Mark := MarkT
abbrev Item := ItemT
abbrev Ctx := List Dot × List Dot
abbrev Cart := Ctx × List Item
instance decItem : DecidableEq Item := inferInstanceAs (DecidableEq (List UInt8 × List MarkT))
instance decCart : DecidableEq Cart := inferInstanceAs (DecidableEq ((List Dt.Dot × List Dt.Dot) × List Item))
def num (n : Nat) : List UInt8 := if n < 128 then [UInt8.ofNat n] else UInt8.ofNat (128 + n % 128) :: num (n / 128)
termination_by n
decreasing_by omega
def u (x : Int) : Nat := (BitVec.ofInt 64 x).toNat
def dotB (d : Dot) : List UInt8 := num (u d.1) ++ num (u d.2)
def dotsB (l : List Dot) : List UInt8 := num l.length ++ l.flatMap dotB
def ctxB (x : Ctx) : List UInt8 := dotsB x.1 ++ dotsB x.2
def markB (m : Mark) : List UInt8 := num (u m.1.1) ++ (num (u m.1.2) ++ (num (u m.2.1) ++ num m.2.2.toNat))
def strB (s : List UInt8) : List UInt8 := num s.length ++ s
def itemB (x : Item) : List UInt8 := strB x.1 ++ (num x.2.length ++ x.2.flatMap markB)
def itemsB (l : List Item) : List UInt8 := num l.length ++ l.flatMap itemB
def bytes (c : Cart) : List UInt8 := ctxB c.1 ++ itemsB c.2
def get (v : List Dot) (r : Int) : Int := match v.find? (fun d => d.1 == r) with
 | some d => d.2
 | none => 0
def okC (c : UInt8) : Bool := !(decide (c.toNat < 32) || decide (c.toNat > 126))
def okName (s : List UInt8) : Bool := s.all okC && (decide (1 ≤ s.length ∧ s.length ≤ 64) && (decide (Lib.trimB s 32 = s) && !Lib.contains s [32, 32]))
end Go.Pn.Cn
end
section
namespace Go.Pn.Cn
open Go Go.Pn
def idx {α : Type} (p : α → Bool) : List α → Int
 | [] => -1
 | a :: l => if p a then 0 else if idx p l = -1 then -1 else idx p l + 1
section
variable {α : Type} {p : α → Bool} {l : List α}
theorem idx_ge : ∀ l : List α, -1 ≤ idx p l
 | [] => by simp [idx]
 | a :: l => by
   have := idx_ge l
   rw [idx]
   split
   ·omega
   ·split <;> omega
theorem idx_no : ∀ {l : List α}, (∀ i, ∀ h : i < l.length, p l[i] = false) → idx p l = -1
 | [], _ => rfl
 | a :: l, h => by
   have h0 := h 0 (by simp)
   have h1 := idx_no (l := l) fun i hi => by
    have := h (i + 1) (by simpa using hi)
    simpa using this
   simp only [List.getElem_cons_zero] at h0
   rw [idx, h0, h1]
   rfl
theorem idx_yes : ∀ {l : List α} {k : Nat} (hk : k < l.length), p l[k] = true → (∀ i, ∀ h : i < l.length, i < k → p l[i] = false) → idx p l = k
 | [], k, hk, _, _ => by simp at hk
 | a :: l, 0, _, h, _ => by
   simp only [List.getElem_cons_zero] at h
   rw [idx, h]
   rfl
 | a :: l, k + 1, hk, h, hb => by
   have h0 := hb 0 (by simp) (by omega)
   simp only [List.getElem_cons_zero] at h0
   have h1 := idx_yes (l := l) (k := k) (by simpa using hk) (by simpa using h) fun i hi hik => by
    have := hb (i + 1) (by simpa using hi) (by omega)
    simpa using this
   rw [idx, h0, h1, if_neg (by decide), if_neg (by omega)]
   omega
theorem idx_any : ∀ l : List α, decide (idx p l ≥ 0) = l.any p
 | [] => rfl
 | a :: l => by
   have ih := idx_any l
   have := idx_ge (p := p) l
   rw [idx, List.any_cons]
   by_cases h : p a = true
   ·rw [if_pos h, h]; rfl
   ·rw [if_neg h]
    have h' : p a = false := by simpa using h
    rw [h', Bool.false_or, ← ih]
    apply decide_eq_decide.2
    split <;> omega
end
section
variable {α : Type} {r : α → α → Bool}
end
theorem all_yes {α : Type} {p : α → Bool} {l : List α} (h : ∀ i, ∀ hi : i < l.length, p l[i] = true) : l.all p = true := by
 rw [List.all_eq_true]
 intro x hx
 obtain ⟨i, hi, rfl⟩ := List.getElem_of_mem hx
 exact h i hi
theorem all_no {α : Type} {p : α → Bool} {l : List α} {k : Nat} (hk : k < l.length) (h : p l[k] = false) : l.all p = false := by
 cases hq : l.all p with
 | false => rfl
 | true =>
   have := (List.all_eq_true.1 hq) _ (List.getElem_mem hk)
   rw [this] at h
   cases h
theorem map_take {α β : Type} (f : α → β) {l : List α} {k : Nat} (hk : k < l.length) : (l.take (k + 1)).map f = (l.take k).map f ++ [f l[k]] := by
 rw [List.take_succ_eq_append_getElem hk, List.map_append]
 rfl
theorem okName_all {s : List UInt8} {k : Nat} (hk : k < s.length) (h : okC s[k] = false) : okName s = false := by
 unfold okName
 rw [all_no hk h]
 rfl
theorem okC_lo {c : UInt8} (h : c.toNat < 32) : okC c = false := by unfold okC; rw [decide_eq_true h]; rfl
theorem okC_hi {c : UInt8} (h : c.toNat > 126) : okC c = false := by
 unfold okC
 rw [decide_eq_true h, Bool.or_true]
 rfl
theorem okC_ok {c : UInt8} (h : ¬ c.toNat < 32) (k : ¬ c.toNat > 126) : okC c = true := by unfold okC; rw [decide_eq_false h, decide_eq_false k]; rfl
end Go.Pn.Cn
end
section
namespace Go.Pn.Ds
open Go.Pn.Fl Go.Pn.Rnd
structure Rule where
 name : List UInt8
 lo : Int
 fac : BitVec 64
 hn : name.length ≤ maxLen
instance : Inhabited Rule := ⟨⟨[], 0, 0#64, by simp⟩⟩
def ruleF : Flat Rule := ⟨3, fun r => [str r.name, .int .i64 r.lo, fl r.fac], fun _ => rfl, by simp [Value.oneCell', str, fl], by decide⟩
def rv (r : Rule) : Value := .agg #[str r.name, .int .i64 r.lo, fl r.fac]
def okR (r : Rule) : Bool := Cn.okName r.name && (decide (1 ≤ r.lo ∧ r.lo ≤ 2147483647) && decide (Unit (canon r.fac)))
def badR (r : Rule) : Bool := !okR r
def okP (c q : Int) : Bool := decide ((0 ≤ c ∧ c ≤ 2097152) ∧ (1 ≤ q ∧ q ≤ 2147483647))
def errOf (c q : Int) (l : List Rule) : Int := if 100 < l.length then 5 else if !okP c q || l.any badR then 2 else 0
theorem okP_iff {c q : Int} : okP c q = true ↔ (0 ≤ c ∧ c ≤ 2097152) ∧ (1 ≤ q ∧ q ≤ 2147483647) := by unfold okP; exact decide_eq_true_iff
theorem prod_lt {c q : Int} (h : okP c q = true) : ∃ a b : Nat, c = (a : Int) ∧ q = (b : Int) ∧ a ≤ 2097152 ∧ b ≤ 2147483647 ∧ a * b < 9007199254740992 := by
 obtain ⟨⟨h1, h2⟩, h3, h4⟩ := okP_iff.1 h
 refine ⟨c.toNat, q.toNat, by omega, by omega, by omega, by omega, ?_⟩
 have := Nat.mul_le_mul (show c.toNat ≤ 2097152 by omega) (show q.toNat ≤ 2147483647 by omega)
 omega
theorem err_ok {c q : Int} {l : List Rule} (h : errOf c q l = 0) : l.length ≤ 100 ∧ okP c q = true ∧ l.any badR = false := by
 unfold errOf at h
 split at h
 ·cases h
 ·rename_i h1
  split at h
  ·cases h
  ·rename_i h2
   refine ⟨by omega, ?_, ?_⟩
   ·cases hq : okP c q
    ·rw [hq] at h2; exact absurd rfl h2
    ·rfl
   ·cases hq : l.any badR
    ·rfl
    ·rw [hq] at h2; exact absurd (by simp) h2
theorem all_ok {l : List Rule} (h : l.any badR = false) : ∀ r ∈ l, okR r = true := fun r hr => by
 cases hq : okR r
 ·have : l.any badR = true := List.any_eq_true.2 ⟨r, hr, by unfold badR; rw [hq]; rfl⟩
  rw [h] at this
  cases this
 ·rfl
theorem okR_iff {r : Rule} : okR r = true ↔ Cn.okName r.name = true ∧ (1 ≤ r.lo ∧ r.lo ≤ 2147483647) ∧ Unit (canon r.fac) := by
 unfold okR
 rw [Bool.and_eq_true, Bool.and_eq_true, decide_eq_true_iff, decide_eq_true_iff]
theorem fac_unit {l : List Rule} (h : l.any badR = false) {r : Rule} (hr : r ∈ l) : Unit (canon r.fac) := (okR_iff.1 (all_ok h r hr)).2.2
theorem canon_unit {x : BitVec 64} (h : Unit x) : canon x = x := by
 have hp := h.pos
 rw [canon_num (num_pos hp), (pos_rung hp).1]
 split
 ·rename_i h0
  apply BitVec.eq_of_toNat_eq
  rw [h0]
  rfl
 ·rfl
def prod (l : List (BitVec 64)) : BitVec 64 := l.foldl pm one
def better (n : Nat) (f g : BitVec 64) : Bool := decide (price n (canon f) < price n (canon g)) || (decide (price n (canon f) = price n (canon g)) && decide ((canon f).toNat < (canon g).toNat))
def at' (l : List Rule) (i : Int) : Rule := l.getD i.toNat default
def bst (n : Nat) (q : Int) (l : List Rule) : Nat → Int
 | 0 => -1
 | k + 1 => if q < (at' l k).lo then bst n q l k else if bst n q l k < 0 then (k : Int) else if better n (at' l k).fac (at' l (bst n q l k)).fac then (k : Int) else bst n q l k
theorem bst_zero (n : Nat) (q : Int) (l : List Rule) : bst n q l 0 = -1 := rfl
theorem bst_succ (n : Nat) (q : Int) (l : List Rule) (k : Nat) : bst n q l (k + 1) = if q < (at' l k).lo then bst n q l k else if bst n q l k < 0 then (k : Int) else if better n (at' l k).fac (at' l (bst n q l k)).fac then (k : Int) else bst n q l k := rfl
theorem bst_range (n : Nat) (q : Int) (l : List Rule) : ∀ k, -1 ≤ bst n q l k ∧ bst n q l k < k
 | 0 => by rw [bst_zero]; omega
 | k + 1 => by
   have ih := bst_range n q l k
   rw [bst_succ]
   split
   ·omega
   ·split
    ·omega
    ·split <;> omega
theorem at_eq {l : List Rule} {k : Nat} (h : k < l.length) : at' l (k : Int) = l[k] := by
 unfold at'
 rw [Int.toNat_natCast, List.getD_eq_getElem?_getD, List.getElem?_eq_getElem h]
 rfl
def least (n : Nat) (q : Int) (l : List Rule) (k : Nat) : Nat := if bst n q l k < 0 then n else price n (canon (at' l (bst n q l k)).fac)
theorem at_get {l : List Rule} {i : Int} (h : i.toNat < l.length) : at' l i = l[i.toNat] := by
 unfold at'
 rw [List.getD_eq_getElem?_getD, List.getElem?_eq_getElem h]
 rfl
theorem least_zero (n : Nat) (q : Int) (l : List Rule) : least n q l 0 = n := by unfold least; rw [bst_zero]; rfl
theorem bst_skip {n : Nat} {q : Int} {l : List Rule} {k : Nat} (h : q < (at' l k).lo) : bst n q l (k + 1) = bst n q l k ∧ least n q l (k + 1) = least n q l k := by
 have e : bst n q l (k + 1) = bst n q l k := by rw [bst_succ, if_pos h]
 exact ⟨e, by unfold least; rw [e]⟩
theorem bst_new {n : Nat} {q : Int} {l : List Rule} {k : Nat} (h : ¬ q < (at' l k).lo) (h2 : (decide (bst n q l k < 0) || better n (at' l k).fac (at' l (bst n q l k)).fac) = true) : bst n q l (k + 1) = k ∧ least n q l (k + 1) = price n (canon (at' l k).fac) := by
 have e : bst n q l (k + 1) = k := by
  rw [bst_succ, if_neg h]
  split
  ·rfl
  ·rename_i h3
   rw [decide_eq_false h3, Bool.false_or] at h2
   rw [if_pos h2]
 refine ⟨e, ?_⟩
 unfold least
 rw [e, if_neg (by omega)]
theorem bst_keep {n : Nat} {q : Int} {l : List Rule} {k : Nat} (h : ¬ q < (at' l k).lo) (h2 : (decide (bst n q l k < 0) || better n (at' l k).fac (at' l (bst n q l k)).fac) = false) : bst n q l (k + 1) = bst n q l k ∧ least n q l (k + 1) = least n q l k := by
 rw [Bool.or_eq_false_iff, decide_eq_false_iff_not] at h2
 have e : bst n q l (k + 1) = bst n q l k := by
  rw [bst_succ, if_neg h, if_neg h2.1, if_neg (by rw [h2.2]; decide)]
 exact ⟨e, by unfold least; rw [e]⟩
theorem better_or {n : Nat} {f g : BitVec 64} (hf : Unit (canon f)) (hg : Unit (canon g)) :
 decide ((if Dt.icmp (price n (canon f) : Nat) (price n (canon g) : Nat) ≠ 0 then Dt.icmp (price n (canon f) : Nat) (price n (canon g) : Nat) else Fl.cmp (canon f) (canon g)) < 0) = better n f g := by
 unfold better Dt.icmp
 have hc := cmp_unit hf hg
 generalize price n (canon f) = x
 generalize price n (canon g) = y
 rcases Nat.lt_trichotomy x y with h | h | h
 ·rw [if_pos (by omega : (x : Int) < y)]
  simp [h]
 ·subst h
  rw [if_neg (by omega)]
  simp [hc]
 ·rw [if_neg (by omega : ¬ (x : Int) < y), if_pos (by omega : (y : Int) < x)]
  have h1 : ¬ x < y := by omega
  have h2 : ¬ x = y := by omega
  simp [h1, h2]
def priceE (c q : Int) (f : BitVec 64) : Int := if okP c q && decide (Unit (canon f)) then (price (c.toNat * q.toNat) (canon f) : Nat) else 0
def priceN (c q : Int) (f : BitVec 64) : Int := if okP c q && decide (Unit (canon f)) then 0 else 2
def bestR (c q : Int) (l : List Rule) : Int := if errOf c q l = 0 then bst (c.toNat * q.toNat) q l l.length else 0
def bestP (c q : Int) (l : List Rule) : Int := if errOf c q l = 0 then (least (c.toNat * q.toNat) q l l.length : Nat) else 0
def togP (c q : Int) (l : List Rule) : Int := if errOf c q l = 0 then (price (c.toNat * q.toNat) (prod (sorted (((l.filter fun r => decide (r.lo ≤ q)).map fun r => canon r.fac)))) : Nat) else 0
def togF (c q : Int) (l : List Rule) : BitVec 64 := if errOf c q l = 0 then prod (sorted (((l.filter fun r => decide (r.lo ≤ q)).map fun r => canon r.fac))) else 0#64
def facs (q : Int) (l : List Rule) : List (BitVec 64) := (l.filter fun r => decide (r.lo ≤ q)).map fun r => canon r.fac
theorem facs_take {q : Int} {l : List Rule} {k : Nat} (h : k < l.length) : facs q (l.take (k + 1)) = if l[k].lo ≤ q then facs q (l.take k) ++ [canon l[k].fac] else facs q (l.take k) := by
 unfold facs
 rw [List.take_succ_eq_append_getElem h, List.filter_append, List.map_append]
 by_cases hc : l[k].lo ≤ q
 ·simp [hc]
 ·simp [hc]
theorem facs_len (q : Int) (l : List Rule) : (facs q l).length ≤ l.length := by
 unfold facs
 rw [List.length_map]
 exact List.length_filter_le _ _
theorem facs_unit {q : Int} {l : List Rule} (h : l.any badR = false) : ∀ x ∈ facs q l, Unit x := fun x hx => by
 obtain ⟨r, hr, rfl⟩ := List.mem_map.1 hx
 exact fac_unit h (List.mem_filter.1 hr).1
theorem fold_unit : ∀ {l : List (BitVec 64)} {s : BitVec 64}, Unit s → (∀ x ∈ l, Unit x) → Unit (l.foldl pm s)
 | [], _, hs, _ => hs
 | a :: l, _, hs, h => fold_unit (l := l) (pm_unit hs (h a (.head _))) fun x hx => h x (.tail _ hx)
theorem prod_unit {l : List (BitVec 64)} (h : ∀ x ∈ l, Unit x) : Unit (prod l) := fold_unit one_unit h
theorem prod_take {l : List (BitVec 64)} {k : Nat} (h : k < l.length) : prod (l.take (k + 1)) = pm (prod (l.take k)) l[k] := by
 unfold prod
 rw [List.take_succ_eq_append_getElem h, List.foldl_append]
 rfl
def whole (q : Int) (l : List Rule) : BitVec 64 := prod (sorted (facs q l))
theorem sorted_unit {l : List (BitVec 64)} (h : ∀ x ∈ l, Unit x) : ∀ x ∈ sorted l, Unit x := fun x hx => h x ((sorted_perm l).mem_iff.1 hx)
theorem whole_unit {q : Int} {l : List Rule} (h : l.any badR = false) : Unit (whole q l) := prod_unit (sorted_unit (facs_unit h))
def resv (o : Option Nat) : BitVec 64 := match o with
 | some z => BitVec.ofNat 64 z
 | none => 9221120237041090560#64
theorem canon_res {a b r : BitVec 64} (h : FDiv a b r) : canon r = canon (resv (FloatKind.f64.format.div a.toNat b.toNat)) := by
 unfold FDiv FRes at h
 cases hq : FloatKind.f64.format.div a.toNat b.toNat with
 | some z =>
   rw [hq] at h
   have e : r = BitVec.ofNat 64 z := by
    apply BitVec.eq_of_toNat_eq
    rw [BitVec.toNat_ofNat, Nat.mod_eq_of_lt (map_lt hq)]
    exact h
   rw [e]
   rfl
 | none =>
   rw [hq] at h
   rw [canon_of_nan h]
   exact (canon_of_nan (show nanB 9221120237041090560#64 by unfold nanB; decide)).symm
def meanV (l : List (BitVec 64)) : BitVec 64 := if 1000 < l.length then 0#64 else if l.length = 0 then 9221120237041090560#64 else canon (resv (FloatKind.f64.format.div (tot l).toNat (ofI (l.length : Int)).toNat))
def meanN (l : List (BitVec 64)) : Int := if 1000 < l.length then 5 else 0
theorem mean_long {l : List (BitVec 64)} (h : 1000 < l.length) : Value.tuple #[.float .f64 0, .int .i64 5] = Value.tuple #[fl (meanV l), .int .i64 (meanN l)] := by
 rw [show meanV l = 0#64 from if_pos h, show meanN l = 5 from if_pos h]
 rfl
theorem mean_none {l : List (BitVec 64)} (h : l.length = 0) : Value.tuple #[fl (canon 9221120237041090561#64), .int .i64 0] = Value.tuple #[fl (meanV l), .int .i64 (meanN l)] := by
 have e : canon 9221120237041090561#64 = 9221120237041090560#64 := by decide
 rw [show meanV l = 9221120237041090560#64 from (if_neg (by omega)).trans (if_pos h), show meanN l = 0 from if_neg (by omega), e]
theorem mean_some {l : List (BitVec 64)} {r : BitVec 64} (h : ¬ 1000 < l.length) (h0 : ¬ l.length = 0) (hr : canon r = canon (resv (FloatKind.f64.format.div (tot l).toNat (ofI (l.length : Int)).toNat))) : Value.tuple #[fl (canon r), .int .i64 0] = Value.tuple #[fl (meanV l), .int .i64 (meanN l)] := by
 rw [show meanV l = _ from (if_neg h).trans (if_neg h0), show meanN l = 0 from if_neg h, hr]
end Go.Pn.Ds
namespace Go.Pn.Ds
open Go.Pn.Fl Go.Pn.Rnd
theorem _root_.Go.Pn.OwnF.as {α β : Type} {G : Flat α} {G' : Flat β} {ty : TypeId} {B : Nat} {w : World} {v : Value} {xs : List α} {ys : List β} (h : OwnF G ty B w v xs) (hs : G.sz = G'.sz) (he : xs.flatMap G.e = ys.flatMap G'.e) (hl : xs.length = ys.length) : OwnF G' ty B w v ys := by
 unfold OwnF at *
 rw [← hs, ← hl, ← he]
 exact h
def fillR (n k : Nat) : List Int := (List.range k).map (fun (i : Nat) => (i : Int)) ++ List.replicate (n - k) 0
theorem fillR_zero (n : Nat) : fillR n 0 = List.replicate n 0 := by unfold fillR; simp
theorem fillR_length {n k : Nat} (h : k ≤ n) : (fillR n k).length = n := by unfold fillR; simp; omega
theorem fillR_set {n k : Nat} (h : k < n) : (fillR n k).set k (k : Int) = fillR n (k + 1) := by
 unfold fillR
 obtain ⟨j, hj⟩ : ∃ j, n - k = j + 1 := ⟨n - k - 1, by omega⟩
 have hj2 : n - (k + 1) = j := by omega
 rw [hj, hj2, List.replicate_succ, List.range_succ, List.map_append, List.append_assoc]
 have e : ∀ (a : List Int) (b : Int) (c : List Int) (x : Int), (a ++ b :: c).set a.length x = a ++ x :: c := by
  intro a
  induction a with
  | nil => intro b c x; rfl
  | cons y a ih => intro b c x; show y :: (a ++ b :: c).set a.length x = _; rw [ih]; rfl
 have := e ((List.range k).map (fun (i : Nat) => (i : Int))) 0 (List.replicate j 0) (k : Int)
 rw [List.length_map, List.length_range] at this
 exact this
def cfR (l : List (BitVec 64)) (n : Nat) (x y : Fin n) : Int := Fl.cmp (canon (l.getD y.val 0#64)) (canon (l.getD x.val 0#64))
def iF (n : Nat) : Flat (Fin n) := ⟨1, fun i => [.int .i64 (i.val : Int)], fun _ => rfl, by simp [Value.oneCell'], by decide⟩
def encI (n : Nat) (i : Fin n) : Value := .int .i64 (i.val : Int)
theorem flat_fill (n : Nat) : (fillR n n).flatMap Dt.intF.e = (List.finRange n).flatMap (iF n).e := by
 unfold fillR
 rw [Nat.sub_self, List.replicate_zero, List.append_nil]
 have e : (List.range n).map (fun (i : Nat) => (i : Int)) = (List.finRange n).map (fun i => (i.val : Int)) := by
  apply List.ext_getElem
  ·simp
  ·intro i h1 h2
   simp
 rw [e]
 generalize List.finRange n = xs
 induction xs with
 | nil => rfl
 | cons a xs ih => rw [List.map_cons, List.flatMap_cons, List.flatMap_cons, ih]; rfl
theorem flat_val {n : Nat} (xs : List (Fin n)) : xs.flatMap (iF n).e = (xs.map fun i => (i.val : Int)).flatMap Dt.intF.e := by
 induction xs with
 | nil => rfl
 | cons a xs ih => rw [List.map_cons, List.flatMap_cons, List.flatMap_cons, ih]; rfl
end Go.Pn.Ds
end
section
namespace Go.Pn
open Go.RowKit Go.Sort
section
open Go.Proofs
variable {α : Type} [Inhabited α] {enc : α → Value} {G : Flat α} {ty : TypeId} {B : Nat} {w : World} {l : List α} {g cap : Nat}
theorem getElemB_list (l : List α) {i : Nat} (h : i < l.length) : l.toArray[i]! = l[i] := by
 rw [getElem!_pos l.toArray i (by simpa using h)]
 simp
theorem flat1_get {α : Type} {enc : α → Value} {G : Flat α} (hG : ∀ x, G.e x = [enc x]) (l : List α) : l.flatMap G.e = l.map enc := by
 induction l with
 | nil => rfl
 | cons a l ih => rw [List.flatMap_cons, ih, hG]; rfl
theorem OwnF.holds (hs : G.sz = 1) (hG : ∀ x, G.e x = [enc x]) (h : OwnF G ty B w (.slice (some ⟨g, 0, none⟩) l.length cap) l) : Holds enc w g 0 l.toArray ∧ g < w.heap.size := by
 obtain ⟨h0, hm⟩ := h
 rcases h0.2 with ⟨h1, _⟩ | ⟨g', cap', cur, h1, hb, hg, hn, hc, hsz, ht⟩
 ·cases h1
 ·have e1 : g = g' := by cases h1; rfl
  subst e1
  refine ⟨?_, lt_of_some hg⟩
  intro j hj
  have hj2 : j < l.length := by simpa using hj
  rw [hs, Nat.mul_one] at ht hsz
  have hjc : j < cur.size := by omega
  have hcell : cur[j]? = some (enc l.toArray[j]!) := by
   rw [getElemB_list l hj2]
   have h3 : (cur.toList.take l.length)[j]? = some (enc l[j]) := by
    rw [ht, flat1_get hG, List.getElem?_map, List.getElem?_eq_getElem hj2]
    rfl
   rw [List.getElem?_take, if_pos hj2] at h3
   simpa using h3
  constructor
  ·simp only [World.cell?, hg, Nat.zero_add]
   simpa using hcell
  ·simp [World.frozen?, hg]
theorem OwnF.sorted (hs : G.sz = 1) (hG : ∀ x, G.e x = [enc x]) (h : OwnF G ty B w (.slice (some ⟨g, 0, none⟩) l.length cap) l) {d : Array α} (hd : d.size = l.length) (m : Nat) (os : Array Obj) :
 OwnF G ty B (sortWorld enc w g 0 m d os) (.slice (some ⟨g, 0, none⟩) l.length cap) d.toList ∧ Ext (fun k => k = g) w (sortWorld enc w g 0 m d os) := by
 obtain ⟨h0, hm⟩ := h
 have hsize : (sortWorld enc w g 0 m d os).heap.size = w.heap.size + os.size := by
  show (w.heap.modify g _ ++ os).size = _
  rw [Array.size_append, Array.size_modify]
 rcases h0.2 with ⟨h1, _⟩ | ⟨g', cap', cur, h1, hb, hg, hn, hc, hsz, ht⟩
 ·cases h1
 ·have e1 : g = g' := by cases h1; rfl
  have e2 : cap = cap' := by cases h1; rfl
  subst e1; subst e2
  have hlt : g < w.heap.size := lt_of_some hg
  rw [hs, Nat.mul_one] at ht hsz
  constructor
  ·have hd2 : d.toList.length = l.length := by simpa using hd
   refine ⟨⟨?_, .inr ⟨g, cap, putCells enc 0 d cur, by rw [hd2], hb, ?_, by rw [hd2]; exact hn, hc, ?_, ?_⟩⟩, by rw [hd2]; exact hm⟩
   ·rw [G.length]
   ·show (w.heap.modify g _ ++ os)[g]? = _
    rw [Array.getElem?_append_left (by rw [Array.size_modify]; exact hlt), Array.getElem?_modify, if_pos rfl, hg]
    rfl
   ·rw [hs, Nat.mul_one]
    unfold putCells
    rw [Array.size_mapIdx]
    exact hsz
   ·rw [hs, Nat.mul_one, flat1_get hG, hd2]
    apply List.ext_getElem?
    intro j
    unfold putCells
    by_cases hj : j < l.length
    ·have hjd : j < d.size := by omega
     rw [List.getElem?_take, if_pos hj, List.getElem?_map, Array.getElem?_toList, Array.getElem?_mapIdx, Array.getElem?_eq_getElem (show j < cur.size by omega)]
     simp only [Option.map_some, Nat.zero_le, true_and, Nat.zero_add, if_pos hjd, Nat.sub_zero, Array.getElem?_toList, Array.getElem?_eq_getElem hjd]
     rw [getElem!_pos d j hjd]
    ·rw [List.getElem?_eq_none (by simp; omega), List.getElem?_eq_none (by simp; omega)]
  ·refine ⟨rfl, rfl, rfl, by rw [hsize]; omega, fun k hk hn => ?_⟩
   show (w.heap.modify g _ ++ os)[k]? = _
   rw [Array.getElem?_append_left (by rw [Array.size_modify]; exact hk), Array.getElem?_modify, if_neg (fun h => hn h.symm)]
end
end Go.Pn
end
