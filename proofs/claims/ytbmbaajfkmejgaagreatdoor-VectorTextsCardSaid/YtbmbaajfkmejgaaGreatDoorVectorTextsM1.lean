/-
  The frame of a walk, control and plain operations: the weakest precondition of the kit over frames that are functions of slots. No condition.
-/
import Derived.WalkKit
import Derived.WalkSpells
import Derived.WalkLawsBesides
import Derived.Laws.AppendOwnNone
import Derived.Great.BuildSlice
import Derived.ProofKit
import Derived.OpenShut
import Derived.WideKeyArgs
import Derived.LaidLaws
import Derived.Deep.DeepHandedRow
import Derived.Deep.DeepWitnessRowRef
import Derived.Lib.LaidTab
import Derived.OrdersHeld
import Derived.Laws.Externs
import Derived.Deep.Slices
import Derived.Laws.Cells
import Derived.Laws.Tables
import Derived.Laws.StructEq
import Derived.Deep.Draws
import Derived.Sort.Grow
import Derived.Lib.IndexMore
import Derived.Lib.TrimByte
import Derived.Maps.RangeRun
import Derived.MapKept
import Derived.Lib.AppendZeros
import Derived.Lib.AppendStr
import Derived.Shelf.SlSortCmp.WholeK
import Derived.Lib.ItoaMem
import Derived.Lib.AtoiAllCases
import Derived.Lib.Bytealg
import Derived.Lib.Join
import Derived.Lib.IndexLaws
section
namespace Go.Pn
open Go.RowKit

abbrev Val := Nat → Value

theorem nbeq_false {i d : Nat} (h : i ≠ d) : Nat.beq i d = false := by
  cases hb : Nat.beq i d with
  | false => rfl
  | true => exact absurd (Nat.eq_of_beq_eq_true hb) h
theorem nbeq_self (i : Nat) : Nat.beq i i = true := Nat.beq_refl i

/-- The slots of a frame, one of them changed. -/
def upd (f : Val) (d : Nat) (v : Value) : Val := fun i => cond (Nat.beq i d) v (f i)
/-- The frame of n slots. -/
def Fr (n : Nat) (f : Val) : Act := { tmps := ((List.range n).map f).toArray, defers := [] }
/-- An operand's value. -/
def ev (n : Nat) (f : Val) : Operand → Value
  | .tmp t => cond (Nat.ble (t + 1) n) (f t) undef
  | .const v => v
  | .global g => .pointer (some ⟨g, 0, none⟩)
  | .func k => .func (.func k) #[] #[]

theorem eval_Fr (n : Nat) (f : Val) : (Fr n f).eval = ev n f := by
  funext x
  cases x with
  | tmp t =>
    simp only [Act.eval, Fr, ev, Array.getD_eq_getD_getElem?, List.getElem?_toArray, List.getElem?_map]
    by_cases h : t < n
    · have : Nat.ble (t + 1) n = true := Nat.ble_eq_true_of_le h
      simp [this, h]
    · have : Nat.ble (t + 1) n = false := by
        cases hb : Nat.ble (t + 1) n with
        | true => exact absurd (Nat.le_of_ble_eq_true hb) h
        | false => rfl
      simp [this, h]
  | const v => rfl
  | global g => rfl
  | func k => rfl

theorem put_Fr (n : Nat) (f : Val) (d : Nat) (v : Value) : (Fr n f).put (some d) v = Fr n (upd f d v) := by
  simp only [Act.put, Fr, Act.mk.injEq, and_true]
  apply Array.ext_getElem?
  intro i
  simp only [Array.getElem?_setIfInBounds, List.getElem?_toArray, List.getElem?_map, List.size_toArray, List.length_map, List.length_range]
  by_cases hi : d = i
  · subst hi
    by_cases h : d < n
    · simp [h, upd]
    · simp [h]
  · rw [if_neg hi]
    by_cases h : i < n
    · simp [h, upd, nbeq_false (Ne.symm hi)]
    · simp [h]

theorem put_none (a : Act) (v : Value) : a.put none v = a := rfl

/-- What each way out of a piece of code must give. -/
def Ex (n : Nat) (N : Val → World → Prop) (X : Nat → Val → World → Prop) (R : Val → World → Prop) (Z : List PanicEntry → World → Prop) : Exit → Act → World → Prop
  | .normal, a, w => ∃ f, a = Fr n f ∧ N f w
  | .exit i, a, w => ∃ f, a = Fr n f ∧ X i f w
  | .ret, a, w => ∃ f, a = Fr n f ∧ R f w
  | .panic ch, a, w => a.defers = [] ∧ Z ch w
  | _, _, _ => False

/-- The weakest precondition of code over a frame of slots. -/
def C (P : Program) (n : Nat) (c : Code) (N : Val → World → Prop) (X : Nat → Val → World → Prop) (R : Val → World → Prop) (Z : List PanicEntry → World → Prop) (f : Val) (w : World) : Prop :=
  c.wp P (Ex n N X R Z) (Fr n f) w
/-- The same of a list of operations. -/
def O (P : Program) (n : Nat) (ops : List Oper) (l : List Oper) (N : Val → World → Prop) (Z : List PanicEntry → World → Prop) (f : Val) (w : World) : Prop :=
  wpList P ops.toArray (Ex n N (fun _ _ _ => False) (fun _ _ => False) Z) l (Fr n f) w

section
variable {P : Program} {n : Nat} {N N' : Val → World → Prop} {X : Nat → Val → World → Prop} {R : Val → World → Prop} {Z : List PanicEntry → World → Prop} {f : Val} {w : World} {a b c : Code}

theorem C.seqK (h : ∀ K : Val → World → Prop, (∀ f w, C P n b N X R Z f w → K f w) → C P n a K X R Z f w) : C P n (.seq a b) N X R Z f w := by
  have h := h _ (fun _ _ h => h)
  refine wp_seq (wp_mono h ?_)
  intro e a w he
  cases e with
  | normal => obtain ⟨f, rfl, hb⟩ := he; exact hb
  | exit i => exact he
  | goto l => exact he
  | ret => exact he
  | panic ch => exact he
  | outgrown => exact he

theorem C.skip (h : N f w) : C P n .skip N X R Z f w := wp_skip ⟨f, rfl, h⟩
theorem C.ret (h : R f w) : C P n .ret N X R Z f w := wp_ret ⟨f, rfl, h⟩
theorem C.exit {i : Nat} (h : X i f w) : C P n (.exit i) N X R Z f w := wp_exit ⟨f, rfl, h⟩
theorem C.block {i : Nat} (h : ∀ K : Val → World → Prop, (∀ f w, N f w → K f w) → C P n c K (fun j f w => cond (Nat.beq j i) (K f w) (X j f w)) R Z f w) : C P n (.block i c) N X R Z f w := by
  have h := h N (fun _ _ h => h)
  refine wp_block (wp_mono h ?_)
  intro e a w he
  cases e with
  | normal => exact he
  | exit j =>
    obtain ⟨f, rfl, hx⟩ := he
    simp only [Exit.inBlock]
    by_cases hj : j = i
    · subst hj
      rw [if_pos rfl]
      rw [nbeq_self] at hx
      exact ⟨f, rfl, hx⟩
    · rw [if_neg hj]
      rw [nbeq_false hj] at hx
      exact ⟨f, rfl, hx⟩
  | goto l => exact he
  | ret => exact he
  | panic ch => exact he
  | outgrown => exact he

/-- A condition that is a Bool. -/
theorem C.cond {x : Operand} {t : Bool} (hx : ev n f x = .bool t) (h1 : t = true → C P n a N X R Z f w) (h2 : t = false → C P n b N X R Z f w) : C P n (.cond x a b) N X R Z f w :=
  wp_cond_split (by rw [eval_Fr]; exact hx) h1 h2
/-- A condition that is a decided proposition. -/
theorem C.condD {x : Operand} {p : Prop} [Decidable p] (hx : ev n f x = .bool (decide p)) (h1 : p → C P n a N X R Z f w) (h2 : ¬ p → C P n b N X R Z f w) : C P n (.cond x a b) N X R Z f w :=
  C.cond hx (fun h => h1 (of_decide_eq_true h)) (fun h => h2 (of_decide_eq_false h))
theorem C.condT {x : Operand} (hx : ev n f x = .bool true) (h1 : C P n a N X R Z f w) : C P n (.cond x a b) N X R Z f w := C.cond hx (fun _ => h1) (fun h => by cases h)
theorem C.condF {x : Operand} (hx : ev n f x = .bool false) (h1 : C P n b N X R Z f w) : C P n (.cond x a b) N X R Z f w := C.cond hx (fun h => by cases h) (fun _ => h1)

theorem C.region {id : Nat} {l : List Oper} (h : O P n l l N Z f w) : C P n (.region id l.toArray false) N X R Z f w :=
  wp_region_lit (wpList_mono' h)
where
  wpList_mono' (h : O P n l l N Z f w) : wpList P l.toArray (Ex n N X R Z) l (Fr n f) w := by
    have key : ∀ (l' : List Oper) (a : Act) (w : World), wpList P l.toArray (Ex n N (fun _ _ _ => False) (fun _ _ => False) Z) l' a w → wpList P l.toArray (Ex n N X R Z) l' a w := by
      intro l'
      induction l' with
      | nil => intro a w h; exact h
      | cons o l' ih =>
        intro a w h
        simp only [wpList] at h ⊢
        split at h
        · rename_i hw
          rw [if_pos hw]
          rcases h with h | ⟨_, a0, w0, h0⟩
          · left
            simp only [Oper.wp] at h ⊢
            generalize (execOp a.eval o).run P w = r at h ⊢
            cases r with
            | ok nx w' =>
              cases nx with
              | value v => exact ih _ _ h
              | skip => exact ih _ _ h
              | defer d => exact ih _ _ h
              | enter k args =>
                refine Calls.mono h ?_
                intro e w'' he
                cases e with
                | returned v => exact ih _ _ he
                | panicked ch => exact he
                | outgrown => obtain ⟨a0, w0, h0⟩ := he; exact h0.elim
              | row r args => exact Rows.mono h fun v w'' hv => ih _ _ hv
              | _ => exact h.elim
            | halt hh w' => cases hh <;> first | exact h | exact h.elim
          · exact h0.elim
        · rename_i hw
          rw [if_neg hw]
          exact ih _ _ h
    exact key l _ _ h

/-- A loop with a ghost: the relation at every round's head, and a measure of the ghost. -/
theorem C.loop {σ : Type} (I : σ → Val → World → Prop) (μ : σ → Nat) (s0 : σ) (h0 : I s0 f w)
    (round : ∀ s f w, I s f w → C P n c (fun f' w' => ∃ s', I s' f' w' ∧ μ s' < μ s) X R Z f w) : C P n (.loop c) N X R Z f w := by
  intro b k cs
  have key : ∀ m s f w, μ s = m → I s f w →
      ∃ e a' w', Ex n N X R Z e a' w' ∧ Arrives P (lone (b.at (Fr n f) (.code c :: .inLoop c :: k)) cs w) b k cs e a' w' := by
    intro m
    induction m using Nat.strongRecOn with
    | _ m ih =>
      intro s f w hn hI
      obtain ⟨e, a₁, w₁, hq, harr⟩ := round s f w hI b (.inLoop c :: k) cs
      cases e with
      | normal =>
        obtain ⟨f', rfl, s', hI₁, hlt⟩ := hq
        obtain ⟨e₂, a₂, w₂, hq₂, harr₂⟩ := ih (μ s') (hn ▸ hlt) s' f' w₁ rfl hI₁
        exact ⟨e₂, a₂, w₂, hq₂, .of_steps (Steps.trans harr (.one step_inLoop)) harr₂⟩
      | exit i => exact ⟨.exit i, a₁, w₁, hq, .pass (x := .inLoop c) rfl (fun _ _ => .inl (by simp)) harr⟩
      | goto l => exact ⟨.goto l, a₁, w₁, hq, .pass (x := .inLoop c) rfl (fun _ _ => .inl (by simp)) harr⟩
      | ret => exact ⟨.ret, a₁, w₁, hq, .pass (x := .inLoop c) rfl (fun _ _ => .inl (by simp)) harr⟩
      | panic ch => exact ⟨.panic ch, a₁, w₁, hq, .pass (x := .inLoop c) rfl (fun _ _ => .inl (by simp)) harr⟩
      | outgrown => exact ⟨.outgrown, a₁, w₁, hq, .pass (x := .inLoop c) rfl (fun _ _ => .inl (by simp)) harr⟩
  obtain ⟨e, a', w', hq, harr⟩ := key _ s0 f w rfl h0
  exact ⟨e, a', w', hq, .of_steps (.one step_loop) harr⟩

/-- The same, the relation naming the frame and the world ahead of the loop. -/
theorem C.loop0 {σ : Type} (I : Val → World → σ → Val → World → Prop) (μ : σ → Nat) (s0 : σ) (h0 : I f w s0 f w)
    (round : ∀ s f' w', I f w s f' w' → C P n c (fun f'' w'' => ∃ s', I f w s' f'' w'' ∧ μ s' < μ s) X R Z f' w') : C P n (.loop c) N X R Z f w :=
  C.loop (I f w) μ s0 h0 round

theorem C.mono (h : C P n c N X R Z f w) (hN : ∀ f w, N f w → N' f w) : C P n c N' X R Z f w := by
  refine wp_mono h ?_
  intro e a w he
  cases e with
  | normal => obtain ⟨f, rfl, hf⟩ := he; exact ⟨f, rfl, hN _ _ hf⟩
  | exit i => exact he
  | goto l => exact he
  | ret => exact he
  | panic ch => exact he
  | outgrown => exact he
end

/-! ### Calls -/

/-- A call returns; what it returns and the world behind it are as Post says. -/
def Ret (P : Program) (k : FuncId) (args : Array Value) (w : World) (Post : Value → World → Prop) : Prop :=
  Calls P k args w fun e w' => match e with | .returned v => Post v w' | _ => False
/-- A call returns or panics. -/
def RetZ (P : Program) (k : FuncId) (args : Array Value) (w : World) (Post : Value → World → Prop) (Z : List PanicEntry → World → Prop) : Prop :=
  Calls P k args w fun e w' => match e with | .returned v => Post v w' | .panicked ch => Z ch w' | .outgrown => False

theorem Ret.mono {P : Program} {k : FuncId} {args : Array Value} {w : World} {Q Q' : Value → World → Prop} (h : Ret P k args w Q) (hq : ∀ v w', Q v w' → Q' v w') : Ret P k args w Q' :=
  Calls.mono h fun e w' he => by cases e <;> first | exact hq _ _ he | exact he
/-- A kit's contract as one of ours. -/
theorem Ret.of {P : Program} {k : FuncId} {args : Array Value} {w : World} {R : Ending → World → Prop} {Q : Value → World → Prop} (h : Calls P k args w R) (hq : ∀ e w', R e w' → ∃ v, e = .returned v ∧ Q v w') : Ret P k args w Q :=
  Calls.mono h fun e w' he => by obtain ⟨v, rfl, hv⟩ := hq e w' he; exact hv
/-- .. and back. -/
theorem Ret.calls {P : Program} {k : FuncId} {args : Array Value} {w : World} {Q : Value → World → Prop} (h : Ret P k args w Q) : Calls P k args w fun e w' => ∃ v, e = .returned v ∧ Q v w' :=
  Calls.mono h fun e w' he => by cases e <;> first | exact ⟨_, rfl, he⟩ | exact he.elim

/-- The slots at a function's beginning. -/
def init (args : List Value) : Val := fun i => args.getD i undef

theorem Fr_init (n : Nat) (args : List Value) (h : args.length ≤ n) :
    ({ tmps := args.toArray ++ Array.replicate (n - args.toArray.size) undef, defers := [] } : Act) = Fr n (init args) := by
  simp only [Fr, Act.mk.injEq, and_true]
  apply Array.ext_getElem?
  intro i
  simp only [List.size_toArray, Array.getElem?_append, List.getElem?_toArray, Array.getElem?_replicate, List.getElem?_map]
  by_cases h1 : i < args.length
  · have h2 : i < n := by omega
    simp [h1, h2, init]
  · by_cases h2 : i < n
    · have : i - args.length < n - args.length := by omega
      simp [h1, h2, this, init]
    · have : ¬ i - args.length < n - args.length := by omega
      simp [h1, h2, this]

/-- What a function returns: the value that its result slots give. -/
def Outs (P : Program) (fn : Func) (n : Nat) (Post : Value → World → Prop) : Val → World → Prop :=
  fun f w => ∃ v, (results fn (Fr n f).tmps).run P w = .ok v w ∧ Post v w

theorem enterZ {P : Program} {k : FuncId} {fn : Func} {c : Code} {args : List Value} {n : Nat} {w : World} {Post : Value → World → Prop} {Z : List PanicEntry → World → Prop}
    (hf : P.funcs[k]? = some fn) (hb : fn.body = some c) (hn : fn.ntmps = n) (ha : args.length ≤ n)
    (h : C P n c (Outs P fn n Post) (fun _ _ _ => False) (Outs P fn n Post) Z (init args) w) : RetZ P k args.toArray w Post Z := by
  subst hn
  refine calls_of_wp hf hb ?_
  rw [Fr_init _ _ ha]
  refine wp_mono h ?_
  intro e a w he
  cases e with
  | normal => obtain ⟨f, rfl, v, hv, hp⟩ := he; exact ⟨rfl, v, hv, hp⟩
  | ret => obtain ⟨f, rfl, v, hv, hp⟩ := he; exact ⟨rfl, v, hv, hp⟩
  | exit i => obtain ⟨f, rfl, hx⟩ := he; exact hx.elim
  | goto l => exact he.elim
  | panic ch => exact he
  | outgrown => exact he.elim
theorem enter {P : Program} {k : FuncId} {fn : Func} {c : Code} {args : List Value} {n : Nat} {w : World} {Post : Value → World → Prop}
    (hf : P.funcs[k]? = some fn) (hb : fn.body = some c) (hn : fn.ntmps = n) (ha : args.length ≤ n)
    (h : C P n c (Outs P fn n Post) (fun _ _ _ => False) (Outs P fn n Post) (fun _ _ => False) (init args) w) : Ret P k args.toArray w Post :=
  Calls.mono (enterZ hf hb hn ha h) fun e w' he => by cases e <;> first | exact he | exact he.elim

theorem getD_Fr (n : Nat) (f : Val) (t : Nat) : (Fr n f).tmps.getD t undef = ev n f (.tmp t) := by
  have := congrFun (eval_Fr n f) (.tmp t)
  exact this

theorem Outs.one {P : Program} {fn : Func} {n : Nat} {Post : Value → World → Prop} {f : Val} {w : World} {t : Nat} {v : Value} (hr : fn.results = #[.tmp t]) (hv : ev n f (.tmp t) = v) (h : Post v w) : Outs P fn n Post f w :=
  ⟨v, by rw [results_tmp hr, getD_Fr, hv], h⟩
theorem Outs.none {P : Program} {fn : Func} {n : Nat} {Post : Value → World → Prop} {f : Val} {w : World} (hr : fn.results = #[]) (h : Post (.tuple #[]) w) : Outs P fn n Post f w :=
  ⟨_, by rw [results_none hr], h⟩
theorem Outs.two {P : Program} {fn : Func} {n : Nat} {Post : Value → World → Prop} {f : Val} {w : World} {t u : Nat} {v v' : Value} (hr : fn.results = #[.tmp t, .tmp u]) (hv : ev n f (.tmp t) = v) (hv' : ev n f (.tmp u) = v') (h : Post (.tuple #[v, v']) w) : Outs P fn n Post f w :=
  ⟨_, by rw [results_tmp2 hr, getD_Fr, getD_Fr, hv, hv'], h⟩

/-! ### Operations -/
section
variable {P : Program} {n : Nat} {ops rest : List Oper} {N : Val → World → Prop} {Z : List PanicEntry → World → Prop} {f : Val} {w : World}

theorem O.nil (h : N f w) : O P n ops [] N Z f w := ⟨f, rfl, h⟩

/-- An operation that yields a value. -/
theorem O.val {o : Oper} {d : Nat} {v : Value} {w' : World} (hg : o.guard = .none) (hd : o.dst = some d) (hrun : (execOp (ev n f) o).run P w = .ok (.value v) w')
    (h : O P n ops rest N Z (upd f d v) w') : O P n ops (o :: rest) N Z f w := by
  unfold O at h ⊢
  refine wpList_plain hg fun K hK => ?_
  simp only [Oper.wp, eval_Fr, hrun, Oper.upon_value, hd, put_Fr]
  exact hK _ _ h
/-- An operation that yields nothing. -/
theorem O.act {o : Oper} {w' : World} (hg : o.guard = .none) (hd : o.dst = .none) (hrun : (execOp (ev n f) o).run P w = .ok .skip w')
    (h : O P n ops rest N Z f w') : O P n ops (o :: rest) N Z f w := by
  unfold O at h ⊢
  refine wpList_plain hg fun K hK => ?_
  simp only [Oper.wp, eval_Fr, hrun, Oper.upon_skip, hd, put_none]
  exact hK _ _ h
/-- Another spelling of the value that was put last. -/
theorem O.cast {d : Nat} {v v' : Value} (hv : v = v') (h : O P n ops rest N Z (upd f d v') w) : O P n ops rest N Z (upd f d v) w := hv ▸ h

/-- A guard that says yes. -/
theorem O.yes {dst : Option Nat} {op : Op} {ty : TypeId} {pos : String} {after : Array Edge} {j dj : Nat} {b : Bool}
    (hj : (ops[j]?).bind (·.dst) = some dj) (hv : ev n f (.tmp dj) = .bool b)
    (h : O P n ops ({ dst := dst, op := op, type := ty, pos := pos, after := after, guard := .none } :: rest) N Z f w) :
    O P n ops ({ dst := dst, op := op, type := ty, pos := pos, after := after, guard := some (j, b) } :: rest) N Z f w := by
  unfold O at h ⊢
  have hy : yielded ops.toArray (Fr n f).tmps j = some b := by
    have hd := getD_Fr n f dj
    rw [hv] at hd
    unfold yielded
    have h1 : (ops.toArray[j]?).bind (·.dst) = some dj := by simpa using hj
    rw [h1]
    simp only [Option.bind_some]
    rw [Array.getD_eq_getD_getElem?] at hd
    cases hx : (Fr n f).tmps[dj]? with
    | none => rw [hx] at hd; simp [undef] at hd
    | some v => rw [hx] at hd; simp at hd; subst hd; rfl
  simp only [wpList, Region.wanted, hy, beq_self_eq_true, if_true] at h ⊢
  exact h
/-- No Bool with this value. -/
def isB (b : Bool) : Value → Bool
  | .bool c => c == b
  | _ => false
/-- A guard that says no. -/
theorem O.no {d : Nat} {op : Op} {ty : TypeId} {pos : String} {after : Array Edge} {j dj : Nat} {b : Bool}
    (hj : (ops[j]?).bind (·.dst) = some dj) (hv : isB b (ev n f (.tmp dj)) = false)
    (h : O P n ops rest N Z (upd f d undef) w) :
    O P n ops ({ dst := some d, op := op, type := ty, pos := pos, after := after, guard := some (j, b) } :: rest) N Z f w := by
  unfold O at h ⊢
  have hy : (yielded ops.toArray (Fr n f).tmps j == some b) = false := by
    have hd := getD_Fr n f dj
    unfold yielded
    have h1 : (ops.toArray[j]?).bind (·.dst) = some dj := by simpa using hj
    rw [h1]
    simp only [Option.bind_some]
    rw [Array.getD_eq_getD_getElem?] at hd
    cases hx : (Fr n f).tmps[dj]? with
    | none => rfl
    | some v =>
      rw [hx] at hd
      simp at hd
      rw [← hd] at hv
      cases v <;> first | rfl | (simp [isB] at hv; simp; exact hv)
  simp only [wpList, Region.wanted, hy]
  rw [put_Fr]
  simpa using h
/-- A call of a function of the program. -/
theorem O.call {d k : Nat} {xs : List Operand} {vs : List Value} {ats : Array TypeId} {ty : TypeId} {pos : String} {after : Array Edge} {Post : Value → World → Prop}
    (hk : ∀ args w, (callFunc k args).run P w = .ok (.enter k args) w) (hxs : xs.map (ev n f) = vs)
    (hc : Ret P k vs.toArray w Post) (h : ∀ v w', Post v w' → O P n ops rest N Z (upd f d v) w') :
    O P n ops ({ dst := some d, op := .call { callee := .value (.func k), args := xs.toArray, argTypes := ats }, type := ty, pos := pos, after := after, guard := .none } :: rest) N Z f w := by
  subst hxs
  unfold O at h ⊢
  refine wpList_plain rfl fun K hK => ?_
  have hrun : (execOp (ev n f) { dst := some d, op := .call { callee := .value (.func k), args := xs.toArray, argTypes := ats }, type := ty, pos := pos, after := after, guard := .none }).run P w = .ok (.enter k (xs.map (ev n f)).toArray) w := by
    simp [execOp, resolve, Deferred.ofValue, invoke, ev, hk]
  simp only [Oper.wp, eval_Fr, hrun, Oper.upon_enter]
  refine Calls.mono hc ?_
  intro e w' he
  cases e with
  | returned v => show K ((Fr n f).put (some d) v) w'; rw [put_Fr]; exact hK _ _ (h v w' he)
  | panicked ch => exact he.elim
  | outgrown => exact he.elim
theorem argsN : ([] : List Operand).map (ev n f) = [] := rfl
theorem args1 {x0 : Operand} {v0 : Value} (h0 : ev n f x0 = v0) : [x0].map (ev n f) = [v0] := by simp [h0]
theorem args2 {x0 x1 : Operand} {v0 v1 : Value} (h0 : ev n f x0 = v0) (h1 : ev n f x1 = v1) : [x0, x1].map (ev n f) = [v0, v1] := by simp [h0, h1]
theorem args3 {x0 x1 x2 : Operand} {v0 v1 v2 : Value} (h0 : ev n f x0 = v0) (h1 : ev n f x1 = v1) (h2 : ev n f x2 = v2) : [x0, x1, x2].map (ev n f) = [v0, v1, v2] := by simp [h0, h1, h2]
theorem args4 {x0 x1 x2 x3 : Operand} {v0 v1 v2 v3 : Value} (h0 : ev n f x0 = v0) (h1 : ev n f x1 = v1) (h2 : ev n f x2 = v2) (h3 : ev n f x3 = v3) : [x0, x1, x2, x3].map (ev n f) = [v0, v1, v2, v3] := by simp [h0, h1, h2, h3]
theorem args5 {x0 x1 x2 x3 x4 : Operand} {v0 v1 v2 v3 v4 : Value} (h0 : ev n f x0 = v0) (h1 : ev n f x1 = v1) (h2 : ev n f x2 = v2) (h3 : ev n f x3 = v3) (h4 : ev n f x4 = v4) : [x0, x1, x2, x3, x4].map (ev n f) = [v0, v1, v2, v3, v4] := by simp [h0, h1, h2, h3, h4]
theorem O.mv {d : Nat} {x : Operand} {ty : TypeId} {pos : String} {after : Array Edge}
    (h : O P n ops rest N Z (upd f d (ev n f x)) w) :
    O P n ops ({ dst := some d, op := .move x, type := ty, pos := pos, after := after, guard := .none } :: rest) N Z f w :=
  O.val rfl rfl rfl h
theorem O.asg {d : Nat} {x : Operand} {ty : TypeId} {pos : String} {after : Array Edge}
    (h : O P n ops rest N Z (upd f d (ev n f x)) w) :
    O P n ops ({ dst := some d, op := .assign x, type := ty, pos := pos, after := after, guard := .none } :: rest) N Z f w :=
  O.val rfl rfl rfl h
/-- pick, its condition decided. -/
theorem O.pickT {d : Nat} {c x y : Operand} {ty : TypeId} {pos : String} {after : Array Edge} (hc : ev n f c = .bool true)
    (h : O P n ops rest N Z (upd f d (ev n f x)) w) :
    O P n ops ({ dst := some d, op := .pick c x y, type := ty, pos := pos, after := after, guard := .none } :: rest) N Z f w :=
  O.val rfl rfl (by simp [execOp, hc, asBool]) h
theorem O.pickF {d : Nat} {c x y : Operand} {ty : TypeId} {pos : String} {after : Array Edge} (hc : ev n f c = .bool false)
    (h : O P n ops rest N Z (upd f d (ev n f y)) w) :
    O P n ops ({ dst := some d, op := .pick c x y, type := ty, pos := pos, after := after, guard := .none } :: rest) N Z f w :=
  O.val rfl rfl (by simp [execOp, hc, asBool]) h
theorem O.extract {d i : Nat} {x : Operand} {vs : Array Value} {v : Value} {ty : TypeId} {pos : String} {after : Array Edge} (hx : ev n f x = .tuple vs) (hv : vs[i]? = some v)
    (h : O P n ops rest N Z (upd f d v) w) :
    O P n ops ({ dst := some d, op := .extract x i, type := ty, pos := pos, after := after, guard := .none } :: rest) N Z f w :=
  O.val rfl rfl (by simp [execOp, hx, Instr.extract, hv]) h
theorem O.not {d : Nat} {x : Operand} {b : Bool} {t ty : TypeId} {pos : String} {after : Array Edge} (hx : ev n f x = .bool b)
    (h : O P n ops rest N Z (upd f d (.bool (!b))) w) :
    O P n ops ({ dst := some d, op := .unOp .not t x, type := ty, pos := pos, after := after, guard := .none } :: rest) N Z f w :=
  O.val rfl rfl (by simp [execOp, hx, Op.unary]) h
/-- A Bool in a slot: both its values. -/
theorem O.split {b : Bool} {l : List Oper} {x : Operand} (_ : ev n f x = .bool b) (h1 : b = true → O P n ops l N Z f w) (h2 : b = false → O P n ops l N Z f w) : O P n ops l N Z f w := by
  cases b
  · exact h2 rfl
  · exact h1 rfl
theorem O.splitD {p : Prop} [Decidable p] {l : List Oper} {x : Operand} (_ : ev n f x = .bool (decide p)) (h1 : p → O P n ops l N Z f w) (h2 : ¬ p → O P n ops l N Z f w) : O P n ops l N Z f w := by
  by_cases h : p
  · exact h1 h
  · exact h2 h
theorem dAnd {A B : Prop} [Decidable A] [Decidable B] (h : A) : decide B = decide (A ∧ B) := by simp [h]
theorem dAndF {A B : Prop} [Decidable A] [Decidable B] (h : ¬ A) : false = decide (A ∧ B) := by simp [h]
theorem dOr {A B : Prop} [Decidable A] [Decidable B] (h : ¬ A) : decide B = decide (A ∨ B) := by simp [h]
theorem dOrT {A B : Prop} [Decidable A] [Decidable B] (h : A) : true = decide (A ∨ B) := by simp [h]
theorem isT {v : Value} {p : Prop} [Decidable p] (hv : v = .bool (decide p)) (h : p) : v = .bool true := by rw [hv, decide_eq_true h]
theorem isF {v : Value} {p : Prop} [Decidable p] (hv : v = .bool (decide p)) (h : ¬ p) : v = .bool false := by rw [hv, decide_eq_false h]
theorem isT' {v : Value} {b : Bool} (hv : v = .bool b) (h : b = true) : v = .bool true := by rw [hv, h]
theorem isF' {v : Value} {b : Bool} (hv : v = .bool b) (h : b = false) : v = .bool false := by rw [hv, h]
theorem noB {v : Value} {b : Bool} {c : Bool} (hv : v = .bool b) (h : (b == c) = false) : isB c v = false := by rw [hv]; exact h
theorem noU {v : Value} {c : Bool} (hv : v = undef) : isB c v = false := by rw [hv]; rfl
/-- A list of operations in two pieces, what holds between them given. -/
theorem O.cut (k : Nat) (J : Val → Val → Prop) {l : List Oper} (h1 : O P n ops (l.take k) (fun f' w' => J f f' ∧ w' = w) Z f w) (h2 : ∀ f', J f f' → O P n ops (l.drop k) N Z f' w) : O P n ops l N Z f w := by
  have key : ∀ (a b : List Oper) (M : Val → World → Prop) (x : Act) (u : World),
      wpList P ops.toArray (Ex n M (fun _ _ _ => False) (fun _ _ => False) Z) a x u → (∀ f' w', M f' w' → wpList P ops.toArray (Ex n N (fun _ _ _ => False) (fun _ _ => False) Z) b (Fr n f') w') →
      wpList P ops.toArray (Ex n N (fun _ _ _ => False) (fun _ _ => False) Z) (a ++ b) x u := by
    intro a b M
    induction a with
    | nil => intro x u h hm; obtain ⟨f', rfl, h⟩ := h; exact hm _ _ h
    | cons o a ih =>
      intro x u h hm
      simp only [wpList, List.cons_append] at h ⊢
      split at h
      · rename_i hw
        rw [if_pos hw]
        rcases h with h | ⟨_, a0, w0, h0⟩
        · left
          simp only [Oper.wp] at h ⊢
          generalize (execOp x.eval o).run P u = r at h ⊢
          cases r with
          | ok nx w' =>
            cases nx with
            | value v => exact ih _ _ h hm
            | skip => exact ih _ _ h hm
            | defer d => exact ih _ _ h hm
            | enter k args =>
              refine Calls.mono h ?_
              intro e w'' he
              cases e with
              | returned v => exact ih _ _ he hm
              | panicked ch => exact he
              | outgrown => obtain ⟨a0, w0, h0⟩ := he; exact h0.elim
            | row r args => exact Rows.mono h fun v w'' hv => ih _ _ hv hm
            | _ => exact h.elim
          | halt hh w' => cases hh <;> first | exact h | exact h.elim
        · exact h0.elim
      · rename_i hw
        rw [if_neg hw]
        exact ih _ _ h hm
  have := key (l.take k) (l.drop k) _ _ _ h1 (fun f' w' hm => by obtain ⟨hj, rfl⟩ := hm; exact h2 f' hj)
  rw [List.take_append_drop] at this
  exact this
end
end Go.Pn
end
section
/-
  Plain operations on numbers, Bools and strings, a rule each. No condition beyond what each rule asks.
-/
namespace Go.Pn
open Go.RowKit

/-- An int. -/
abbrev i64 (n : Int) : Value := .int .i64 n
/-- It is an int's number. -/
def InI (n : Int) : Prop := -9223372036854775808 ≤ n ∧ n ≤ 9223372036854775807
/-- The string with some bytes. -/
def str (l : List UInt8) : Value := .string ⟨l.toArray⟩

theorem wrap_in {n : Int} (h : InI n) : IntKind.i64.wrap n = n := by
  unfold InI at h
  have e : IntKind.i64.wrap n = if (true && decide (n % 18446744073709551616 ≥ 9223372036854775808)) = true then n % 18446744073709551616 - 18446744073709551616 else n % 18446744073709551616 := rfl
  rw [e]
  by_cases h0 : 0 ≤ n
  · rw [Int.emod_eq_of_lt h0 (by omega)]
    simp; omega
  · have : n % 18446744073709551616 = n + 18446744073709551616 := by omega
    rw [this]
    simp; omega

theorem wrap_u {k : IntKind} {m : Nat} (hk : k.bits = m) (hs : k.signed = false) (n : Int) : k.wrap n = ((BitVec.ofInt m n).toNat : Int) := by
  subst hk
  simp only [IntKind.wrap, hs, Bool.false_and, Bool.false_eq_true, if_false, BitVec.toNat_ofInt]
  have h2 : (0 : Int) < 2 ^ k.bits := Int.pow_pos (by decide)
  have := Int.emod_nonneg n (Int.ne_of_gt h2)
  have e : ((2 ^ k.bits : Nat) : Int) = (2 : Int) ^ k.bits := by norm_cast
  rw [e]; omega
section
variable {P : Program} {n : Nat} {ops rest : List Oper} {N : Val → World → Prop} {Z : List PanicEntry → World → Prop} {f : Val} {w : World}
  {d : Nat} {x y : Operand} {t t' ty : TypeId} {pos : String} {after : Array Edge}

/-! #### int -/
section
variable {a b : Int}
theorem O.addI (hx : ev n f x = i64 a) (hy : ev n f y = i64 b) (hb : InI (a + b)) (h : O P n ops rest N Z (upd f d (i64 (a + b))) w) :
    O P n ops ({ dst := some d, op := .binOp .add t x y t', type := ty, pos := pos, after := after, guard := .none } :: rest) N Z f w :=
  O.val rfl rfl (by simp [execOp, hx, hy, eqGuard, binOp, Op.intArith, wrap_in hb]) h
theorem O.subI (hx : ev n f x = i64 a) (hy : ev n f y = i64 b) (hb : InI (a - b)) (h : O P n ops rest N Z (upd f d (i64 (a - b))) w) :
    O P n ops ({ dst := some d, op := .binOp .sub t x y t', type := ty, pos := pos, after := after, guard := .none } :: rest) N Z f w :=
  O.val rfl rfl (by simp [execOp, hx, hy, eqGuard, binOp, Op.intArith, wrap_in hb]) h
theorem O.mulI (hx : ev n f x = i64 a) (hy : ev n f y = i64 b) (hb : InI (a * b)) (h : O P n ops rest N Z (upd f d (i64 (a * b))) w) :
    O P n ops ({ dst := some d, op := .binOp .mul t x y t', type := ty, pos := pos, after := after, guard := .none } :: rest) N Z f w :=
  O.val rfl rfl (by simp [execOp, hx, hy, eqGuard, binOp, Op.intArith, wrap_in hb]) h
theorem tdiv_nn {a b : Int} (ha : 0 ≤ a) (_ : 0 < b) : a.tdiv b = a / b := Int.tdiv_eq_ediv_of_nonneg ha
theorem O.quoI (hx : ev n f x = i64 a) (hy : ev n f y = i64 b) (hb : 0 ≤ a ∧ 0 < b ∧ a ≤ 9223372036854775807) (h : O P n ops rest N Z (upd f d (i64 (a / b))) w) :
    O P n ops ({ dst := some d, op := .binOp .quo t x y t', type := ty, pos := pos, after := after, guard := .none } :: rest) N Z f w :=
  O.val rfl rfl (by
    have h1 : b ≠ 0 := by omega
    have h2 : InI (a / b) := by
      have e1 := Int.ediv_nonneg hb.1 (Int.le_of_lt hb.2.1)
      have e2 := Int.ediv_le_self b hb.1
      unfold InI; omega
    simp [execOp, hx, hy, eqGuard, binOp, Op.intDiv, h1, tdiv_nn hb.1 hb.2.1, wrap_in h2]) h
theorem O.remI (hx : ev n f x = i64 a) (hy : ev n f y = i64 b) (hb : 0 ≤ a ∧ 0 < b) (h : O P n ops rest N Z (upd f d (i64 (a % b))) w) :
    O P n ops ({ dst := some d, op := .binOp .rem t x y t', type := ty, pos := pos, after := after, guard := .none } :: rest) N Z f w :=
  O.val rfl rfl (by
    have h1 : b ≠ 0 := by omega
    simp [execOp, hx, hy, eqGuard, binOp, Op.intDiv, h1, Int.tmod_eq_emod_of_nonneg hb.1]) h
theorem O.lssI (hx : ev n f x = i64 a) (hy : ev n f y = i64 b) (h : O P n ops rest N Z (upd f d (.bool (decide (a < b)))) w) :
    O P n ops ({ dst := some d, op := .binOp .lss t x y t', type := ty, pos := pos, after := after, guard := .none } :: rest) N Z f w :=
  O.val rfl rfl (by simp [execOp, hx, hy, eqGuard, binOp, Op.intCmp]) h
theorem O.leqI (hx : ev n f x = i64 a) (hy : ev n f y = i64 b) (h : O P n ops rest N Z (upd f d (.bool (decide (a ≤ b)))) w) :
    O P n ops ({ dst := some d, op := .binOp .leq t x y t', type := ty, pos := pos, after := after, guard := .none } :: rest) N Z f w :=
  O.val rfl rfl (by simp [execOp, hx, hy, eqGuard, binOp, Op.intCmp]) h
theorem O.gtrI (hx : ev n f x = i64 a) (hy : ev n f y = i64 b) (h : O P n ops rest N Z (upd f d (.bool (decide (b < a)))) w) :
    O P n ops ({ dst := some d, op := .binOp .gtr t x y t', type := ty, pos := pos, after := after, guard := .none } :: rest) N Z f w :=
  O.val rfl rfl (by simp [execOp, hx, hy, eqGuard, binOp, Op.intCmp]) h
theorem O.geqI (hx : ev n f x = i64 a) (hy : ev n f y = i64 b) (h : O P n ops rest N Z (upd f d (.bool (decide (b ≤ a)))) w) :
    O P n ops ({ dst := some d, op := .binOp .geq t x y t', type := ty, pos := pos, after := after, guard := .none } :: rest) N Z f w :=
  O.val rfl rfl (by simp [execOp, hx, hy, eqGuard, binOp, Op.intCmp]) h
theorem O.eqlI (hx : ev n f x = i64 a) (hy : ev n f y = i64 b) (h : O P n ops rest N Z (upd f d (.bool (decide (a = b)))) w) :
    O P n ops ({ dst := some d, op := .binOp .eql t x y t', type := ty, pos := pos, after := after, guard := .none } :: rest) N Z f w :=
  O.val rfl rfl (by
    have e : (a == b) = decide (a = b) := by by_cases h : a = b <;> simp [h]
    simp [execOp, hx, hy, eqGuard, binOp, Op.intCmp, e]) h
theorem O.neqI (hx : ev n f x = i64 a) (hy : ev n f y = i64 b) (h : O P n ops rest N Z (upd f d (.bool (decide (a ≠ b)))) w) :
    O P n ops ({ dst := some d, op := .binOp .neq t x y t', type := ty, pos := pos, after := after, guard := .none } :: rest) N Z f w :=
  O.val rfl rfl (by
    have e : (a != b) = decide (a ≠ b) := by by_cases h : a = b <;> simp [h]
    simp [execOp, hx, hy, eqGuard, binOp, Op.intCmp, e]) h
end

theorem i64_eq {a b : Int} (h : a = b) : i64 a = i64 b := by rw [h]

/-! #### unsigned numbers -/
section
variable {k : IntKind} {m : Nat} {a b : BitVec m}
theorem O.leqU (hx : ev n f x = .int k (a.toNat : Int)) (hy : ev n f y = .int k (b.toNat : Int)) (h : O P n ops rest N Z (upd f d (.bool (decide (a ≤ b)))) w) :
    O P n ops ({ dst := some d, op := .binOp .leq t x y t', type := ty, pos := pos, after := after, guard := .none } :: rest) N Z f w :=
  O.val rfl rfl (by simp [execOp, hx, hy, eqGuard, binOp, Op.intCmp, BitVec.le_def]) h
theorem O.geqU (hx : ev n f x = .int k (a.toNat : Int)) (hy : ev n f y = .int k (b.toNat : Int)) (h : O P n ops rest N Z (upd f d (.bool (decide (b ≤ a)))) w) :
    O P n ops ({ dst := some d, op := .binOp .geq t x y t', type := ty, pos := pos, after := after, guard := .none } :: rest) N Z f w :=
  O.val rfl rfl (by simp [execOp, hx, hy, eqGuard, binOp, Op.intCmp, BitVec.le_def]) h
theorem O.eqlU (hx : ev n f x = .int k (a.toNat : Int)) (hy : ev n f y = .int k (b.toNat : Int)) (h : O P n ops rest N Z (upd f d (.bool (decide (a = b)))) w) :
    O P n ops ({ dst := some d, op := .binOp .eql t x y t', type := ty, pos := pos, after := after, guard := .none } :: rest) N Z f w :=
  O.val rfl rfl (by
    have e : ((a.toNat : Int) == (b.toNat : Int)) = decide (a = b) := by
      by_cases h : a = b
      · simp [h]
      · have h2 : a.toNat ≠ b.toNat := fun h' => h (BitVec.eq_of_toNat_eq h')
        simp [h]; omega
    simp [execOp, hx, hy, eqGuard, binOp, Op.intCmp, e]) h
theorem O.neqU (hx : ev n f x = .int k (a.toNat : Int)) (hy : ev n f y = .int k (b.toNat : Int)) (h : O P n ops rest N Z (upd f d (.bool (decide (a ≠ b)))) w) :
    O P n ops ({ dst := some d, op := .binOp .neq t x y t', type := ty, pos := pos, after := after, guard := .none } :: rest) N Z f w :=
  O.val rfl rfl (by
    have e : ((a.toNat : Int) != (b.toNat : Int)) = decide (a ≠ b) := by
      by_cases h : a = b
      · simp [h]
      · have h2 : a.toNat ≠ b.toNat := fun h' => h (BitVec.eq_of_toNat_eq h')
        simp [h]; omega
    simp [execOp, hx, hy, eqGuard, binOp, Op.intCmp, e]) h
end

/-! #### conversions between kinds of numbers -/
section
variable {k k' : IntKind} {m m' : Nat}
theorem O.convUI {a : BitVec m} (ht : P.underlying t = some (.int k)) (ht' : P.underlying t' = some (.int .i64)) (hx : ev n f x = .int k (a.toNat : Int)) (hm : m < 64)
    (h : O P n ops rest N Z (upd f d (i64 (a.toNat : Int))) w) :
    O P n ops ({ dst := some d, op := .convert t t' x, type := ty, pos := pos, after := after, guard := .none } :: rest) N Z f w :=
  O.val rfl rfl (by
    have e : IntKind.i64.wrap (a.toNat : Int) = (a.toNat : Int) := by
      apply wrap_in
      have h1 := a.isLt
      have h2 : 2 ^ m ≤ 2 ^ 63 := Nat.pow_le_pow_right (by decide) (by omega)
      unfold InI; omega
    simp [execOp, hx, convert, run_underlying ht, run_underlying ht', Conv.intToInt, e]) h
theorem O.convIU {a : Int} (ht : P.underlying t = some (.int .i64)) (ht' : P.underlying t' = some (.int k')) (hk' : k'.bits = m') (hs' : k'.signed = false) (hx : ev n f x = i64 a)
    (h : O P n ops rest N Z (upd f d (.int k' ((BitVec.ofInt m' a).toNat : Int))) w) :
    O P n ops ({ dst := some d, op := .convert t t' x, type := ty, pos := pos, after := after, guard := .none } :: rest) N Z f w :=
  O.val rfl rfl (by
    simp [execOp, hx, convert, run_underlying ht, run_underlying ht', Conv.intToInt, wrap_u hk' hs']) h
end

/-! #### Bools and strings -/
theorem run_bin {op : BinOp} {a b v : Value} (hx : ev n f x = a) (hy : ev n f y = b) (hg : (eqGuard op t x y a b).run P w = .ok () w) (h : (binOp op t a b).run P w = .ok v w) (dst : Option Tmp) (g : Option (Nat × Bool)) :
    (execOp (ev n f) { dst := dst, op := .binOp op t x y t', type := ty, pos := pos, after := after, guard := g }).run P w = .ok (.value v) w := by
  simp only [execOp, hx, hy, Sem.run_bind, hg, Result.andThen_ok, h]
  rfl
theorem toList_mk (l : List UInt8) : (ByteArray.mk l.toArray).toList = l := ByteArray.toList_mk l
section
variable {a b : List UInt8}
theorem O.eqlS (hx : ev n f x = str a) (hy : ev n f y = str b) (h : O P n ops rest N Z (upd f d (.bool (decide (a = b)))) w) :
    O P n ops ({ dst := some d, op := .binOp .eql t x y t', type := ty, pos := pos, after := after, guard := .none } :: rest) N Z f w :=
  O.val rfl rfl (by
    have e : (a == b) = decide (a = b) := by by_cases h : a = b <;> simp [h]
    simp only [execOp, hx, hy, str, eqGuard, binOp, Op.stringOp, toList_mk, e]
    simp) h
theorem O.neqS (hx : ev n f x = str a) (hy : ev n f y = str b) (h : O P n ops rest N Z (upd f d (.bool (decide (a ≠ b)))) w) :
    O P n ops ({ dst := some d, op := .binOp .neq t x y t', type := ty, pos := pos, after := after, guard := .none } :: rest) N Z f w :=
  O.val rfl rfl (by
    have e : (!(a == b)) = decide (a ≠ b) := by by_cases h : a = b <;> simp [h]
    simp only [execOp, hx, hy, str, eqGuard, binOp, Op.stringOp, toList_mk, e]
    simp) h
theorem O.addS (hx : ev n f x = str a) (hy : ev n f y = str b) (hb : a.length + b.length ≤ 9223372036854775807) (h : O P n ops rest N Z (upd f d (str (a ++ b))) w) :
    O P n ops ({ dst := some d, op := .binOp .add t x y t', type := ty, pos := pos, after := after, guard := .none } :: rest) N Z f w :=
  O.val rfl rfl (by
    have h1 : ¬ (IntKind.i64.max < ((ByteArray.size ⟨a.toArray⟩ + ByteArray.size ⟨b.toArray⟩ : Nat) : Int)) := by
      have e : IntKind.i64.max = 9223372036854775807 := by decide
      have ha : ByteArray.size ⟨a.toArray⟩ = a.length := by simp [ByteArray.size]
      have hb' : ByteArray.size ⟨b.toArray⟩ = b.length := by simp [ByteArray.size]
      rw [e, ha, hb']; omega
    have e2 : (ByteArray.mk a.toArray ++ ByteArray.mk b.toArray) = ByteArray.mk (a ++ b).toArray := by
      apply ByteArray.ext
      simp
    simp only [execOp, hx, hy, str, eqGuard, binOp, Op.stringOp, gt_iff_lt, h1, if_false, e2]
    simp) h
theorem O.lenS (ht : P.underlying t = some .string) (hx : ev n f x = str a) (h : O P n ops rest N Z (upd f d (i64 a.length)) w) :
    O P n ops ({ dst := some d, op := .call { callee := .builtin .len, args := [x].toArray, argTypes := [t].toArray }, type := ty, pos := pos, after := after, guard := .none } :: rest) N Z f w :=
  O.val rfl rfl (by
    have e : ByteArray.size ⟨a.toArray⟩ = a.length := by simp [ByteArray.size]
    simp [execOp, resolve, invoke, builtin, hx, Builtin.len_, run_underlying ht, str, goInt, e]) h
theorem O.lenL {l : Option Addr} {k c : Nat} {e : TypeId} (ht : P.underlying t = some (.slice e)) (hx : ev n f x = .slice l k c) (h : O P n ops rest N Z (upd f d (i64 k)) w) :
    O P n ops ({ dst := some d, op := .call { callee := .builtin .len, args := [x].toArray, argTypes := [t].toArray }, type := ty, pos := pos, after := after, guard := .none } :: rest) N Z f w :=
  O.val rfl rfl (by
    simp [execOp, resolve, invoke, builtin, hx, Builtin.len_, run_underlying ht, goInt]) h
theorem O.indexS {k : IntKind} {i : Int} (ht : P.underlying t = some .string) (hx : ev n f x = str a) (hy : ev n f y = .int k i) (hi : 0 ≤ i ∧ i < a.length) (h : O P n ops rest N Z (upd f d (.int .u8 ((a.getD i.toNat 0).toNat : Int))) w) :
    O P n ops ({ dst := some d, op := .index t x y, type := ty, pos := pos, after := after, guard := .none } :: rest) N Z f w :=
  O.val rfl rfl (by
    have hlt : i.toNat < a.length := by omega
    have h1 : (ByteArray.mk a.toArray)[i.toNat]? = some (a.getD i.toNat 0) := by
      rw [getElem?_pos (ByteArray.mk a.toArray) i.toNat (show i.toNat < (ByteArray.mk a.toArray).size by simpa [ByteArray.size] using hlt)]
      rw [List.getD_eq_getElem?_getD, List.getElem?_eq_getElem hlt]
      rfl
    have h2 : (Instr.index t (.string ⟨a.toArray⟩) (.int k i)).run P w = .ok (.int .u8 ((a.getD i.toNat 0).toNat : Int)) w := by
      unfold Instr.index
      rw [Sem.run_bind]
      show Result.andThen (Result.ok (k, i) w) _ = _
      rw [Result.andThen_ok, Sem.run_bind, run_underlying ht, Result.andThen_ok]
      simp only [if_pos hi.1, h1]
      rfl
    have h3 : execOp (ev n f) { dst := some d, op := .index t x y, type := ty, pos := pos, after := after, guard := .none } = (do pure (.value (← Instr.index t (ev n f x) (ev n f y)))) := rfl
    rw [h3, Sem.run_bind, hx, hy]
    show Result.andThen ((Instr.index t (.string ⟨a.toArray⟩) (.int k i)).run P w) _ = _
    rw [h2]
    rfl) h
theorem extract_mk (a : List UInt8) (l h : Nat) : (ByteArray.mk a.toArray).extract l h = ByteArray.mk ((a.take h).drop l).toArray := by
  apply ByteArray.ext
  simp [ByteArray.data_extract, List.drop_take]
end
/-! #### interfaces -/
theorem O.neqN0 (hx : ev n f x = .nilIface) {ms : Array (String × TypeId)} (ht : P.underlying t = some (.interface ms)) (h : O P n ops rest N Z (upd f d (.bool false)) w) :
    O P n ops ({ dst := some d, op := .binOp .neq t x (.const .nilIface) t', type := ty, pos := pos, after := after, guard := .none } :: rest) N Z f w :=
  O.val rfl rfl (by
    refine run_bin hx (y := .const .nilIface) rfl ?_ ?_ _ _
    · simp only [eqGuard, Bool.or_true]
      rfl
    · have h2 : binOp .neq t .nilIface .nilIface = (do pure (.bool (!(← Op.equal t .nilIface .nilIface)))) := rfl
      have h1 : (Op.equal t .nilIface .nilIface).run P w = .ok true w := by
        unfold Op.equal Op.maxDepth
        rw [Op.equalIn, Sem.run_bind, run_underlying ht]
        rfl
      show Sem.run P (binOp .neq t .nilIface .nilIface) w = _
      rw [h2, Sem.run_bind, h1]
      rfl) h
theorem O.neqN1 {te : TypeId} {v : Value} (hx : ev n f x = .iface te v) (hy : ev n f y = .nilIface) {ms : Array (String × TypeId)} (ht : P.underlying t = some (.interface ms)) (h : O P n ops rest N Z (upd f d (.bool true)) w) :
    O P n ops ({ dst := some d, op := .binOp .neq t x y t', type := ty, pos := pos, after := after, guard := .none } :: rest) N Z f w :=
  O.val rfl rfl (by
    refine run_bin hx hy ?_ ?_ _ _
    · simp only [eqGuard]
      rw [if_neg (by decide)]
      rfl
    · have h2 : binOp .neq t (.iface te v) .nilIface = (do pure (.bool (!(← Op.equal t (.iface te v) .nilIface)))) := by cases v <;> rfl
      have h1 : (Op.equal t (.iface te v) .nilIface).run P w = .ok false w := by
        unfold Op.equal Op.maxDepth
        rw [Op.equalIn, Sem.run_bind, run_underlying ht]
        rfl
      rw [h2, Sem.run_bind, h1]
      rfl) h
end
end Go.Pn
end
section
/-
  Memory: how worlds grow, how data lie in memory, and the operations that read it. No condition beyond what each rule asks.
-/
namespace Go.Pn
open Go.RowKit

/-- The world w' is w with new blocks, and with changes in the blocks of M alone. -/
structure Ext (M : Nat → Prop) (w w' : World) : Prop where
  os : w'.os = w.os
  tape : w'.tape = w.tape
  output : w'.output = w.output
  size : w.heap.size ≤ w'.heap.size
  block : ∀ k, k < w.heap.size → ¬ M k → w'.heap[k]? = w.heap[k]?
/-- The world w' is w with new blocks. -/
abbrev Le (w w' : World) : Prop := Ext (fun _ => False) w w'

theorem Ext.refl (M : Nat → Prop) (w : World) : Ext M w w := ⟨rfl, rfl, rfl, Nat.le_refl _, fun _ _ _ => rfl⟩
theorem Le.refl (w : World) : Le w w := Ext.refl _ w
theorem Ext.trans {M : Nat → Prop} {a b c : World} (h : Ext M a b) (k : Ext M b c) : Ext M a c :=
  ⟨k.os.trans h.os, k.tape.trans h.tape, k.output.trans h.output, Nat.le_trans h.size k.size, fun i hi hm => (k.block i (Nat.lt_of_lt_of_le hi h.size) hm).trans (h.block i hi hm)⟩
theorem Ext.mono {M M' : Nat → Prop} {a b : World} (h : Ext M a b) (hm : ∀ k, k < a.heap.size → M k → M' k) : Ext M' a b :=
  ⟨h.os, h.tape, h.output, h.size, fun i hi hn => h.block i hi fun hk => hn (hm i hi hk)⟩
theorem Le.to {M : Nat → Prop} {a b : World} (h : Le a b) : Ext M a b := h.mono fun _ _ h => h.elim
/-- Changes in new blocks are none of the old ones. -/
theorem Ext.new {M M' : Nat → Prop} {a b c : World} (h : Ext M a b) (k : Ext M' b c) (hm : ∀ i, i < a.heap.size → M' i → M i) : Ext M a c :=
  ⟨k.os.trans h.os, k.tape.trans h.tape, k.output.trans h.output, Nat.le_trans h.size k.size, fun i hi hn => (k.block i (Nat.lt_of_lt_of_le hi h.size) fun hk => hn (hm i hi hk)).trans (h.block i hi hn)⟩
theorem Le.trans {a b c : World} (h : Le a b) (k : Le b c) : Le a c := Ext.trans h k
theorem Le.below {a b : World} (h : Le a b) : Below a.heap.size a b := ⟨h.os, h.tape, h.output, h.size, fun i hi => h.block i hi not_false⟩
theorem Le.of_below {B : Nat} {a b : World} (h : Below B a b) (hB : a.heap.size ≤ B) : Le a b := ⟨h.os, h.tape, h.output, h.size, fun i hi _ => h.block i (Nat.lt_of_lt_of_le hi hB)⟩
theorem Le.drew (w : World) : Le w w.drew := ⟨rfl, rfl, rfl, Nat.le_refl _, fun _ _ _ => rfl⟩
theorem Le.drewN (w : World) (n : Nat) : Le w { w with drawn := w.drawn + n } := ⟨rfl, rfl, rfl, Nat.le_refl _, fun _ _ _ => rfl⟩
theorem Le.alloc (w : World) (o : Obj) : Le w (w.alloc o) := ⟨rfl, rfl, rfl, by simp, fun k hk _ => Below.heap_alloc _ _ _ hk⟩
theorem Ext.set (w : World) (a : Addr) (v : Value) : Ext (fun k => k = a.block) w (w.setCell a v) :=
  ⟨rfl, rfl, rfl, by simp, fun k _ hn => Below.heap_setCell _ _ _ _ hn⟩
theorem Ext.lt {M : Nat → Prop} {a b : World} (h : Ext M a b) {k : Nat} (hk : k < a.heap.size) : k < b.heap.size := Nat.lt_of_lt_of_le hk h.size

/-- A variable of one cell holds a value. -/
def CellIs (w : World) (b : Nat) (v : Value) : Prop := w.cell? ⟨b, 0, none⟩ = some v
theorem CellIs.lt {w : World} {b : Nat} {v : Value} (h : CellIs w b v) : b < w.heap.size := World.block_lt_of_cell? w _ h
theorem CellIs.keepM {M : Nat → Prop} {w w' : World} {b : Nat} {v : Value} (h : CellIs w b v) (e : Ext M w w') (hM : ¬ M b) : CellIs w' b v := by
  have := e.block b h.lt hM
  unfold CellIs at h ⊢
  rw [← h]
  simp only [World.cell?, this]
theorem CellIs.keep {w w' : World} {b : Nat} {v : Value} (h : CellIs w b v) (e : Le w w') : CellIs w' b v := h.keepM e not_false

/-- A way in which data lie in cells: how many cells, and which. F: the blocks that may be looked into. -/
structure Enc (α : Type) where
  sz : Nat
  rep : World → (Nat → Prop) → List Value → α → Prop
  len : ∀ {w F cs x}, rep w F cs x → cs.length = sz
  one : ∀ {w F cs x}, rep w F cs x → ∀ c ∈ cs, c.oneCell' = true
  ext : ∀ {w w' F cs x}, rep w F cs x → (∀ k, F k → k < w.heap.size → w'.heap[k]? = w.heap[k]?) → rep w' F cs x
  weak : ∀ {w F F' cs x}, rep w F cs x → (∀ k, F k → F' k) → rep w F' cs x

/-- Data that lie flat. -/
def Enc.flat {α : Type} (sz : Nat) (e : α → List Value) (hl : ∀ x, (e x).length = sz) (ho : ∀ x, ∀ c ∈ e x, c.oneCell' = true) : Enc α where
  sz := sz
  rep := fun _ _ cs x => cs = e x
  len := by rintro w F cs x rfl; exact hl x
  one := by rintro w F cs x rfl; exact ho x
  ext := fun h _ => h
  weak := fun h _ => h

/-- Cells from a place on hold data. -/
def At {α : Type} (E : Enc α) (w : World) (F : Nat → Prop) (a : Addr) (x : α) : Prop :=
  ∃ b off cur ty fr, a = ⟨b, off, none⟩ ∧ F b ∧ w.heap[b]? = some (.cells cur ty fr) ∧ off + E.sz ≤ cur.size ∧ E.rep w F ((cur.toList.drop off).take E.sz) x

/-- A slice holds data. -/
def Sl {α : Type} (E : Enc α) (w : World) (F : Nat → Prop) (v : Value) (xs : List α) : Prop :=
  xs.length ≤ maxLen ∧
  ((∃ a, v = .slice a 0 0 ∧ xs = []) ∨
   ∃ b off cap cur ty fr, v = .slice (some ⟨b, off, none⟩) xs.length cap ∧ F b ∧ w.heap[b]? = some (.cells cur ty fr) ∧ xs.length ≤ cap ∧ cap ≤ maxLen ∧ (0 < xs.length → off + cap * E.sz ≤ cur.size) ∧
     ∀ i (h : i < xs.length), E.rep w F ((cur.toList.drop (off + i * E.sz)).take E.sz) xs[i])

section
variable {α : Type} {E : Enc α} {w w' : World} {F F' : Nat → Prop} {v : Value} {xs : List α} {a : Addr} {x : α}

theorem lt_of_some {w : World} {b : Nat} {o : Obj} (h : w.heap[b]? = some o) : b < w.heap.size := (Array.getElem?_eq_some_iff.1 h).1
theorem At.ext (h : At E w F a x) (hw : ∀ k, F k → k < w.heap.size → w'.heap[k]? = w.heap[k]?) : At E w' F a x := by
  obtain ⟨b, off, cur, ty, fr, rfl, hF, hb, hs, hr⟩ := h
  exact ⟨b, off, cur, ty, fr, rfl, hF, (hw b hF (lt_of_some hb)).trans hb, hs, E.ext hr hw⟩
theorem At.keep (h : At E w F a x) (e : Le w w') : At E w' F a x := h.ext fun k _ hk => e.block k hk not_false
theorem At.keepM {M : Nat → Prop} (h : At E w F a x) (e : Ext M w w') (hM : ∀ k, F k → ¬ M k) : At E w' F a x := h.ext fun k hF hk => e.block k hk (hM k hF)
theorem At.weak (h : At E w F a x) (hF' : ∀ k, F k → F' k) : At E w F' a x := by
  obtain ⟨b, off, cur, ty, fr, rfl, hF, hb, hs, hr⟩ := h
  exact ⟨b, off, cur, ty, fr, rfl, hF' _ hF, hb, hs, E.weak hr hF'⟩
theorem Sl.ext (h : Sl E w F v xs) (hw : ∀ k, F k → k < w.heap.size → w'.heap[k]? = w.heap[k]?) : Sl E w' F v xs := by
  refine ⟨h.1, ?_⟩
  rcases h.2 with h | ⟨b, off, cap, cur, ty, fr, rfl, hF, hb, h1, h2, h3, hr⟩
  · exact .inl h
  · exact .inr ⟨b, off, cap, cur, ty, fr, rfl, hF, (hw b hF (lt_of_some hb)).trans hb, h1, h2, h3, fun i hi => E.ext (hr i hi) hw⟩
theorem Sl.weak (h : Sl E w F v xs) (hF' : ∀ k, F k → F' k) : Sl E w F' v xs := by
  refine ⟨h.1, ?_⟩
  rcases h.2 with h | ⟨b, off, cap, cur, ty, fr, rfl, hF, hb, h1, h2, h3, hr⟩
  · exact .inl h
  · exact .inr ⟨b, off, cap, cur, ty, fr, rfl, hF' _ hF, hb, h1, h2, h3, fun i hi => E.weak (hr i hi) hF'⟩
theorem Sl.keep (h : Sl E w F v xs) (e : Le w w') : Sl E w' F v xs := h.ext fun k _ hk => e.block k hk not_false
theorem Sl.keepM {M : Nat → Prop} (h : Sl E w F v xs) (e : Ext M w w') (hM : ∀ k, F k → ¬ M k) : Sl E w' F v xs := h.ext fun k hF hk => e.block k hk (hM k hF)
theorem Sl.le (h : Sl E w F v xs) : xs.length ≤ 9223372036854775807 := by have := h.1; unfold maxLen at this; omega
theorem Sl.nil (E : Enc α) (w : World) (F : Nat → Prop) : Sl E w F (.slice none 0 0) [] := ⟨by simp, .inl ⟨_, rfl, rfl⟩⟩
/-- The value of a slice: its length. -/
theorem Sl.val (h : Sl E w F v xs) : ∃ l cap, v = .slice l xs.length cap ∧ xs.length ≤ cap := by
  rcases h.2 with ⟨a0, rfl, rfl⟩ | ⟨b, off, cap, cur, ty, fr, rfl, _, _, h1, _⟩
  · exact ⟨_, _, rfl, Nat.le_refl _⟩
  · exact ⟨_, _, rfl, h1⟩
theorem Addr.add_none (b off k : Nat) : (⟨b, off, none⟩ : Addr).add k = ⟨b, off + k, none⟩ := by
  unfold Addr.add; split <;> simp_all
/-- An element of a slice. -/
theorem Sl.elem (h : Sl E w F v xs) {i : Nat} (hi : i < xs.length) : ∃ b off cap, v = .slice (some ⟨b, off, none⟩) xs.length cap ∧ At E w F ⟨b, off + i * E.sz, none⟩ xs[i] := by
  rcases h.2 with ⟨a0, rfl, rfl⟩ | ⟨b, off, cap, cur, ty, fr, rfl, hF, hb, h1, _, h3, hr⟩
  · simp at hi
  · refine ⟨b, off, cap, rfl, b, off + i * E.sz, cur, ty, fr, rfl, hF, hb, ?_, hr i hi⟩
    have : (i + 1) * E.sz ≤ cap * E.sz := Nat.mul_le_mul_right _ (by omega)
    rw [Nat.add_mul, Nat.one_mul] at this
    have h3 := h3 (by omega)
    omega
/-- The cell at a place that holds one. -/
theorem At.cell1 (h : At E w F a x) (h1 : E.sz = 1) : ∃ v, w.cell? a = some v ∧ E.rep w F [v] x := by
  obtain ⟨b, off, cur, ty, fr, rfl, hF, hb, hs, hr⟩ := h
  rw [h1] at hs hr
  have hlt : off < cur.size := by omega
  refine ⟨cur[off], ?_, ?_⟩
  · simp [World.cell?, hb, hlt]
  · have : (cur.toList.drop off).take 1 = [cur[off]] := by
      rw [List.drop_eq_getElem_cons (by simpa using hlt)]
      simp
    rwa [this] at hr
end

section
variable {P : Program} {n : Nat} {ops rest : List Oper} {N : Val → World → Prop} {Z : List PanicEntry → World → Prop} {f : Val} {w : World}
  {d : Nat} {x y : Operand} {t t' ty : TypeId} {pos : String} {after : Array Edge} {α : Type} {E : Enc α} {F : Nat → Prop}

/-- The address of an element of a slice. -/
theorem O.idx {e : TypeId} {i : Int} {s : Nat} {v : Value} {xs : List α} (ht : P.underlying t = some (.slice e)) (hsz : ∀ w, (sizeOf e).run P w = .ok s w) (hs : E.sz = s) (hx : ev n f x = v) (hv : Sl E w F v xs)
    (hy : ev n f y = i64 i) (hi : 0 ≤ i ∧ i < xs.length) (h : ∀ a, At E w F a (xs[i.toNat]'(by omega)) → O P n ops rest N Z (upd f d (.pointer (some a))) w) :
    O P n ops ({ dst := some d, op := .indexAddr t x y, type := ty, pos := pos, after := after, guard := .none } :: rest) N Z f w := by
  obtain ⟨b, off, cap, hval, hat⟩ := hv.elem (i := i.toNat) (by omega)
  refine O.val rfl rfl ?_ (h _ hat)
  have h3 : execOp (ev n f) { dst := some d, op := .indexAddr t x y, type := ty, pos := pos, after := after, guard := .none } = (do pure (.value (← Instr.indexAt t (ev n f x) (ev n f y)))) := rfl
  rw [h3, Sem.run_bind, hx, hy, hval]
  have h4 : (Instr.indexAt t (.slice (some ⟨b, off, none⟩) xs.length cap) (i64 i)).run P w = .ok (.pointer (some ⟨b, off + i.toNat * E.sz, none⟩)) w := by
    simp [Instr.indexAt, asIntOf, run_underlying ht, hi.1, hi.2, hsz, Addr.add_none, hs]
  rw [h4]
  rfl
/-- A load of one cell. -/
theorem O.load1 {a : Addr} {z : α} (hag : ∀ w, (isAgg t).run P w = .ok false w) (h1 : E.sz = 1) (hx : ev n f x = .pointer (some a)) (ha : At E w F a z)
    (h : ∀ v, E.rep w F [v] z → O P n ops rest N Z (upd f d v) w) :
    O P n ops ({ dst := some d, op := .load t x, type := ty, pos := pos, after := after, guard := .none } :: rest) N Z f w := by
  obtain ⟨v, hc, hr⟩ := ha.cell1 h1
  refine O.val rfl rfl ?_ (h v hr)
  have h3 : execOp (ev n f) { dst := some d, op := .load t x, type := ty, pos := pos, after := after, guard := .none } = (do pure (.value (← Instr.loadAt t (ev n f x)))) := rfl
  rw [h3, Sem.run_bind, hx]
  have h4 : (Instr.loadAt t (.pointer (some a))).run P w = .ok v w := by
    simp [Instr.loadAt, Instr.sureAddr, loadVar, hag, hc]
  rw [h4]
  rfl
/-- The length of a slice. -/
theorem O.len {e : TypeId} {v : Value} {xs : List α} (ht : P.underlying t = some (.slice e)) (hx : ev n f x = v) (hv : Sl E w F v xs) (h : O P n ops rest N Z (upd f d (i64 xs.length)) w) :
    O P n ops ({ dst := some d, op := .call { callee := .builtin .len, args := [x].toArray, argTypes := [t].toArray }, type := ty, pos := pos, after := after, guard := .none } :: rest) N Z f w := by
  obtain ⟨l, cap, hval, _⟩ := hv.val
  exact O.lenL ht (hx.trans hval) h
end

/-- Bytes. -/
def byteE : Enc UInt8 := Enc.flat 1 (fun x => [.int .u8 (x.toNat : Int)]) (fun _ => rfl) (by simp [Value.oneCell'])
section
variable {P : Program} {n : Nat} {ops rest : List Oper} {N : Val → World → Prop} {Z : List PanicEntry → World → Prop} {f : Val} {w : World}
  {d : Nat} {x y : Operand} {t t' ty : TypeId} {pos : String} {after : Array Edge} {F : Nat → Prop}
end
end Go.Pn
end
section
/-
  Memory that a call makes: blocks of its own, rows, what is appended. No condition beyond what each rule asks.
-/
namespace Go.Pn
open Go.RowKit

/-- A block of cells without a mark. -/
def Own0 (w : World) (b : Nat) (ty : TypeId) (cs : List Value) : Prop := w.heap[b]? = some (.cells cs.toArray ty (0, 0))
/-- A block of cells, none of them frozen. -/
def Own (w : World) (b : Nat) (ty : TypeId) (cs : List Value) : Prop := ∃ fr : Nat × Nat, w.heap[b]? = some (.cells cs.toArray ty fr) ∧ (fr = (0, 0) ∨ fr = (cs.length, cs.length + 1))

section
variable {w w' : World} {b : Nat} {ty : TypeId} {cs : List Value}
theorem Own0.own (h : Own0 w b ty cs) : Own w b ty cs := ⟨_, h, .inl rfl⟩
theorem Own0.lt (h : Own0 w b ty cs) : b < w.heap.size := lt_of_some h
theorem Own0.keepM {M : Nat → Prop} (h : Own0 w b ty cs) (e : Ext M w w') (hM : ¬ M b) : Own0 w' b ty cs := (e.block b (lt_of_some h) hM).trans h
theorem Own0.keep (h : Own0 w b ty cs) (e : Le w w') : Own0 w' b ty cs := h.keepM e not_false
theorem Own.lt (h : Own w b ty cs) : b < w.heap.size := by obtain ⟨fr, h, _⟩ := h; exact lt_of_some h
theorem Own.keepM {M : Nat → Prop} (h : Own w b ty cs) (e : Ext M w w') (hM : ¬ M b) : Own w' b ty cs := by
  obtain ⟨fr, h, h2⟩ := h; exact ⟨fr, (e.block b (lt_of_some h) hM).trans h, h2⟩
theorem Own.keep (h : Own w b ty cs) (e : Le w w') : Own w' b ty cs := h.keepM e not_false
theorem Own.cell (h : Own w b ty cs) {i : Nat} {v : Value} (hi : cs[i]? = some v) : w.cell? ⟨b, i, none⟩ = some v := by
  obtain ⟨fr, h, _⟩ := h
  unfold World.cell?
  rw [h]
  simpa using hi
theorem Own.free (h : Own w b ty cs) {i : Nat} (hi : i < cs.length) : w.frozen? ⟨b, i, none⟩ = false := by
  obtain ⟨fr, h, h2⟩ := h
  unfold World.frozen?
  rw [h]
  rcases h2 with rfl | rfl
  · simp
  · simp; omega
theorem heap_set (w : World) (b i : Nat) (v : Value) {cs : List Value} {ty : TypeId} {fr : Nat × Nat} (h : w.heap[b]? = some (.cells cs.toArray ty fr)) : (w.setCell ⟨b, i, none⟩ v).heap[b]? = some (.cells (cs.set i v).toArray ty fr) := by
  unfold World.setCell
  rw [Array.getElem?_modify, if_pos rfl, h]
  simp
theorem Own.set (h : Own w b ty cs) (i : Nat) (v : Value) : Own (w.setCell ⟨b, i, none⟩ v) b ty (cs.set i v) := by
  obtain ⟨fr, h, h2⟩ := h
  exact ⟨fr, heap_set w b i v h, by simpa using h2⟩
theorem Own0.set (h : Own0 w b ty cs) (i : Nat) (v : Value) : Own0 (w.setCell ⟨b, i, none⟩ v) b ty (cs.set i v) := heap_set w b i v h
theorem Own0.new (w : World) (ty : TypeId) (cs : List Value) : Own0 (w.alloc (.cells cs.toArray ty)) w.heap.size ty cs := by
  unfold Own0 World.alloc
  simp
end

/-- Data that lie flat, in some cells each. -/
structure Flat (α : Type) where
  sz : Nat
  e : α → List Value
  len : ∀ x, (e x).length = sz
  one : ∀ x, ∀ c ∈ e x, c.oneCell' = true
  pos : 0 < sz
def Flat.enc {α : Type} (E : Flat α) : Enc α := Enc.flat E.sz E.e E.len E.one
theorem Flat.length {α : Type} (E : Flat α) (xs : List α) : (xs.flatMap E.e).length = xs.length * E.sz := by
  induction xs with
  | nil => simp
  | cons x xs ih => simp [ih, E.len, Nat.add_mul, Nat.add_comm]
theorem Flat.seg {α : Type} (E : Flat α) (xs : List α) {i : Nat} (hi : i < xs.length) : ((xs.flatMap E.e).drop (i * E.sz)).take E.sz = E.e xs[i] := by
  induction xs generalizing i with
  | nil => simp at hi
  | cons x xs ih =>
    cases i with
    | zero =>
      simp only [Nat.zero_mul, List.drop_zero, List.flatMap_cons, List.getElem_cons_zero]
      rw [List.take_left' (E.len x)]
    | succ i =>
      have e1 : (i + 1) * E.sz = (E.e x).length + i * E.sz := by rw [E.len, Nat.add_mul]; omega
      rw [List.flatMap_cons, e1, List.drop_append, List.drop_eq_nil_of_le (by omega)]
      simp only [List.nil_append, Nat.add_sub_cancel_left, List.getElem_cons_succ]
      exact ih (by simpa using hi)
theorem Flat.ones {α : Type} (E : Flat α) (xs : List α) : ∀ c ∈ xs.flatMap E.e, c.oneCell' = true := by
  intro c hc
  obtain ⟨x, _, hx⟩ := List.mem_flatMap.1 hc
  exact E.one x c hx
/-- The cell of a flat list. -/
theorem Flat.get {α : Type} (E : Flat α) (xs : List α) {j : Nat} {u : Value} (h : (xs.flatMap E.e)[j]? = some u) : ∃ (hi : j / E.sz < xs.length), (E.e (xs[j / E.sz]))[j % E.sz]? = some u := by
  have hj : j < (xs.flatMap E.e).length := by
    rcases Nat.lt_or_ge j (xs.flatMap E.e).length with h' | h'
    · exact h'
    · rw [List.getElem?_eq_none h'] at h; cases h
  rw [E.length] at hj
  have hi : j / E.sz < xs.length := Nat.div_lt_of_lt_mul (by rw [Nat.mul_comm]; exact hj)
  refine ⟨hi, ?_⟩
  rw [← E.seg xs hi, List.getElem?_take, if_pos (Nat.mod_lt _ E.pos), List.getElem?_drop, Nat.mul_comm, Nat.div_add_mod]
  exact h

/-- Cells in a row hold data. -/
def Row {α : Type} (E : Enc α) (w : World) (F : Nat → Prop) (b off : Nat) (xs : List α) : Prop :=
  ∃ cur ty fr, F b ∧ w.heap[b]? = some (.cells cur ty fr) ∧ off + xs.length * E.sz ≤ cur.size ∧ ∀ i (h : i < xs.length), E.rep w F ((cur.toList.drop (off + i * E.sz)).take E.sz) xs[i]
section
variable {α : Type} {E : Enc α} {G : Flat α} {w w' : World} {F F' : Nat → Prop} {v : Value} {xs : List α} {b off : Nat} {ty : TypeId} {cs : List Value}
theorem Row.keep (h : Row E w F b off xs) (e : Le w w') : Row E w' F b off xs := by
  obtain ⟨cur, ty, fr, hF, hb, hs, hr⟩ := h
  exact ⟨cur, ty, fr, hF, (e.block b (lt_of_some hb) not_false).trans hb, hs, fun i hi => E.ext (hr i hi) fun k _ hk => e.block k hk not_false⟩
theorem Row.keepM {M : Nat → Prop} (h : Row E w F b off xs) (e : Ext M w w') (hM : ∀ k, F k → ¬ M k) : Row E w' F b off xs := by
  obtain ⟨cur, ty, fr, hF, hb, hs, hr⟩ := h
  exact ⟨cur, ty, fr, hF, (e.block b (lt_of_some hb) (hM b hF)).trans hb, hs, fun i hi => E.ext (hr i hi) fun k hF hk => e.block k hk (hM k hF)⟩
theorem Row.at (h : Row E w F b off xs) {i : Nat} (hi : i < xs.length) : At E w F ⟨b, off + i * E.sz, none⟩ xs[i] := by
  obtain ⟨cur, ty, fr, hF, hb, hs, hr⟩ := h
  refine ⟨b, off + i * E.sz, cur, ty, fr, rfl, hF, hb, ?_, hr i hi⟩
  have : (i + 1) * E.sz ≤ xs.length * E.sz := Nat.mul_le_mul_right _ (by omega)
  rw [Nat.add_mul, Nat.one_mul] at this
  omega
theorem Row.of_own (h : Own w b ty cs) (hcs : cs = xs.flatMap G.e) : Row G.enc w (fun k => k = b) b 0 xs := by
  obtain ⟨fr, hb, _⟩ := h
  refine ⟨_, ty, fr, rfl, hb, ?_, fun i hi => ?_⟩
  · simp [hcs, G.length, Flat.enc, Enc.flat]
  · show (_ : List Value) = G.e xs[i]
    simp only [hcs, Nat.zero_add]
    exact G.seg xs hi
theorem Sl.of_own {cap : Nat} (h : Own w b ty cs) (hcs : cs.take (xs.length * G.sz) = xs.flatMap G.e) (h1 : xs.length ≤ cap) (h2 : cap ≤ maxLen) (h3 : cap * G.sz ≤ cs.length) :
    Sl G.enc w (fun k => k = b) (.slice (some ⟨b, 0, none⟩) xs.length cap) xs := by
  obtain ⟨fr, hb, _⟩ := h
  refine ⟨by omega, .inr ⟨b, 0, cap, _, ty, fr, rfl, rfl, hb, h1, h2, ?_, fun i hi => ?_⟩⟩
  · intro _
    show 0 + cap * G.sz ≤ _
    simpa using h3
  · show (_ : List Value) = G.e xs[i]
    rw [← G.seg xs hi, ← hcs]
    show ((cs.drop (0 + i * G.sz)).take G.sz) = ((cs.take (xs.length * G.sz)).drop (i * G.sz)).take G.sz
    rw [Nat.zero_add, List.drop_take, List.take_take, Nat.min_eq_left]
    have : (i + 1) * G.sz ≤ xs.length * G.sz := Nat.mul_le_mul_right _ (by omega)
    rw [Nat.add_mul, Nat.one_mul] at this
    omega
/-- The cells of a slice of flat data. -/
theorem Sl.flat (h : Sl G.enc w F v xs) : (∃ a, v = .slice a 0 0 ∧ xs = []) ∨ ∃ b off cap, F b ∧ v = .slice (some ⟨b, off, none⟩) xs.length cap ∧ xs.length ≤ cap ∧ b < w.heap.size ∧ ∀ j u, (xs.flatMap G.e)[j]? = some u → w.cell? ⟨b, off + j, none⟩ = some u := by
  rcases h.2 with h | ⟨b, off, cap, cur, ty, fr, rfl, hF, hb, h1, h2, h3, hr⟩
  · exact .inl h
  · refine .inr ⟨b, off, cap, hF, rfl, h1, lt_of_some hb, fun j u hu => ?_⟩
    obtain ⟨hi, hu⟩ := G.get xs hu
    have hseg : (cur.toList.drop (off + (j / G.sz) * G.sz)).take G.sz = G.e (xs[j / G.sz]) := hr _ hi
    rw [← hseg, List.getElem?_take, if_pos (Nat.mod_lt _ G.pos), List.getElem?_drop, Nat.add_assoc, Nat.mul_comm, Nat.div_add_mod] at hu
    simp only [World.cell?, hb, Option.isSome_none, Bool.false_eq_true, if_false]
    simpa using hu
end

/-- A slice that the call owns: nobody else writes behind its elements. -/
def OwnF {α : Type} (G : Flat α) (ty : TypeId) (B : Nat) (w : World) (v : Value) (xs : List α) : Prop := w.ownsRow B ty G.sz v xs.length (xs.flatMap G.e) ∧ xs.length ≤ maxLen
/-- The block of a slice. -/
def bk : Value → Nat → Prop
  | .slice (some a) _ _, k => k = a.block
  | _, _ => False
section
variable {α : Type} {G : Flat α} {w w' : World} {F : Nat → Prop} {v : Value} {xs ys : List α} {b B : Nat} {ty : TypeId} {cs : List Value}
theorem OwnF.nil (G : Flat α) (ty : TypeId) (B : Nat) (w : World) : OwnF G ty B w (.slice none 0 0) [] := ⟨World.ownsRow_nil _ _ _ _, by simp⟩
theorem OwnF.bk_ge (h : OwnF G ty B w v xs) : ∀ k, bk v k → B ≤ k ∧ k < w.heap.size := by
  intro k hk
  cases v with
  | slice a n c =>
    cases a with
    | none => exact hk.elim
    | some a => simp only [bk] at hk; subst hk; exact h.1.lt _ rfl
  | _ => exact hk.elim
theorem OwnF.sl (h : OwnF G ty B w v xs) : Sl G.enc w (bk v) v xs := by
  refine ⟨h.2, ?_⟩
  rcases h.1.2 with ⟨rfl, h0⟩ | ⟨g, cap, cur, rfl, hb, hg, hn, hm, hs, ht⟩
  · exact .inl ⟨_, rfl, List.eq_nil_of_length_eq_zero h0⟩
  · refine .inr ⟨g, 0, cap, cur, ty, (0, 0), rfl, rfl, hg, hn, hm, ?_, fun i hi => ?_⟩
    · intro _
      show 0 + cap * G.sz ≤ _
      omega
    · show (_ : List Value) = G.e xs[i]
      rw [← G.seg xs hi, ← ht]
      show ((cur.toList.drop (0 + i * G.sz)).take G.sz) = ((cur.toList.take (xs.length * G.sz)).drop (i * G.sz)).take G.sz
      rw [Nat.zero_add, List.drop_take, List.take_take, Nat.min_eq_left]
      have : (i + 1) * G.sz ≤ xs.length * G.sz := Nat.mul_le_mul_right _ (by omega)
      rw [Nat.add_mul, Nat.one_mul] at this
      omega
theorem OwnF.keepM {M : Nat → Prop} (h : OwnF G ty B w v xs) (e : Ext M w w') (hM : ∀ k, bk v k → ¬ M k) : OwnF G ty B w' v xs := by
  refine ⟨⟨h.1.1, ?_⟩, h.2⟩
  rcases h.1.2 with hn | ⟨g, cap, cur, rfl, hb, hg, rest⟩
  · exact .inl hn
  · exact .inr ⟨g, cap, cur, rfl, hb, (e.block g (lt_of_some hg) (hM g rfl)).trans hg, rest⟩
theorem OwnF.keep (h : OwnF G ty B w v xs) (e : Le w w') : OwnF G ty B w' v xs := h.keepM e fun _ _ => not_false
theorem OwnF.low {B' : Nat} (h : OwnF G ty B w v xs) (hB : B' ≤ B) : OwnF G ty B' w v xs := by
  refine ⟨⟨h.1.1, ?_⟩, h.2⟩
  rcases h.1.2 with hn | ⟨g, cap, cur, rfl, hb, rest⟩
  · exact .inl hn
  · exact .inr ⟨g, cap, cur, rfl, Nat.le_trans hB hb, rest⟩
theorem ext_of_grown {row : Option Nat} (h : w.grownBy w' row) : Ext (fun k => row = some k) w w' :=
  ⟨h.os, h.tape, h.output, h.size, fun k hk hn => h.block k hk fun e => hn e.symm⟩

theorem run_append_flat {P : Program} {t tr : TypeId} {i : TypeInfo} {z y : Value} (ht : P.underlying t = some (.slice ty)) (hi : P.info? ty = some i) (hz : i.zero = some z) (hsz : i.size = G.sz) (hzs : z.cells.size = G.sz)
    (hown : OwnF G ty B w v xs) (hy : Sl G.enc w F y ys) (hb : (xs.length + ys.length) * i.bytes ≤ 140737488355328) (hl : xs.length + ys.length ≤ maxLen) (hB : B ≤ w.heap.size) :
    ∃ v' w', (Builtin.append_ #[t, t] tr #[v, y]).run P w = .ok v' w' ∧ OwnF G ty B w' v' (xs ++ ys) ∧ Ext (bk v) w w' := by
  have hsome : (∃ a0, y = .slice a0 0 0 ∧ ys = [] ∧ a0 = none) ∨ ∃ a cap, y = .slice (some a) ys.length cap ∧ ∀ j u, (ys.flatMap G.e)[j]? = some u → w.cell? (a.add j) = some u := by
    rcases hy.flat with ⟨a0, rfl, rfl⟩ | ⟨b, off, cap, hF, rfl, hc, hlt, hcell⟩
    · cases a0 with
      | none => exact .inl ⟨none, rfl, rfl, rfl⟩
      | some a => exact .inr ⟨a, 0, rfl, fun j u hu => by simp at hu⟩
    · exact .inr ⟨⟨b, off, none⟩, cap, rfl, fun j u hu => by rw [Addr.add_none]; exact hcell j u hu⟩
  rcases hsome with ⟨a0, rfl, rfl, rfl⟩ | ⟨a, cap, rfl, hcell⟩
  · refine ⟨v, w, run_append_owned_none (P := P) (w := w) B t tr ty i G.sz ht hi v xs.length _ hown.1, by simpa using hown, Ext.refl _ _⟩
  · obtain ⟨v', w', hr, ho, hg, _⟩ := run_append_own (P := P) w B t tr ty i z G.sz i.bytes ht hi hz hsz rfl hzs G.pos v xs.length _ hown.1 a ys.length cap (ys.flatMap G.e) (G.length ys)
      hcell (G.ones ys) hl hb hB
    refine ⟨v', w', hr, ⟨?_, by simpa using hl⟩, (ext_of_grown hg).mono fun k _ hk => ?_⟩
    · rw [List.flatMap_append, List.length_append]; exact ho
    · cases v with
      | slice a n c =>
        cases a with
        | none => simp [Value.ownBlock] at hk
        | some a => simp only [Value.ownBlock, Option.some.injEq] at hk; exact hk.symm
      | _ => simp [Value.ownBlock] at hk
end

def byteF : Flat UInt8 := ⟨1, fun x => [.int .u8 (x.toNat : Int)], fun _ => rfl, by simp [Value.oneCell'], by decide⟩
theorem byteF_map (l : List UInt8) : l.flatMap byteF.e = l.map fun x => Value.int .u8 (x.toNat : Int) := by
  induction l with
  | nil => rfl
  | cons a l ih => rw [List.flatMap_cons, ih]; rfl
section
variable {P : Program} {n : Nat} {ops rest : List Oper} {N : Val → World → Prop} {Z : List PanicEntry → World → Prop} {f : Val} {w : World}
  {d : Nat} {x y : Operand} {t t' ty tr e : TypeId} {pos : String} {after : Array Edge} {α : Type} {E : Enc α} {G : Flat α} {F : Nat → Prop}

/-- A new variable, with its zero value. -/
theorem O.alloc {z : Value} (hz : ∀ w, (zeroValue e).run P w = .ok z w)
    (h : ∀ b w', w.heap.size ≤ b → Own0 w' b e z.cells.toList → Le w w' → O P n ops rest N Z (upd f d (.pointer (some ⟨b, 0, none⟩))) w') :
    O P n ops ({ dst := some d, op := .alloc e, type := tr, pos := pos, after := after, guard := .none } :: rest) N Z f w := by
  refine O.val rfl rfl ?_ (h w.heap.size (w.alloc (.cells z.cells e)) (Nat.le_refl _) (by simpa using Own0.new w e z.cells.toList) (Le.alloc _ _))
  have h3 : execOp (ev n f) { dst := some d, op := .alloc e, type := tr, pos := pos, after := after, guard := .none } = (do pure (.value (← Instr.alloc e true (.tuple #[])))) := rfl
  rw [h3, Sem.run_bind]
  have h4 : (Instr.alloc e true (.tuple #[])).run P w = .ok (.pointer (some ⟨w.heap.size, 0, none⟩)) (w.alloc (.cells z.cells e)) := by
    unfold Instr.alloc
    rw [Sem.run_bind, hz]
    rfl
  rw [h4]
  rfl
/-- A new variable with a value. -/
theorem O.box {v : Value} (hx : ev n f x = v)
    (h : ∀ b w', w.heap.size ≤ b → Own0 w' b e v.cells.toList → Le w w' → O P n ops rest N Z (upd f d (.pointer (some ⟨b, 0, none⟩))) w') :
    O P n ops ({ dst := some d, op := .box e x, type := tr, pos := pos, after := after, guard := .none } :: rest) N Z f w := by
  refine O.val rfl rfl ?_ (h w.heap.size (w.alloc (.cells v.cells e)) (Nat.le_refl _) (by simpa using Own0.new w e v.cells.toList) (Le.alloc _ _))
  have h3 : execOp (ev n f) { dst := some d, op := .box e x, type := tr, pos := pos, after := after, guard := .none } = (do pure (.value (← Instr.box e (ev n f x)))) := rfl
  rw [h3, Sem.run_bind, hx]
  rfl
/-- The address of an element of an array that lies in memory. -/
theorem O.idxA {k : IntKind} {len s b o : Nat} {i : Int} (ht : P.underlying t = some (.array len e)) (hsz : ∀ w, (sizeOf e).run P w = .ok s w) (hx : ev n f x = .pointer (some ⟨b, o, none⟩)) (hy : ev n f y = .int k i) (hi : 0 ≤ i ∧ i < len)
    (h : O P n ops rest N Z (upd f d (.pointer (some ⟨b, o + i.toNat * s, none⟩))) w) :
    O P n ops ({ dst := some d, op := .indexAddr t x y, type := tr, pos := pos, after := after, guard := .none } :: rest) N Z f w := by
  refine O.val rfl rfl ?_ h
  have h3 : execOp (ev n f) { dst := some d, op := .indexAddr t x y, type := tr, pos := pos, after := after, guard := .none } = (do pure (.value (← Instr.indexAt t (ev n f x) (ev n f y)))) := rfl
  rw [h3, Sem.run_bind, hx, hy]
  have h4 : (Instr.indexAt t (.pointer (some ⟨b, o, none⟩)) (.int k i)).run P w = .ok (.pointer (some ⟨b, o + i.toNat * s, none⟩)) w := by
    simp [Instr.indexAt, Instr.sureAddr, asIntOf, run_underlying ht, hi.1, hi.2, hsz, Addr.add_none]
  rw [h4]
  rfl
/-- A store into one cell of a block of the call's own. -/
theorem O.store {b o : Nat} {cs : List Value} {v : Value} (hsz : ∀ w, (sizeOf t).run P w = .ok 1 w) (hx : ev n f x = .pointer (some ⟨b, o, none⟩)) (hy : ev n f y = v) (h1 : v.oneCell' = true) (ho : Own w b ty cs) (hlt : o < cs.length)
    (h : ∀ w', Own w' b ty (cs.set o v) → Ext (fun k => k = b) w w' → w'.heap.size = w.heap.size → O P n ops rest N Z f w') :
    O P n ops ({ dst := .none, op := .store t x y, type := tr, pos := pos, after := after, guard := .none } :: rest) N Z f w := by
  refine O.act rfl rfl ?_ (h (w.setCell ⟨b, o, none⟩ v) (ho.set o v) (Ext.set w ⟨b, o, none⟩ v) (by simp))
  have h3 : execOp (ev n f) { dst := .none, op := .store t x y, type := tr, pos := pos, after := after, guard := .none } = (do Instr.storeAt t (ev n f x) (ev n f y); pure .skip) := rfl
  rw [h3, Sem.run_bind, hx, hy]
  have hcells : v.cells = #[v] := by cases v <;> first | rfl | simp [Value.oneCell'] at h1
  have hc := ho.cell (i := o) (v := cs[o]) (by simp)
  have hf := ho.free hlt
  have h4 : (Instr.storeAt t (.pointer (some ⟨b, o, none⟩)) v).run P w = .ok () (w.setCell ⟨b, o, none⟩ v) := by
    simp [Instr.storeAt, Instr.sureAddr, storeVar, hsz, hcells, storeCells, Addr.add, run_store P w ⟨b, o, none⟩ v .plain h1, hc, hf]
  rw [h4]
  rfl
/-- A load of one cell of a block of the call's own. -/
theorem O.loadO {b o : Nat} {cs : List Value} {v : Value} (hag : ∀ w, (isAgg t).run P w = .ok false w) (hx : ev n f x = .pointer (some ⟨b, o, none⟩)) (ho : Own w b ty cs) (hv : cs[o]? = some v) (h : O P n ops rest N Z (upd f d v) w) :
    O P n ops ({ dst := some d, op := .load t x, type := tr, pos := pos, after := after, guard := .none } :: rest) N Z f w := by
  refine O.val rfl rfl ?_ h
  have h3 : execOp (ev n f) { dst := some d, op := .load t x, type := tr, pos := pos, after := after, guard := .none } = (do pure (.value (← Instr.loadAt t (ev n f x)))) := rfl
  rw [h3, Sem.run_bind, hx]
  have h4 : (Instr.loadAt t (.pointer (some ⟨b, o, none⟩))).run P w = .ok v w := by
    simp [Instr.loadAt, Instr.sureAddr, loadVar, hag, ho.cell hv]
  rw [h4]
  rfl
/-- A slice literal. -/
theorem O.lit {len : Nat} {parts : List (Nat × Operand)} {vs : List (Nat × Value)} {cells : Array Value} {ie : TypeInfo} {z : Value} (hu : P.underlying t = some (.slice e)) (hie : P.info? e = some ie) (hz : ie.zero = some z) (hsmall : ¬ len * ie.size > 2 ^ 24) (hpos : ¬ len * ie.size = 0)
    (hvs : parts.map (fun x => (x.1, ev n f x.2)) = vs)
    (hf : Instr.fill (fun i => some (i * ie.size, ie.size)) ((Array.range (len * ie.size)).map (z.cells[· % z.cells.size]!)) vs = some cells)
    (h : ∀ b w', w.heap.size ≤ b → Own0 w' b e cells.toList → Le w w' → O P n ops rest N Z (upd f d (.slice (some ⟨b, 0, none⟩) len len)) w') :
    O P n ops ({ dst := some d, op := .buildSlice t len parts.toArray, type := tr, pos := pos, after := after, guard := .none } :: rest) N Z f w := by
  refine O.val rfl rfl ?_ (h w.heap.size (w.alloc (.cells cells e)) (Nat.le_refl _) (by simpa using Own0.new w e cells.toList) (Le.alloc _ _))
  have h3 : execOp (ev n f) { dst := some d, op := .buildSlice t len parts.toArray, type := tr, pos := pos, after := after, guard := .none } = (do pure (.value (← Instr.buildSlice t len (parts.toArray.map fun x => (x.1, ev n f x.2))))) := rfl
  rw [h3, Sem.run_bind, run_buildSlice w t e len _ cells ie z hu hie hz hsmall hpos (by simpa [hvs] using hf)]
  rfl
/-- []byte(s). -/
theorem O.strB {l : List UInt8} (ht : P.underlying t = some .string) (ht' : P.underlying t' = some (.slice e)) (he : P.underlying e = some (.int .u8)) (hx : ev n f x = str l) (hl : l.length ≤ maxLen)
    (h : ∀ b cap w', w.heap.size ≤ b → l.length ≤ cap → Own w' b e (l.flatMap byteF.e ++ List.replicate (cap - l.length) (.int .u8 0)) → Sl byteE w' (fun k => k = b) (.slice (some ⟨b, 0, none⟩) l.length cap) l → Le w w' →
      O P n ops rest N Z (upd f d (.slice (some ⟨b, 0, none⟩) l.length cap)) w') :
    O P n ops ({ dst := some d, op := .convert t t' x, type := tr, pos := pos, after := after, guard := .none } :: rest) N Z f w := by
  have hsz : ByteArray.size ⟨l.toArray⟩ = l.length := by simp [ByteArray.size]
  obtain ⟨cap, hcap⟩ : ∃ cap, cap = (Question.appendCap l.length 0 e).cut (w.tape w.drawn (.appendCap l.length 0 e)) := ⟨_, rfl⟩
  have hc1 : l.length ≤ cap := by rw [hcap]; exact Nat.le_add_right _ _
  have hc2 : cap ≤ maxLen := by
    rw [hcap]
    have hlt := Nat.mod_lt (w.tape w.drawn (.appendCap l.length 0 e)) (show 0 < 2 ^ 63 - l.length by simp only [maxLen] at hl; omega)
    simp only [Question.cut, maxLen] at hl ⊢
    omega
  let cs : List Value := l.flatMap byteF.e ++ List.replicate (cap - l.length) (.int .u8 0)
  have hcs : cs.length = cap := by
    show (l.flatMap byteF.e ++ List.replicate (cap - l.length) (Value.int .u8 0)).length = cap
    rw [List.length_append, byteF.length, List.length_replicate]
    show l.length * 1 + _ = _
    omega
  let w1 : World := { w with drawn := w.drawn + 1 }
  let w2 : World := w1.alloc (.cells cs.toArray e)
  have hb2 : w2.heap[w.heap.size]? = some (.cells cs.toArray e) := by show (w.heap.push _)[w.heap.size]? = _; simp
  have hsh : w2.shape? w.heap.size = some (e, cs.length) := by simp [World.shape?, hb2]
  have harr : (Array.map (fun b : UInt8 => Value.int .u8 (b.toNat : Int)) l.toArray ++ Array.replicate (cap - l.length) (Value.int .u8 0)) = cs.toArray := by
    apply Array.toList_inj.1
    simp only [Array.toList_append, Array.toList_map, Array.toList_replicate]
    show _ = l.flatMap byteF.e ++ List.replicate (cap - l.length) (.int .u8 0)
    rw [byteF_map]
  have hconv : (Conv.stringToBytes e ⟨l.toArray⟩).run P w = .ok (.slice (some ⟨w.heap.size, 0, none⟩) l.length cap) (w2.freeze ⟨w.heap.size, cs.length, none⟩ 1) := by
    unfold Conv.stringToBytes
    rw [Sem.run_bind, run_choose, if_neg (by simp [Question.forced]), hsz, Result.andThen_ok, ← hcap]
    show Sem.run P (do let a ← newRow e (Array.map (fun b : UInt8 => Value.int .u8 (b.toNat : Int)) l.toArray ++ Array.replicate (cap - l.length) (.int .u8 0)); markStringish a; pure (Value.slice (some a) l.length cap)) w1 = _
    rw [harr, Sem.run_bind]
    have hn : (newRow e cs.toArray).run P w1 = .ok ⟨w.heap.size, 0, none⟩ w2 := rfl
    rw [hn, Result.andThen_ok, Sem.run_bind]
    have hm : (markStringish ⟨w.heap.size, 0, none⟩).run P w2 = .ok () (w2.freeze ⟨w.heap.size, cs.length, none⟩ 1) := by
      simp [markStringish, hsh]
    rw [hm, Result.andThen_ok]
    rfl
  have hblk : (w2.freeze ⟨w.heap.size, cs.length, none⟩ 1).heap[w.heap.size]? = some (.cells cs.toArray e (cs.length, cs.length + 1)) := by
    unfold World.freeze
    rw [if_neg (by decide)]
    show (w2.heap.modify w.heap.size _)[w.heap.size]? = _
    rw [Array.getElem?_modify, if_pos rfl, hb2]
    simp
  have hown : Own (w2.freeze ⟨w.heap.size, cs.length, none⟩ 1) w.heap.size e cs := ⟨_, hblk, .inr rfl⟩
  have hle : Le w (w2.freeze ⟨w.heap.size, cs.length, none⟩ 1) := by
    refine ⟨rfl, rfl, rfl, ?_, fun k hk _ => ?_⟩
    · simp [World.freeze, w2, w1]
    · unfold World.freeze
      rw [if_neg (by decide)]
      show (w2.heap.modify w.heap.size _)[k]? = _
      rw [Array.getElem?_modify, if_neg (by omega)]
      show (w.heap.push _)[k]? = _
      rw [Array.getElem?_push, if_neg (by omega)]
  refine O.val rfl rfl (w' := w2.freeze ⟨w.heap.size, cs.length, none⟩ 1) ?_ (h w.heap.size cap _ (Nat.le_refl _) hc1 hown ?_ hle)
  · have h3 : execOp (ev n f) { dst := some d, op := .convert t t' x, type := tr, pos := pos, after := after, guard := .none } = (do pure (.value (← convert t t' (ev n f x)))) := rfl
    have h4 : (convert t t' (str l)).run P w = (Conv.stringToBytes e ⟨l.toArray⟩).run P w := by
      unfold convert
      rw [Sem.run_bind, run_underlying ht, Result.andThen_ok, Sem.run_bind, run_underlying ht', Result.andThen_ok]
      simp only [str]
      rw [Sem.run_bind, run_underlying he, Result.andThen_ok]
    rw [h3, Sem.run_bind, hx, h4, hconv]
    rfl
  · refine Sl.of_own (G := byteF) hown ?_ hc1 hc2 ?_
    · rw [← byteF.length l]
      exact List.take_left
    · show cap * 1 ≤ cs.length
      omega
/-- append, onto a slice of the call's own, of flat data. -/
theorem O.appF {i : TypeInfo} {z v v2 : Value} {xs ys : List α} {B : Nat} (ht : P.underlying t = some (.slice e)) (hi : P.info? e = some i) (hz : i.zero = some z) (hsz : i.size = G.sz) (hzs : z.cells.size = G.sz)
    (hx : ev n f x = v) (hy : ev n f y = v2) (hown : OwnF G e B w v xs) (hv2 : Sl G.enc w F v2 ys) (hb : (xs.length + ys.length) * i.bytes ≤ 140737488355328) (hl : xs.length + ys.length ≤ maxLen) (hB : B ≤ w.heap.size)
    (h : ∀ v' w', OwnF G e B w' v' (xs ++ ys) → Ext (bk v) w w' → O P n ops rest N Z (upd f d v') w') :
    O P n ops ({ dst := some d, op := .call { callee := .builtin .append, args := [x, y].toArray, argTypes := [t, t].toArray }, type := tr, pos := pos, after := after, guard := .none } :: rest) N Z f w := by
  obtain ⟨v', w', hr, ho, he⟩ := run_append_flat (P := P) (tr := tr) ht hi hz hsz hzs hown hv2 hb hl hB
  refine O.val rfl rfl ?_ (h v' w' ho he)
  have h3 : (execOp (ev n f) { dst := some d, op := .call { callee := .builtin .append, args := [x, y].toArray, argTypes := [t, t].toArray }, type := tr, pos := pos, after := after, guard := .none }).run P w = ((Builtin.append_ #[t, t] tr #[ev n f x, ev n f y]).run P w).andThen (fun v w => .ok (.value v) w) := by
    simp [execOp, resolve, invoke, builtin]
  rw [h3, hx, hy, hr]
  rfl
/-- s[lo:hi] of a string. -/
theorem O.subS {l : List UInt8} {lo hi : Int} {ol oh : Option Operand} (ht : P.underlying t = some .string) (hx : ev n f x = str l)
    (hlo : (ol = .none ∧ lo = 0) ∨ ∃ o k, ol = some o ∧ ev n f o = .int k lo) (hhi : (oh = .none ∧ hi = l.length) ∨ ∃ o k, oh = some o ∧ ev n f o = .int k hi) (hb : 0 ≤ lo ∧ lo ≤ hi ∧ hi ≤ l.length)
    (h : O P n ops rest N Z (upd f d (str ((l.take hi.toNat).drop lo.toNat))) w) :
    O P n ops ({ dst := some d, op := .slice t x ol oh .none, type := tr, pos := pos, after := after, guard := .none } :: rest) N Z f w := by
  refine O.val rfl rfl ?_ h
  have h3 : execOp (ev n f) { dst := some d, op := .slice t x ol oh .none, type := tr, pos := pos, after := after, guard := .none } = (do pure (.value (← Instr.sliceAt t (ev n f x) (ol.map (ev n f)) (oh.map (ev n f)) .none))) := rfl
  have hsz : ByteArray.size ⟨l.toArray⟩ = l.length := by simp [ByteArray.size]
  have hbl : ∀ (k : IntKind) (x : Int) (y : Nat) (c : BoundsCode), 0 ≤ x → x ≤ y → (Instr.sliceBound (.int k x) y c).run P w = .ok x.toNat w := by
    intro k x y c h0 h1
    simp [Instr.sliceBound, asIntOf, h0, h1]
  have h4 : (Instr.sliceAt t (str l) (ol.map (ev n f)) (oh.map (ev n f)) .none).run P w = .ok (str ((l.take hi.toNat).drop lo.toNat)) w := by
    have hh2 : ∀ r : Nat, r = hi.toNat → (match (oh.map (ev n f)) with | some v => Instr.sliceBound v l.length .sliceAlen | .none => pure l.length : Sem Nat).run P w = .ok hi.toNat w := by
      intro r _
      rcases hhi with ⟨rfl, rfl⟩ | ⟨o, k, rfl, ho⟩
      · simp
      · simp only [Option.map_some, ho]; exact hbl _ hi l.length _ (by omega) hb.2.2
    have hl2 : (match (ol.map (ev n f)) with | some v => Instr.sliceBound v hi.toNat .sliceB | .none => pure 0 : Sem Nat).run P w = .ok lo.toNat w := by
      rcases hlo with ⟨rfl, rfl⟩ | ⟨o, k, rfl, ho⟩
      · simp
      · simp only [Option.map_some, ho]; exact hbl _ lo hi.toNat _ hb.1 (by omega)
    unfold Instr.sliceAt
    rw [Sem.run_bind, run_underlying ht, Result.andThen_ok]
    simp only [Instr.slice]
    rw [Sem.run_bind, run_underlying ht, Result.andThen_ok]
    simp only [str, hsz, Option.isSome_none, Bool.false_eq_true, if_false, Instr.sliceBounds]
    rcases hhi with ⟨rfl, rfl⟩ | ⟨o, k, rfl, ho⟩ <;> rcases hlo with ⟨rfl, rfl⟩ | ⟨o', k', rfl, ho'⟩ <;>
      simp_all [extract_mk]
  rw [h3, Sem.run_bind, hx, h4]
  rfl
end
/-- A part of a block, as a slice. -/
theorem Own.part {α : Type} {G : Flat α} {w : World} {b : Nat} {ty : TypeId} {cs : List Value} {xs : List α} {off cap : Nat} (h : Own w b ty cs) (hcs : (cs.drop off).take (xs.length * G.sz) = xs.flatMap G.e) (h1 : xs.length ≤ cap) (h2 : cap ≤ maxLen) (h3 : off + cap * G.sz ≤ cs.length) :
    Sl G.enc w (fun k => k = b) (.slice (some ⟨b, off, none⟩) xs.length cap) xs := by
  obtain ⟨fr, hb, _⟩ := h
  refine ⟨by omega, .inr ⟨b, off, cap, _, ty, fr, rfl, rfl, hb, h1, h2, ?_, fun i hi => ?_⟩⟩
  · intro _
    show off + cap * G.sz ≤ _
    simpa using h3
  · show (_ : List Value) = G.e xs[i]
    rw [← G.seg xs hi, ← hcs]
    show ((cs.drop (off + i * G.sz)).take G.sz) = (((cs.drop off).take (xs.length * G.sz)).drop (i * G.sz)).take G.sz
    rw [List.drop_take, List.take_take, List.drop_drop, Nat.min_eq_left]
    have : (i + 1) * G.sz ≤ xs.length * G.sz := Nat.mul_le_mul_right _ (by omega)
    rw [Nat.add_mul, Nat.one_mul] at this
    omega
end Go.Pn
end
section
/-
  FROM A WALK TO A ROW: what the row's condition gives a walk, and what a walk that changes no old block gives the row. Of no program.
-/
namespace Go.Pn
open Go.ChangeShapes Go.WideShapes Go.ChangeAt Go.RowKit
section
variable {H : Type} {enc : TypeId × Value → H} {P : Program} {W W' : World}
theorem kept_of_le (e : Le W W') (may : MemPlace → Prop) : W.keptBut W' may := by
  refine ⟨e.os, e.output, fun i hi => ?_⟩
  rw [e.block i hi not_false]
  cases h : W.heap[i]? with
  | none => rfl
  | some o => cases o <;> first | exact ⟨rfl, rfl, rfl, fun _ _ => rfl⟩ | exact .inr ⟨rfl, rfl⟩ | rfl
theorem frozen_of_le (e : Le W W') {a : Addr} (h : a.block < W.heap.size) : W'.frozen? a = W.frozen? a := by
  unfold World.frozen?
  rw [e.block _ h not_false]
theorem same_of_le (e : Le W W') {p : MemPlace} (h : p.block < W.heap.size) : W.sameAt W' p := by
  cases p with
  | cell b off => show W'.cell? _ = W.cell? _; unfold World.cell?; rw [e.block b h not_false]
  | map b => exact e.block b h not_false
theorem args_of_le (hl : laidOutB P = true) (e : Le W W') {sp : Nat → Bool} : ∀ {ts : List TypeId} {vs : List Value} {ds : List (DataW H)} {ps : List MemPlace},
    (ts.all fun t => P.readableRec t && decide (t < P.types.size)) = true → DataW.TrodAll enc P W 0 (fun _ => true) true ts vs ds ps → (∀ p ∈ ps, p.block < W.heap.size ∧ sp p.block = true) → DataW.TrodAll enc P W' 0 sp true ts vs ds ps
  | [], [], [], _, _, h, _ => h
  | [], [], _ :: _, _, _, h, _ => h.elim
  | [], _ :: _, [], _, _, h, _ => h.elim
  | [], _ :: _, _ :: _, _, _, h, _ => h.elim
  | _ :: _, [], [], _, _, h, _ => h.elim
  | _ :: _, [], _ :: _, _, _, h, _ => h.elim
  | _ :: _, _ :: _, [], _, _, h, _ => h.elim
  | _ :: _, _ :: _, _ :: _, _, ht, ⟨p, q, h1, h2, e1⟩, hs => by
    simp only [List.all_cons, Bool.and_eq_true, decide_eq_true_eq] at ht
    subst e1
    refine ⟨p, q, WideElems.Trod_stays hl ht.1.1 ht.1.2 h1 (fun x hx => same_of_le e (hs x (List.mem_append_left _ hx)).1) (fun x hx => (hs x (List.mem_append_left _ hx)).2), args_of_le hl e ?_ h2 (fun x hx => hs x (List.mem_append_right _ hx)), rfl⟩
    simpa using ht.2
/-- WHAT A WALK GIVES A ROW 'it returns true; its arguments read as they did'. -/
theorem post_of_le {f : Func} {s : ChangeSpec} {fresh handsOn again : Bool} {args : Array Value} {ds gs : List (DataW H)} {before : List MemPlace} {tb : TypeId}
    (hl : laidOutB P = true) (hp : (f.params.toList.all fun t => P.readableRec t && decide (t < P.types.size)) = true) (hv : s.vars = []) (hr : f.resultTypes = #[tb]) (hb : P.underlying tb = some .bool)
    (hW : DataW.Whole enc P f.params.toList s.vars false W args.toList ds gs before) (e : Le W W')
    (hs : s.fn H (ds ++ gs) = { results := [.lit (.bool true)], args := ds }) : s.post enc P f false fresh handsOn again W args (.bool true) W' := by
  have hlt := hW.lt
  have hW0 := hW
  obtain ⟨p, q, hA, hV, rfl, hz, _⟩ := hW
  rw [hv] at hV
  obtain ⟨rfl, rfl⟩ := trodVars_none hV
  have hres : ∀ (b : Nat) (sp : Nat → Bool) (hd : Bool), DataW.TrodAll enc P W' b sp hd f.resultTypes.toList ((Value.bool true).resultList f.resultTypes.size) (s.fn H (ds ++ [])).results [] := by
    intro b sp hd
    rw [hs, hr]
    exact trodAll_cons_mk (shut_bool hb _) trodAll_mk0
  have hargs : ∀ sp : Nat → Bool, (∀ x ∈ p, sp x.block = true) → DataW.TrodAll enc P W' 0 sp true f.params.toList args.toList (s.fn H (ds ++ [])).args p := by
    intro sp hsp
    rw [hs]
    exact args_of_le hl e hp hA fun x hx => ⟨hlt x (by simpa using hx), hsp x hx⟩
  have hvars : ∀ sp : Nat → Bool, DataW.TrodVars enc P W' sp s.vars (s.fn H (ds ++ [])).vars [] := by
    intro sp
    rw [hs, hv]
    rfl
  have hold : ∀ x ∈ p, (fun b => decide (b < W.heap.size)) x.block = true := fun x hx => by simpa using hlt x (by simpa using hx)
  refine ⟨ds, [], p ++ [], [], p, [], hW0, hres _ _ _, hargs _ hold, hvars _, World.keptBut_mono (fun x hx => ⟨hx, .inr (by simpa using hx)⟩) (kept_of_le e _), fun _ => ?_⟩
  refine ⟨ok_one hr rfl (okWide_bool_mk hb _), _, _, ([] ++ p) ++ [], ⟨[] ++ p, [], trodAll_append (hargs _ (fun _ _ => rfl)) (hres _ _ _), hvars _, rfl, ?_, ?_⟩, ?_⟩
  · intro b off hx
    have hx2 : MemPlace.cell b off ∈ p := by simpa using hx
    rw [frozen_of_le e (hlt _ (by simpa using hx2))]
    exact hz b off (by simpa using hx2)
  · intro ha; cases ha
  · intro x hx _
    simpa using hx

/-! #### what the row's condition gives -/
/-- An argument of type string. -/
theorem str_of {t : TypeId} {base : Nat} {v : Value} {d : DataW H} {p : List MemPlace} (ht : P.underlying t = some .string) (hval : Value.okWide P W .any base t v) (h : DataW.Trod enc P W 0 (fun _ => true) true t v d p) :
    ∃ l : List UInt8, v = str l ∧ l.length ≤ maxLen := by
  obtain ⟨s, rfl⟩ := okWide_string ht hval
  obtain ⟨fuel, hf⟩ := h
  obtain ⟨s', h1, _, hs⟩ := DataW.trod_string ht hf
  simp [Value.cells] at h1
  subst h1
  refine ⟨s.data.toList, ?_, by rw [Array.length_toList]; exact hs⟩
  unfold str
  simp
/-- A variable that the row lists. -/
theorem laid_mem {l : List (String × DataW Unit)} (h : laidMet P l W) {n : String} {d : DataW Unit} (hm : (n, d) ∈ l) :
    ∃ g t cs fuel p, P.globalNamed n = some g ∧ (P.globals[g]?).map (·.type) = some t ∧ W.var? P n = some cs ∧ DataW.trod (fun _ => ()) P W 0 (fun _ => true) false fuel t cs.toList = some (d, p) := by
  obtain ⟨ps, hv, h0⟩ := h
  clear h0
  induction l generalizing ps with
  | nil => cases hm
  | cons x l ih =>
    obtain ⟨n', d'⟩ := x
    obtain ⟨g, t, cs, fuel, p, q, h1, h2, h3, h4, h5, _⟩ := hv
    rcases List.mem_cons.1 hm with e | hm
    · cases e; exact ⟨g, t, cs, fuel, p, h1, h2, h3, h4⟩
    · exact ih hm _ h5
theorem laidH {l : List (String × DataW Unit)} (h : laidMetH P l W) (hn : (l.filter fun x => x.2.handleName?.isSome) = []) : laidMet P l W := by
  unfold laidMetH at h
  rw [hn] at h
  exact h
/-- A variable that holds an error. -/
theorem cell_err {l : List (String × DataW Unit)} (h : laidMet P l W) {name nm : String} {g : Nat} {t : TypeId} {ms : Array (String × TypeId)} {d : DataW Unit} (hm : (name, .iface nm d) ∈ l)
    (hg : P.globalNamed name = some g) (hty : (P.globals[g]?).map (·.type) = some t) (ht : P.underlying t = some (.interface ms)) : ∃ te pe, CellIs W g (.iface te pe) := by
  obtain ⟨g', t', cs, fuel, p, h1, h2, h3, h4⟩ := laid_mem h hm
  obtain rfl := Option.some.inj (hg.symm.trans h1)
  obtain rfl := Option.some.inj (hty.symm.trans h2)
  obtain ⟨_, u, v, h5, _⟩ := iface_of_trod ht h4
  refine ⟨u, v, ?_⟩
  unfold CellIs
  rw [World.var?_cell hg h3]
  have : cs.toList[0]? = some (.iface u v) := by rw [h5]; rfl
  simpa using this
end
/-- A walk, as the row wants it. -/
theorem calls_of {P : Program} {k : FuncId} {args : Array Value} {W : World} {Q : Value → World → Prop} (h : Ret P k args W fun v w' => v = .bool true ∧ Le W w') (hq : ∀ w', Le W w' → Q (.bool true) w') :
    Calls P k args W fun e W' => ∃ v, e = .returned v ∧ Q v W' := by
  refine Calls.mono h fun e W' hh => ?_
  cases e with
  | returned v => obtain ⟨rfl, e⟩ := hh; exact ⟨_, rfl, hq _ e⟩
  | _ => exact hh.elim
end Go.Pn
end
section
/-
  Elements of a slice that the call owns, written in place. No condition.
-/
namespace Go.Pn
theorem OwnF.block {α : Type} {G : Flat α} {ty : TypeId} {B : Nat} {w : World} {v : Value} {xs : List α} (h : OwnF G ty B w v xs) (hne : 0 < xs.length) :
    ∃ g cap cs, v = .slice (some ⟨g, 0, none⟩) xs.length cap ∧ Own w g ty cs ∧ cs.take (xs.length * G.sz) = xs.flatMap G.e ∧ xs.length ≤ cap ∧ cap ≤ maxLen ∧ cap * G.sz ≤ cs.length ∧ B ≤ g := by
  rcases h.1.2 with ⟨rfl, h0⟩ | ⟨g, cap, cur, rfl, hb, hg, hn, hm, hs, ht⟩
  · omega
  · exact ⟨g, cap, cur.toList, rfl, ⟨(0, 0), by simpa using hg, .inl rfl⟩, ht, hn, hm, by simp; omega, hb⟩
theorem Row.lt {α : Type} {E : Enc α} {w : World} {F : Nat → Prop} {b off : Nat} {xs : List α} (h : Row E w F b off xs) : b < w.heap.size := by
  obtain ⟨_, _, _, _, h, _⟩ := h
  exact lt_of_some h
section
variable {P : Program} {n : Nat} {ops rest : List Oper} {N : Val → World → Prop} {Z : List PanicEntry → World → Prop} {f : Val} {w : World}
  {d : Nat} {x y : Operand} {t e tr : TypeId} {pos : String} {after : Array Edge}
end
end Go.Pn
end
section
/-
  REGIONS THAT DRAW THEIR ORDER: what yields the same in every later world is taken first; a call is taken alone. No condition.
-/
namespace Go.Pn
section
variable {P : Program} {n : Nat} {l : List Oper} {N : Val → World → Prop} {X : Nat → Val → World → Prop} {R : Val → World → Prop} {Z : List PanicEntry → World → Prop} {f : Val} {w wB : World}
/-- The outcomes of a region. -/
abbrev Q0 (n : Nat) (N : Val → World → Prop) (Z : List PanicEntry → World → Prop) : Exit → Act → World → Prop := Ex n N (fun _ _ _ => False) (fun _ _ => False) Z
/-- Whatever order is drawn from here on; every world behind has the blocks of this one. -/
def D (P : Program) (n : Nat) (l : List Oper) (listed : Array Bool) (N : Val → World → Prop) (Z : List PanicEntry → World → Prop) (wB : World) (fuel : Nat) (f : Val) (w : World) : Prop :=
  wpAnyH P .any l.toArray (Q0 n N Z) (fun w' => Le wB w') fuel listed (Fr n f) w
theorem Q0_put (o : Option Nat) (v : Value) : ∀ c a w, Q0 n N Z (.panic c) (a.put o v) w → Q0 n N Z (.panic c) a w := by
  intro c a w h
  cases o <;> exact h
/-- A region that draws. -/
theorem C.draw {id : Nat} (hm : P.follows .mixedOrders = true) (h : ∀ w1, Le w w1 → D P n l (Array.replicate l.toArray.size false) N Z w1 l.toArray.size f w1) : C P n (.region id l.toArray true) N X R Z f w := by
  refine wp_mono (wp_region_held (S := fun w' => Le { w with drawn := w.drawn + 1 } w') hm (h { w with drawn := w.drawn + 1 } ⟨rfl, rfl, rfl, Nat.le_refl _, fun _ _ _ => rfl⟩)) ?_
  intro e a w he
  cases e with
  | normal => exact he
  | exit i => obtain ⟨_, _, h⟩ := he; exact h.elim
  | goto l => exact he
  | ret => obtain ⟨_, _, h⟩ := he; exact h.elim
  | panic ch => exact he
  | outgrown => exact he
/-- A region that draws, over a base world. -/
theorem C.drawB {id : Nat} (hm : P.follows .mixedOrders = true) (h : ∀ w1, Le w w1 → D P n l (Array.replicate l.toArray.size false) N Z wB l.toArray.size f w1) : C P n (.region id l.toArray true) N X R Z f w := by
  refine wp_mono (wp_region_held (S := fun w' => Le wB w') hm (h { w with drawn := w.drawn + 1 } ⟨rfl, rfl, rfl, Nat.le_refl _, fun _ _ _ => rfl⟩)) ?_
  intro e a w he
  cases e with
  | normal => exact he
  | exit i => obtain ⟨_, _, h⟩ := he; exact h.elim
  | goto l => exact he
  | ret => obtain ⟨_, _, h⟩ := he; exact h.elim
  | panic ch => exact he
  | outgrown => exact he
theorem D.done {listed : Array Bool} {fuel : Nat} (hr : Region.ready .any l.toArray listed = []) (h : N f w) : D P n l listed N Z wB fuel f w := wpAnyH_done hr ⟨f, rfl, h⟩ fuel
/-- What an operation that yields a value in every world that comes yields. -/
theorem run_of_O {o : Oper} {d : Nat} {v : Value} {w' : World} (hg : o.guard = .none) (hd : o.dst = some d) (hdn : d < n) (hX : ∃ X : Sem Value, execOp (ev n f) o = (do pure (.value (← X))))
    (hO : ∀ N : Val → World → Prop, N (upd f d v) w' → O P n [o] [o] N (fun _ _ => False) f w') : (execOp (ev n f) o).run P w' = .ok (.value v) w' := by
  have h := hO (fun f' w'' => f' = upd f d v ∧ w'' = w') ⟨rfl, rfl⟩
  obtain ⟨X, hX⟩ := hX
  unfold O at h
  simp only [wpList, Region.wanted, hg, if_true] at h
  rcases h with h | ⟨_, _, _, h⟩
  · unfold Oper.wp at h
    rw [eval_Fr, hX, Sem.run_bind] at h
    rw [hX, Sem.run_bind]
    cases hr : X.run P w' with
    | ok u w'' =>
      rw [hr] at h
      simp only [Result.andThen, Sem.run_pure, Oper.upon, hd] at h
      obtain ⟨f', e1, rfl, rfl⟩ := h
      rw [put_Fr] at e1
      have h2 := congrArg (fun a : Act => a.eval (.tmp d)) e1
      simp only [eval_Fr, ev, Nat.ble_eq_true_of_le hdn, cond_true, upd, nbeq_self] at h2
      subst h2
      rfl
    | halt x w'' =>
      rw [hr] at h
      simp only [Result.andThen, Oper.upon] at h
      cases x <;> first | exact h.2.elim | exact h.elim
  · exact h.elim
/-- An operation that yields a value in every later world is taken. -/
theorem D.take {listed : Array Bool} {fuel i : Nat} {o : Oper} {d : Nat} {v : Value} (hi : l[i]? = some o) (hg : o.guard = .none) (hd : o.dst = some d) (hdn : Nat.ble (d + 1) n = true)
    (hk : (Region.noSelect l.toArray && Region.free .any l.toArray listed i && (Region.ready .any l.toArray listed).contains i) = true)
    (hS : Le wB w) (hX : ∃ X : Sem Value, execOp (ev n f) o = (do pure (.value (← X))))
    (hO : ∀ w', Le wB w' → ∀ N : Val → World → Prop, N (upd f d v) w' → O P n [o] [o] N (fun _ _ => False) f w')
    (h : D P n l (listed.setIfInBounds i true) N Z wB fuel (upd f d v) w) : D P n l listed N Z wB (fuel + 1) f w := by
  simp only [Bool.and_eq_true] at hk
  have hy : YieldsIf P l.toArray (fun w' => Le wB w') o v (Fr n f) :=
    .inl ⟨by simp [Region.wanted, hg], fun w' hw => by rw [eval_Fr]; exact run_of_O hg hd (Nat.le_of_ble_eq_true hdn) hX (hO w' hw)⟩
  refine wpAnyH_take (i := i) (oi := o) (v := v) (by simpa using hi) hk.1.1 hk.1.2 hk.2 (Q0_put _ _) hy hS ?_
  rw [hd, put_Fr]
  exact h
/-- An operation whose guard says yes. -/
theorem D.takeYes {listed : Array Bool} {fuel i : Nat} {dst : Option Nat} {op : Op} {ty : TypeId} {pos : String} {after : Array Edge} {j dj : Nat} {b : Bool} {d : Nat} {v : Value}
    (hi : l[i]? = some { dst := dst, op := op, type := ty, pos := pos, after := after, guard := some (j, b) }) (hd : dst = some d) (hdn : Nat.ble (d + 1) n = true)
    (hk : (Region.noSelect l.toArray && Region.free .any l.toArray listed i && (Region.ready .any l.toArray listed).contains i) = true)
    (hj : (l[j]?).bind (·.dst) = some dj) (hv : ev n f (.tmp dj) = .bool b)
    (hS : Le wB w) (hX : ∃ X : Sem Value, execOp (ev n f) { dst := dst, op := op, type := ty, pos := pos, after := after, guard := .none } = (do pure (.value (← X))))
    (hO : ∀ w', Le wB w' → ∀ N : Val → World → Prop, N (upd f d v) w' → O P n [{ dst := dst, op := op, type := ty, pos := pos, after := after, guard := .none }] [{ dst := dst, op := op, type := ty, pos := pos, after := after, guard := .none }] N (fun _ _ => False) f w')
    (h : D P n l (listed.setIfInBounds i true) N Z wB fuel (upd f d v) w) : D P n l listed N Z wB (fuel + 1) f w := by
  simp only [Bool.and_eq_true] at hk
  have hy0 : yielded l.toArray (Fr n f).tmps j = some b := by
    have hd := getD_Fr n f dj
    rw [hv] at hd
    unfold yielded
    have h1 : (l.toArray[j]?).bind (·.dst) = some dj := by simpa using hj
    rw [h1]
    simp only [Option.bind_some]
    rw [Array.getD_eq_getD_getElem?] at hd
    cases hx : (Fr n f).tmps[dj]? with
    | none => rw [hx] at hd; simp [undef] at hd
    | some v => rw [hx] at hd; simp at hd; subst hd; rfl
  have hy : YieldsIf P l.toArray (fun w' => Le wB w') { dst := dst, op := op, type := ty, pos := pos, after := after, guard := some (j, b) } v (Fr n f) :=
    .inl ⟨by simp [Region.wanted, hy0], fun w' hw => by rw [eval_Fr]; exact run_of_O (o := { dst := dst, op := op, type := ty, pos := pos, after := after, guard := .none }) rfl hd (Nat.le_of_ble_eq_true hdn) hX (hO w' hw)⟩
  refine wpAnyH_take (i := i) (v := v) (by simpa using hi) hk.1.1 hk.1.2 hk.2 (Q0_put _ _) hy hS ?_
  simp only [hd]
  rw [put_Fr]
  exact h
/-- An operation that comes up. -/
theorem D.step {listed : Array Bool} {fuel j : Nat} {o : Oper} (hi : l[j]? = some o) (hg : o.guard = .none)
    (hO : O P n [o] [o] (fun f' w' => Le wB w' ∧ D P n l (listed.setIfInBounds j true) N Z wB fuel f' w') Z f w) :
    wpOp P l.toArray (Q0 n N Z) j (fun a' w' => Le wB w' ∧ wpAnyH P .any l.toArray (Q0 n N Z) (fun w' => Le wB w') fuel (listed.setIfInBounds j true) a' w') (Fr n f) w := by
  unfold wpOp
  have hi2 : l.toArray[j]? = some o := by simpa using hi
  rw [hi2]
  unfold O at hO
  simp only [wpList, Region.wanted, hg, if_true] at hO ⊢
  have key : ∀ a' w', Q0 n (fun f' w' => Le wB w' ∧ D P n l (listed.setIfInBounds j true) N Z wB fuel f' w') Z .normal a' w' → Le wB w' ∧ wpAnyH P .any l.toArray (Q0 n N Z) (fun w' => Le wB w') fuel (listed.setIfInBounds j true) a' w' := by
    rintro a' w' ⟨f', rfl, h1, h2⟩
    exact ⟨h1, h2⟩
  rcases hO with h | ⟨_, a0, w0, h0⟩
  · left
    unfold Oper.wp at h ⊢
    generalize (execOp (Fr n f).eval o).run P w = r at h ⊢
    cases r with
    | ok nx w' =>
      cases nx with
      | value v => exact key _ _ h
      | skip => exact key _ _ h
      | defer d => exact key _ _ h
      | enter k args =>
        refine Calls.mono h ?_
        intro e w'' he
        cases e with
        | returned v => exact key _ _ he
        | panicked ch => exact he
        | outgrown => obtain ⟨a0, w0, h0⟩ := he; exact h0.elim
      | row r args => exact Rows.mono h fun v w'' hv => key _ _ hv
      | _ => exact h.elim
    | halt hh w' => cases hh <;> first | exact h | exact h.elim
  · exact h0.elim
/-- An operation that is the only one that may come up. -/
theorem D.one {listed : Array Bool} {fuel i : Nat} {o : Oper} (hi : l[i]? = some o) (hg : o.guard = .none) (hr : Region.ready .any l.toArray listed = [i])
    (hO : O P n [o] [o] (fun f' w' => Le wB w' ∧ D P n l (listed.setIfInBounds i true) N Z wB fuel f' w') Z f w) : D P n l listed N Z wB (fuel + 1) f w := by
  refine wpAnyH_all hr (by simp) ?_
  intro j hj
  obtain rfl : j = i := by simpa using hj
  exact D.step hi hg hO
/-- Two that may come up. -/
theorem D.two {listed : Array Bool} {fuel i i' : Nat} {o o' : Oper} (hi : l[i]? = some o) (hg : o.guard = .none) (hi' : l[i']? = some o') (hg' : o'.guard = .none) (hr : Region.ready .any l.toArray listed = [i, i'])
    (hO : O P n [o] [o] (fun f' w' => Le wB w' ∧ D P n l (listed.setIfInBounds i true) N Z wB fuel f' w') Z f w)
    (hO' : O P n [o'] [o'] (fun f' w' => Le wB w' ∧ D P n l (listed.setIfInBounds i' true) N Z wB fuel f' w') Z f w) : D P n l listed N Z wB (fuel + 1) f w := by
  refine wpAnyH_all hr (by simp) ?_
  intro j hj
  simp only [List.mem_cons, List.not_mem_nil, or_false] at hj
  rcases hj with rfl | rfl
  · exact D.step hi hg hO
  · exact D.step hi' hg' hO'
end
end Go.Pn
end
section
/-
  More operations: addresses of elements as facts, guards in regions that draw, floats by their bits. No condition.
-/
namespace Go.Pn
section
variable {P : Program} {n : Nat} {ops rest l : List Oper} {N : Val → World → Prop} {Z : List PanicEntry → World → Prop} {f : Val} {w wB : World}
  {d : Nat} {x y : Operand} {t t' e tr ty : TypeId} {pos : String} {after : Array Edge} {α : Type} {E : Enc α} {F : Nat → Prop}
/-- The address of an element, and what the operation gives in whatever world. -/
theorem Sl.at {i : Int} {s : Nat} {v : Value} {xs : List α} (ht : P.underlying t = some (.slice e)) (hsz : ∀ w, (sizeOf e).run P w = .ok s w) (hs : E.sz = s) (hv : Sl E w F v xs) (hi : 0 ≤ i ∧ i < xs.length) :
    ∃ a, At E w F a (xs[i.toNat]'(by omega)) ∧ ∀ w', (Instr.indexAt t v (i64 i)).run P w' = .ok (.pointer (some a)) w' := by
  obtain ⟨b, off, cap, rfl, hat⟩ := hv.elem (i := i.toNat) (by omega)
  refine ⟨_, hat, fun w' => ?_⟩
  simp [Instr.indexAt, asIntOf, run_underlying ht, hi.1, hi.2, hsz, Addr.add_none, hs]
theorem O.idxR {i : Int} {v : Value} {a : Addr} (hx : ev n f x = v) (hy : ev n f y = i64 i) (hr : ∀ w', (Instr.indexAt t v (i64 i)).run P w' = .ok (.pointer (some a)) w') (h : O P n ops rest N Z (upd f d (.pointer (some a))) w) :
    O P n ops ({ dst := some d, op := .indexAddr t x y, type := ty, pos := pos, after := after, guard := .none } :: rest) N Z f w := by
  refine O.val rfl rfl ?_ h
  have h3 : execOp (ev n f) { dst := some d, op := .indexAddr t x y, type := ty, pos := pos, after := after, guard := .none } = (do pure (.value (← Instr.indexAt t (ev n f x) (ev n f y)))) := rfl
  rw [h3, Sem.run_bind, hx, hy, hr]
  rfl
/-! #### guards in a region that draws -/
theorem D.takeNo {listed : Array Bool} {fuel i : Nat} {dst : Option Nat} {op : Op} {j dj : Nat} {b : Bool} {d : Nat}
    (hi : l[i]? = some { dst := dst, op := op, type := ty, pos := pos, after := after, guard := some (j, b) }) (hd : dst = some d)
    (hk : (Region.noSelect l.toArray && Region.free .any l.toArray listed i && (Region.ready .any l.toArray listed).contains i) = true)
    (hS : Le wB w) (hj : (l[j]?).bind (·.dst) = some dj) (hv : isB b (ev n f (.tmp dj)) = false)
    (h : D P n l (listed.setIfInBounds i true) N Z wB fuel (upd f d undef) w) : D P n l listed N Z wB (fuel + 1) f w := by
  simp only [Bool.and_eq_true] at hk
  have hy0 : (yielded l.toArray (Fr n f).tmps j == some b) = false := by
    have hd := getD_Fr n f dj
    unfold yielded
    have h1 : (l.toArray[j]?).bind (·.dst) = some dj := by simpa using hj
    rw [h1]
    simp only [Option.bind_some]
    rw [Array.getD_eq_getD_getElem?] at hd
    cases hx : (Fr n f).tmps[dj]? with
    | none => rfl
    | some v =>
      rw [hx] at hd
      simp only [Option.getD_some] at hd
      rw [← hd] at hv
      cases v <;> first | rfl | (simp only [isB] at hv; simpa using hv)
  have hy : YieldsIf P l.toArray (fun w' => Le wB w') { dst := dst, op := op, type := ty, pos := pos, after := after, guard := some (j, b) } undef (Fr n f) :=
    .inr ⟨by simp only [Region.wanted]; exact hy0, rfl⟩
  refine wpAnyH_take (i := i) (v := undef) (by simpa using hi) hk.1.1 hk.1.2 hk.2 (Q0_put _ _) hy hS ?_
  simp only [hd]
  rw [put_Fr]
  exact h
theorem D.split {listed : Array Bool} {fuel : Nat} {b : Bool} (hx : ev n f x = .bool b) (h1 : b = true → D P n l listed N Z wB fuel f w) (h2 : b = false → D P n l listed N Z wB fuel f w) : D P n l listed N Z wB fuel f w := by
  cases b
  · exact h2 rfl
  · exact h1 rfl
theorem D.splitD {listed : Array Bool} {fuel : Nat} {p : Prop} [Decidable p] (_hx : ev n f x = .bool (decide p)) (h1 : p → D P n l listed N Z wB fuel f w) (h2 : ¬ p → D P n l listed N Z wB fuel f w) : D P n l listed N Z wB fuel f w := by
  by_cases h : p
  · exact h1 h
  · exact h2 h

theorem D.cast {listed : Array Bool} {fuel : Nat} {v v' : Value} (hv : v = v') (h : D P n l listed N Z wB fuel (upd f d v') w) : D P n l listed N Z wB fuel (upd f d v) w := hv ▸ h
theorem len_form : ∃ X : Sem Value, execOp (ev n f) { dst := some d, op := .call { callee := .builtin .len, args := [x].toArray, argTypes := [t].toArray }, type := ty, pos := pos, after := after, guard := .none } = (do pure (.value (← X))) := by
  refine ⟨Builtin.len_ #[t] ty #[ev n f x], ?_⟩
  simp [execOp, resolve, invoke, builtin]

theorem pick_form {c a b : Operand} {g : Option (Nat × Bool)} : ∃ X : Sem Value, execOp (ev n f) { dst := some d, op := .pick c a b, type := ty, pos := pos, after := after, guard := g } = (do pure (.value (← X))) := by
  refine ⟨do pure (if ← asBool (ev n f c) then ev n f a else ev n f b), ?_⟩
  show (do pure (.value (if ← asBool (ev n f c) then ev n f a else ev n f b)) : Sem Next) = _
  cases ev n f c <;> rfl

/-! #### floats -/
/-- A call of a function that the model gives. -/
theorem O.ext {k : Nat} {xs : List Operand} {vs : List Value} {ats : Array TypeId} {g : Array Value → Sem Value} {v : Value}
    (hk : ∀ args w, (callFunc k args).run P w = ((g args).run P w).andThen fun v w' => .ok (.value v) w') (hxs : xs.map (ev n f) = vs) (hg : (g vs.toArray).run P w = .ok v w) (h : O P n ops rest N Z (upd f d v) w) :
    O P n ops ({ dst := some d, op := .call { callee := .value (.func k), args := xs.toArray, argTypes := ats }, type := ty, pos := pos, after := after, guard := .none } :: rest) N Z f w := by
  subst hxs
  refine O.val rfl rfl ?_ h
  simp only [execOp, resolve, Deferred.ofValue, invoke, ev]
  simp [hk, hg]
/-- How two floats stand to each other. -/
def ford (a b : BitVec 64) : Option Ordering := FloatKind.f64.format.order a.toNat b.toNat
def feq (a b : BitVec 64) : Prop := ford a b = some .eq
def flt (a b : BitVec 64) : Prop := ford a b = some .lt
def fgt (a b : BitVec 64) : Prop := ford a b = some .gt
instance (a b : BitVec 64) : Decidable (feq a b) := inferInstanceAs (Decidable (ford a b = some .eq))
instance (a b : BitVec 64) : Decidable (flt a b) := inferInstanceAs (Decidable (ford a b = some .lt))
instance (a b : BitVec 64) : Decidable (fgt a b) := inferInstanceAs (Decidable (ford a b = some .gt))
variable {a b : BitVec 64}
end
end Go.Pn
end
section
/-
  A literal of one element. No condition.
-/
namespace Go.Pn
section
variable {P : Program} {n : Nat} {ops rest : List Oper} {N : Val → World → Prop} {Z : List PanicEntry → World → Prop} {f : Val} {w : World}
  {d : Nat} {x : Operand} {t e tr : TypeId} {pos : String} {after : Array Edge}
end
theorem Sl.one {α : Type} {G : Flat α} {w : World} {b : Nat} {ty : TypeId} {x : α} {v : Value} (h : Own w b ty [v]) (hv : G.e x = [v]) (h1 : G.sz = 1) : Sl G.enc w (fun k => k = b) (.slice (some ⟨b, 0, none⟩) 1 1) [x] :=
  Sl.of_own (xs := [x]) h (by simp [h1, hv]) (by simp) (by unfold maxLen; omega) (by simp [h1])
end Go.Pn
end
section
/-
  A part of a slice. No condition.
-/
namespace Go.Pn
section
variable {P : Program} {n : Nat} {ops rest : List Oper} {N : Val → World → Prop} {Z : List PanicEntry → World → Prop} {f : Val} {w wB : World}
  {d : Nat} {x : Operand} {t e tr : TypeId} {pos : String} {after : Array Edge} {α : Type} {E : Enc α} {F : Nat → Prop}
/-- v[lo:hi]: what it is, and that the operation gives it in whatever world. -/
theorem Sl.sub {s : Nat} {v : Value} {xs : List α} (lo hi : Nat) (ht : P.underlying t = some (.slice e)) (hsz : ∀ w, (sizeOf e).run P w = .ok s w) (hs : E.sz = s) (hv : Sl E w F v xs) (h1 : lo ≤ hi) (h2 : hi ≤ xs.length) :
    ∃ v', Sl E w F v' ((xs.take hi).drop lo) ∧ ∀ low high : Option Value, ((low = .none ∧ lo = 0) ∨ ∃ k, low = some (.int k lo)) → ((high = .none ∧ hi = xs.length) ∨ ∃ k, high = some (.int k hi)) →
      ∀ w', (Instr.sliceAt t v low high .none).run P w' = .ok v' w' := by
  have hlen : ((xs.take hi).drop lo).length = hi - lo := by simp; omega
  have run : ∀ (a : Option Addr) (cap : Nat), v = .slice a xs.length cap → xs.length ≤ cap → ∀ low high : Option Value, ((low = .none ∧ lo = 0) ∨ ∃ k, low = some (.int k lo)) → ((high = .none ∧ hi = xs.length) ∨ ∃ k, high = some (.int k hi)) →
      ∀ w', (Instr.sliceAt t v low high .none).run P w' = .ok (.slice (if cap = lo then a else a.map (·.add (lo * s))) (hi - lo) (cap - lo)) w' := by
    rintro a cap rfl hc low high hlo hhi w'
    have hbl : ∀ (k : IntKind) (x : Nat) (y : Nat) (c : BoundsCode), x ≤ y → (Instr.sliceBound (.int k (x : Int)) y c).run P w' = .ok x w' := by
      intro k x y c h1
      have : (x : Int) ≤ y := by omega
      simp [Instr.sliceBound, asIntOf, this]
    unfold Instr.sliceAt
    rw [Sem.run_bind, run_underlying ht, Result.andThen_ok]
    simp only []
    unfold Instr.slice
    rw [Sem.run_bind, run_underlying ht, Result.andThen_ok]
    simp only [Instr.sliceBounds]
    rcases hhi with ⟨rfl, rfl⟩ | ⟨k, rfl⟩ <;> rcases hlo with ⟨rfl, rfl⟩ | ⟨k', rfl⟩
    · simp [hsz]
    · have h6 := hbl k' lo xs.length .sliceB h1
      simp [hsz, h6]
    · have h5 := hbl k hi cap .sliceAcap (by omega)
      simp [hsz, h5]
    · have h5 := hbl k hi cap .sliceAcap (by omega)
      have h6 := hbl k' lo hi .sliceB h1
      simp [hsz, h5, h6]
  rcases hv.2 with ⟨a0, rfl, rfl⟩ | ⟨b, off, cap, cur, ty, fr, rfl, hF, hb, hc1, hc2, hc3, hr⟩
  · have e1 : lo = 0 := by simp at h2; omega
    have e2 : hi = 0 := by simpa using h2
    subst e1; subst e2
    exact ⟨.slice a0 0 0, ⟨by simp, .inl ⟨a0, rfl, by simp⟩⟩, by simpa using run a0 0 rfl (by simp)⟩
  · refine ⟨_, ?_, run (some ⟨b, off, none⟩) cap rfl hc1⟩
    by_cases hq : cap = lo
    · rw [if_pos hq]
      have e0 : (xs.take hi).drop lo = [] := List.eq_nil_of_length_eq_zero (by rw [hlen]; omega)
      rw [e0]
      refine ⟨by simp, .inr ⟨b, off, cap - lo, cur, ty, fr, by simp; omega, hF, hb, by simp, by omega, by simp, by simp⟩⟩
    · rw [if_neg hq]
      simp only [Option.map_some, Addr.add_none]
      refine ⟨by have := hv.1; omega, .inr ⟨b, off + lo * s, cap - lo, cur, ty, fr, by rw [hlen], hF, hb, by omega, by omega, ?_, ?_⟩⟩
      · intro h0
        have h3 := hc3 (by omega)
        rw [hs] at h3 ⊢
        have h4 : lo * s + (cap - lo) * s = cap * s := by rw [← Nat.add_mul]; congr 1; omega
        omega
      · intro i hi2
        have h5 : lo + i < xs.length := by omega
        have h6 := hr (lo + i) h5
        have e1 : ((xs.take hi).drop lo)[i] = xs[lo + i] := by simp
        rw [e1]
        have e2 : off + lo * s + i * E.sz = off + (lo + i) * E.sz := by rw [hs, Nat.add_mul]; omega
        rw [e2]
        exact h6
/-- An operation whose guard says yes, the only one that may come up. -/
theorem D.oneYes {l : List Oper} {listed : Array Bool} {fuel i : Nat} {dst : Option Nat} {op : Op} {ty : TypeId} {j dj : Nat} {b : Bool}
    (hi : l[i]? = some { dst := dst, op := op, type := ty, pos := pos, after := after, guard := some (j, b) }) (hj : (l[j]?).bind (·.dst) = some dj) (hv : ev n f (.tmp dj) = .bool b) (hr : Region.ready .any l.toArray listed = [i])
    (hO : O P n [{ dst := dst, op := op, type := ty, pos := pos, after := after, guard := .none }] [{ dst := dst, op := op, type := ty, pos := pos, after := after, guard := .none }] (fun f' w' => Le wB w' ∧ D P n l (listed.setIfInBounds i true) N Z wB fuel f' w') Z f w) : D P n l listed N Z wB (fuel + 1) f w := by
  refine wpAnyH_all hr (by simp) ?_
  intro i' hi'
  obtain rfl : i' = i := by simpa using hi'
  have hy0 : yielded l.toArray (Fr n f).tmps j = some b := by
    have hd := getD_Fr n f dj
    rw [hv] at hd
    unfold yielded
    have h1 : (l.toArray[j]?).bind (·.dst) = some dj := by simpa using hj
    rw [h1]
    simp only [Option.bind_some]
    rw [Array.getD_eq_getD_getElem?] at hd
    cases hx : (Fr n f).tmps[dj]? with
    | none => rw [hx] at hd; simp [undef] at hd
    | some v => rw [hx] at hd; simp at hd; subst hd; rfl
  unfold wpOp
  have hi2 : l.toArray[i']? = some { dst := dst, op := op, type := ty, pos := pos, after := after, guard := some (j, b) } := by simpa using hi
  rw [hi2]
  unfold O at hO
  simp only [wpList, Region.wanted, if_true, hy0, beq_self_eq_true] at hO ⊢
  have key : ∀ a' w', Q0 n (fun f' w' => Le wB w' ∧ D P n l (listed.setIfInBounds i' true) N Z wB fuel f' w') Z .normal a' w' → Le wB w' ∧ wpAnyH P .any l.toArray (Q0 n N Z) (fun w' => Le wB w') fuel (listed.setIfInBounds i' true) a' w' := by
    rintro a' w' ⟨f', rfl, h1, h2⟩
    exact ⟨h1, h2⟩
  rcases hO with h | ⟨_, a0, w0, h0⟩
  · left
    unfold Oper.wp at h ⊢
    have hex : execOp (Fr n f).eval { dst := dst, op := op, type := ty, pos := pos, after := after, guard := some (j, b) } = execOp (Fr n f).eval { dst := dst, op := op, type := ty, pos := pos, after := after, guard := .none } := rfl
    rw [hex]
    generalize (execOp (Fr n f).eval { dst := dst, op := op, type := ty, pos := pos, after := after, guard := .none }).run P w = r at h ⊢
    cases r with
    | ok nx w' =>
      cases nx with
      | value v => exact key _ _ h
      | skip => exact key _ _ h
      | defer d => exact key _ _ h
      | enter k args =>
        refine Calls.mono h ?_
        intro e w'' he
        cases e with
        | returned v => exact key _ _ he
        | panicked ch => exact he
        | outgrown => obtain ⟨a0, w0, h0⟩ := he; exact h0.elim
      | row r args => exact Rows.mono h fun v w'' hv => key _ _ hv
      | _ => exact h.elim
    | halt hh w' => cases hh <;> first | exact h | exact h.elim
  · exact h0.elim
end
end Go.Pn
end
section
/-
  WHAT A ROW'S CONDITION GIVES A WALK, WHATEVER THE TYPE: whatever is read lies in a way that the walks know. Of no program.
-/
namespace Go.Pn
open Go.ChangeShapes Go.WideShapes Go.ChangeAt Go.RowKit
/-- A slice, in its cell. -/
def slE {α : Type} (E : Enc α) : Enc (List α) where
  sz := 1
  rep := fun w F cs xs => ∃ v, cs = [v] ∧ Sl E w F v xs
  len := by rintro w F cs x ⟨v, rfl, _⟩; rfl
  one := by
    rintro w F cs x ⟨v, rfl, h⟩ c hc
    obtain rfl : c = v := by simpa using hc
    obtain ⟨l, cap, rfl, _⟩ := h.val
    rfl
  ext := by rintro w w' F cs x ⟨v, rfl, h⟩ hw; exact ⟨v, rfl, h.ext hw⟩
  weak := by rintro w F F' cs x ⟨v, rfl, h⟩ hF; exact ⟨v, rfl, h.weak hF⟩
/-- One lies behind the other. -/
def prE {α β : Type} (E : Enc α) (E' : Enc β) : Enc (α × β) where
  sz := E.sz + E'.sz
  rep := fun w F cs x => ∃ a b, cs = a ++ b ∧ E.rep w F a x.1 ∧ E'.rep w F b x.2
  len := by rintro w F cs x ⟨a, b, rfl, h1, h2⟩; rw [List.length_append, E.len h1, E'.len h2]
  one := by
    rintro w F cs x ⟨a, b, rfl, h1, h2⟩ c hc
    rcases List.mem_append.1 hc with h | h
    · exact E.one h1 c h
    · exact E'.one h2 c h
  ext := by rintro w w' F cs x ⟨a, b, rfl, h1, h2⟩ hw; exact ⟨a, b, rfl, E.ext h1 hw, E'.ext h2 hw⟩
  weak := by rintro w F F' cs x ⟨a, b, rfl, h1, h2⟩ hF; exact ⟨a, b, rfl, E.weak h1 hF, E'.weak h2 hF⟩
def intK (k : IntKind) : Flat Int := ⟨1, fun x => [.int k x], fun _ => rfl, by simp [Value.oneCell'], by decide⟩
def strF : Flat (List UInt8) := ⟨1, fun x => [str x], fun _ => rfl, by simp [Value.oneCell', str], by decide⟩
theorem cell_at {W : World} {a : Addr} {v : Value} (h : W.cell? a = some v) : ∃ cur ty fr, a.spot = none ∧ W.heap[a.block]? = some (.cells cur ty fr) := by
  unfold World.cell? at h
  split at h
  · rename_i c ty fr hh
    split at h
    · cases h
    · rename_i hs
      exact ⟨c, ty, fr, by simpa using hs, hh⟩
  · cases h
/-- Whatever is read of type t lies in the way E. -/
structure Opens (P : Program) (W : World) {α : Type} (E : Enc α) (Q : α → Prop) (t : TypeId) : Prop where
  sz : P.cellsOf t = E.sz
  op : ∀ {H : Type} {enc : TypeId × Value → H} {fuel : Nat} {cs : List Value} {x : DataW H × List MemPlace}, DataW.trod enc P W 0 (fun _ => true) true fuel t cs = some x → ∃ d, E.rep W (fun k => k < W.heap.size) cs d ∧ Q d
section
variable {P : Program} {W : World} {α β : Type} {E : Enc α} {E' : Enc β} {Q : α → Prop} {Q' : β → Prop} {t e : TypeId}
theorem Opens.int {k : IntKind} (ht : P.underlying t = some (.int k)) (hc : P.cellsOf t = 1) : Opens P W (intK k).enc (fun z => (Lit.int k z).wf = true) t :=
  ⟨hc, fun h => by obtain ⟨z, rfl, _, hw⟩ := DataW.trod_int ht h; exact ⟨z, rfl, hw⟩⟩
theorem Opens.str (ht : P.underlying t = some .string) (hc : P.cellsOf t = 1) : Opens P W strF.enc (fun l => l.length ≤ maxLen) t :=
  ⟨hc, fun h => by
    obtain ⟨s, rfl, _, hw⟩ := DataW.trod_string ht h
    refine ⟨s.data.toList, ?_, by rw [Array.length_toList]; exact hw⟩
    show [Value.string s] = [Go.Pn.str s.data.toList]
    unfold Go.Pn.str
    simp⟩
theorem Opens.imp (h : Opens P W E Q t) (hs : E'.sz = E.sz) (hi : ∀ cs d, E.rep W (fun k => k < W.heap.size) cs d → Q d → ∃ d', E'.rep W (fun k => k < W.heap.size) cs d' ∧ Q' d') : Opens P W E' Q' t :=
  ⟨h.sz.trans hs.symm, fun hx => by obtain ⟨d, h1, h2⟩ := h.op hx; exact hi _ d h1 h2⟩
theorem Opens.slice (h : Opens P W E Q e) (ht : P.underlying t = some (.slice e)) (hc : P.cellsOf t = 1) (hpos : 0 < E.sz) : Opens P W (slE E) (fun l => ∀ x ∈ l, Q x) t := by
  refine ⟨hc, fun {H enc fuel cs x} hx => ?_⟩
  rcases Deep.open_slice ht hx with ⟨rfl, _⟩ | ⟨a, len, cap, m, n, D, Pl, rfl, _, hl, hm, hmm, _, hel⟩
  · exact ⟨[], ⟨_, rfl, Sl.nil _ _ _⟩, by simp⟩
  · simp only [if_true] at hmm
    subst hmm
    rcases Nat.eq_zero_or_pos m with rfl | hpm
    · obtain rfl : len = 0 := by omega
      exact ⟨[], ⟨_, rfl, by simp, .inl ⟨_, rfl, rfl⟩⟩, by simp⟩
    · have each : ∀ i, i < m → ∃ q : α, ∃ cs', W.cells? 0 (a.add (i * E.sz)) E.sz = some cs' ∧ E.rep W (fun k => k < W.heap.size) cs' q ∧ Q q := by
        intro i hi
        obtain ⟨cs', h1, h2⟩ := hel i hi
        rw [h.sz] at h1
        obtain ⟨d, h3, h4⟩ := h.op h2
        exact ⟨d, cs', h1, h3, h4⟩
      obtain ⟨d0, _⟩ := each 0 hpm
      haveI : Inhabited α := ⟨d0⟩
      obtain ⟨q, hq⟩ := Deep.choose_lt each
      have hcell : ∀ i, i < m → ∀ j, j < E.sz → ∃ cs', E.rep W (fun k => k < W.heap.size) cs' (q i) ∧ cs'.length = E.sz ∧ W.cell? (a.add (i * E.sz + j)) = cs'[j]? := by
        intro i hi j hj
        obtain ⟨cs', h1, h2, _⟩ := hq i hi
        obtain ⟨_, hlen, hc⟩ := World.cells?_some h1
        refine ⟨cs', h2, hlen, ?_⟩
        rw [← hc j hj, Deep.add_add]
      obtain ⟨cs0, _, hl0, hc0⟩ := hcell 0 hpm 0 hpos
      rw [Nat.zero_mul, List.getElem?_eq_getElem (by omega)] at hc0
      obtain ⟨cur, ty, fr, hsp, hb⟩ := cell_at hc0
      obtain ⟨b, off, spot⟩ := a
      have hsp' : spot = none := by
        unfold Addr.add at hsp
        simpa using hsp
      subst hsp'
      have hb' : W.heap[b]? = some (.cells cur ty fr) := by
        unfold Addr.add at hb
        simpa using hb
      have hcur : ∀ k v, W.cell? ⟨b, k, none⟩ = some v → cur[k]? = some v := by
        intro k v hk
        unfold World.cell? at hk
        simpa [hb'] using hk
      refine ⟨(List.range len).map q, ⟨_, rfl, by simp; omega, .inr ⟨b, off, m, cur, ty, fr, by simp, lt_of_some hb', hb', by simpa using hl, hm, ?_, ?_⟩⟩, ?_⟩
      · intro _
        obtain ⟨cs1, _, hl1, hc1⟩ := hcell (m - 1) (by omega) (E.sz - 1) (by omega)
        rw [List.getElem?_eq_getElem (by omega), Addr.add_none] at hc1
        have h2 := (Array.getElem?_eq_some_iff.1 (hcur _ _ hc1)).1
        have h3 : (m - 1) * E.sz + E.sz = m * E.sz := by
          obtain ⟨m', rfl⟩ : ∃ m', m = m' + 1 := ⟨m - 1, by omega⟩
          rw [Nat.add_sub_cancel, Nat.add_mul, Nat.one_mul]
        omega
      · intro i hi
        have hi2 : i < len := by simpa using hi
        obtain ⟨cs', h1, h2, _⟩ := hq i (by omega)
        obtain ⟨_, hlen, hc⟩ := World.cells?_some h1
        have e1 : (cur.toList.drop (off + i * E.sz)).take E.sz = cs' := by
          apply List.ext_getElem?
          intro j
          by_cases hj : j < E.sz
          · rw [List.getElem?_take, if_pos hj, List.getElem?_drop]
            have h3 := hc j hj
            rw [Deep.add_add, Addr.add_none, List.getElem?_eq_getElem (by omega)] at h3
            have h4 := hcur _ _ h3
            rw [List.getElem?_eq_getElem (l := cs') (by omega), Array.getElem?_toList, Nat.add_assoc]
            exact h4
          · rw [List.getElem?_eq_none (by rw [List.length_take]; omega), List.getElem?_eq_none (by omega)]
        rw [e1]
        simpa using h2
      · intro x hx
        obtain ⟨i, hi, rfl⟩ := List.mem_map.1 hx
        obtain ⟨_, _, _, h3⟩ := hq i (by have := List.mem_range.1 hi; omega)
        exact h3
/-- A struct of two fields. -/
theorem Opens.struct2 {f0 f1 : Field} (ht : P.underlying t = some (.struct #[f0, f1])) (h0 : Opens P W E Q f0.type) (h1 : Opens P W E' Q' f1.type) (o0 : f0.offset = 0) (o1 : f1.offset = E.sz) (hc : P.cellsOf t = E.sz + E'.sz) :
    Opens P W (prE E E') (fun x => Q x.1 ∧ Q' x.2) t := by
  refine ⟨hc, fun {H enc fuel cs x} hx => ?_⟩
  obtain ⟨xs, n, _, _, hlen, hxl, hf⟩ := DataW.trod_struct ht hx
  have g0 := hf 0 f0 rfl
  have g1 := hf 1 f1 rfl
  have hx2 : xs.length = 2 := hxl
  rw [List.getElem?_eq_getElem (by omega)] at g0 g1
  rw [o0, List.drop_zero, h0.sz] at g0
  rw [o1, h1.sz] at g1
  obtain ⟨d0, a1, a2⟩ := h0.op g0
  obtain ⟨d1, b1, b2⟩ := h1.op g1
  refine ⟨(d0, d1), ⟨_, _, ?_, a1, b1⟩, a2, b2⟩
  rw [List.take_of_length_le (l := cs.drop E.sz) (by simp; omega), List.take_append_drop]
/-- An argument. -/
theorem Opens.arg (h : Opens P W E Q t) {H : Type} {enc : TypeId × Value → H} {v : Value} {d : DataW H} {p : List MemPlace} (hd : DataW.Trod enc P W 0 (fun _ => true) true t v d p) : ∃ d, E.rep W (fun k => k < W.heap.size) v.cells.toList d ∧ Q d := by
  obtain ⟨fuel, hf⟩ := hd
  exact h.op hf
theorem arg_slice {H : Type} {enc : TypeId × Value → H} {base : Nat} {v : Value} {d : DataW H} {p : List MemPlace} (h : Opens P W E Q e) (ht : P.underlying t = some (.slice e)) (hc : P.cellsOf t = 1) (hpos : 0 < E.sz)
    (hval : Value.okWide P W .any base t v) (hd : DataW.Trod enc P W 0 (fun _ => true) true t v d p) : ∃ l : List α, Sl E W (fun k => k < W.heap.size) v l ∧ ∀ x ∈ l, Q x := by
  obtain ⟨a, len, cap, rfl⟩ := okWide_slice ht hval
  obtain ⟨l, ⟨v', h1, h2⟩, h3⟩ := (h.slice ht hc hpos).arg hd
  have e1 : v' = .slice a len cap := by simpa [Value.cells] using h1.symm
  subst e1
  exact ⟨l, h2, h3⟩
/-- A table of the library. -/
theorem tab_is {l : List (String × DataW Unit)} (h : laidMet P l W) {name : String} {k : IntKind} {zs : List Int} {g n : Nat} {dd : DataW Unit} (hm : (name, dd) ∈ l) (hd : dd = Lib.tabData k zs)
    (hg : P.globalNamed name = some g) (hty : (P.globals[g]?).map (·.type) = some t) (ht : P.underlying t = some (.array n e)) (he : P.underlying e = some (.int k)) (hce : P.cellsOf e = 1) (hct : P.cellsOf t = n) : Lib.TabIs P W name k zs := by
  obtain ⟨g', t', cs, fuel, p, h1, h2, h3, h4⟩ := laid_mem h hm
  obtain rfl := Option.some.inj (hg.symm.trans h1)
  obtain rfl := Option.some.inj (hty.symm.trans h2)
  rw [hd] at h4
  unfold Lib.TabIs
  rw [h3, ← Lib.cells_of_tab ht he hce hct h4]
end
end Go.Pn
end
section
/-
  nil slices compared, literals of slices, elements written in place, structs. No condition.
-/
namespace Go.Pn
open Go.RowKit
section
variable {P : Program} {n : Nat} {ops rest : List Oper} {N : Val → World → Prop} {Z : List PanicEntry → World → Prop} {f : Val} {w : World}
  {d : Nat} {x : Operand} {t t' e tr : TypeId} {pos : String} {after : Array Edge} {α : Type} {E : Enc α} {F : Nat → Prop}
end
/-! literals of some elements of one cell each -/
theorem fill_seq : ∀ (vs : List Value) (k : Nat) (cells : Array Value), cells.size = k + vs.length → (∀ v ∈ vs, v.oneCell' = true) →
    Instr.fill (fun i => some (i * 1, 1)) cells ((List.range' k vs.length).zip vs) = some (cells.toList.take k ++ vs).toArray := by
  intro vs
  induction vs with
  | nil =>
    intro k cells h _
    have e : cells.toList.take k = cells.toList := List.take_of_length_le (by simp at h; simp; omega)
    simp [Instr.fill, e]
  | cons v vs ih =>
    intro k cells h h1
    have hv := h1 v (by simp)
    have hcells : v.cells = #[v] := by cases v <;> first | rfl | simp [Value.oneCell'] at hv
    rw [List.length_cons, List.range'_succ, List.zip_cons_cons]
    unfold Instr.fill
    simp only [hcells, Nat.mul_one]
    rw [if_neg (by simp at h ⊢; omega)]
    have e : (#[v].zipIdx.foldl (fun (cs : Array Value) (x : Value × Nat) => cs.setIfInBounds (k + x.2) x.1) cells) = cells.setIfInBounds k v := by simp
    have h2 := ih (k + 1) (cells.setIfInBounds k v) (by rw [Array.size_setIfInBounds, h, List.length_cons]; omega) (fun u hu => h1 u (by simp [hu]))
    simp only [Nat.mul_one] at h2
    rw [e, h2]
    have hk : k < cells.toList.length := by simp at h ⊢; omega
    have e2 : (cells.setIfInBounds k v).toList.take (k + 1) = cells.toList.take k ++ [v] := by
      rw [Array.toList_setIfInBounds, List.take_succ_eq_append_getElem (by simpa using hk)]
      have e3 : List.take k (cells.toList.set k v) = List.take k cells.toList := by
        rw [List.take_set, List.set_eq_of_length_le (by simp; omega)]
      rw [e3]
      simp
    rw [e2, List.append_assoc]
    rfl
section
variable {P : Program} {n : Nat} {ops rest : List Oper} {N : Val → World → Prop} {Z : List PanicEntry → World → Prop} {f : Val} {w : World}
  {d : Nat} {t e tr : TypeId} {pos : String} {after : Array Edge}
theorem O.litn {len : Nat} {parts : List (Nat × Operand)} {ie : TypeInfo} {z : Value} (vs : List Value) (hu : P.underlying t = some (.slice e)) (hie : P.info? e = some ie) (hsz : ie.size = 1) (hz : ie.zero = some z) (hl : vs.length = len) (hsmall : ¬ len > 2 ^ 24) (hpos : ¬ len = 0)
    (hvs : parts.map (fun x => (x.1, ev n f x.2)) = (List.range' 0 vs.length).zip vs) (h1 : ∀ v ∈ vs, v.oneCell' = true)
    (h : ∀ b w', w.heap.size ≤ b → Own0 w' b e vs → Le w w' → O P n ops rest N Z (upd f d (.slice (some ⟨b, 0, none⟩) len len)) w') :
    O P n ops ({ dst := some d, op := .buildSlice t len parts.toArray, type := tr, pos := pos, after := after, guard := .none } :: rest) N Z f w := by
  refine O.lit (cells := vs.toArray) hu hie hz (by rw [hsz, Nat.mul_one]; exact hsmall) (by rw [hsz, Nat.mul_one]; exact hpos) hvs ?_ (by simpa using h)
  rw [hsz, fill_seq vs 0 _ (by simp [hl]) h1]
  simp
end
section
variable {P : Program} {n : Nat} {ops rest : List Oper} {N : Val → World → Prop} {Z : List PanicEntry → World → Prop} {f : Val} {w : World}
  {d : Nat} {x : Operand} {t tr : TypeId} {pos : String} {after : Array Edge}
end
/-! elements of a slice of the call's own, written in place -/
theorem OwnF.set {α : Type} {G : Flat α} {ty : TypeId} {B : Nat} {w : World} {g cap i : Nat} {xs : List α} {x : α} {u : Value} (hG : ∀ x, (G.e x).length = 1) (hu : G.e x = [u]) (h : OwnF G ty B w (.slice (some ⟨g, 0, none⟩) xs.length cap) xs) (hi : i < xs.length) :
    OwnF G ty B (w.setCell ⟨g, i, none⟩ u) (.slice (some ⟨g, 0, none⟩) xs.length cap) (xs.set i x) := by
  obtain ⟨h0, hm⟩ := h
  refine ⟨⟨by rw [G.length], ?_⟩, by rw [List.length_set]; exact hm⟩
  rcases h0.2 with ⟨h1, _⟩ | ⟨g', cap', cur, h1, hb, hg, hn, hc, hsz, ht⟩
  · cases h1
  · have e1 : g = g' := by cases h1; rfl
    have e2 : cap = cap' := by cases h1; rfl
    subst e1; subst e2
    have hset : ∀ (ys : List α) (j : Nat), j < ys.length → (ys.set j x).flatMap G.e = (ys.flatMap G.e).set j u := by
      intro ys
      induction ys with
      | nil => intro j hj; simp at hj
      | cons y ys ih =>
        intro j hj
        obtain ⟨c, hc⟩ : ∃ c, G.e y = [c] := by
          have := hG y
          match hq : G.e y, this with
          | [c], _ => exact ⟨c, rfl⟩
        cases j with
        | zero => simp [hu, hc]
        | succ j => simp [hc, ih j (by simpa using hj)]
    refine .inr ⟨g, cap, (cur.toList.set i u).toArray, by rw [List.length_set], hb, ?_, by rw [List.length_set]; exact hn, hc, by simpa using hsz, ?_⟩
    · have h5 := heap_set w g i u (cs := cur.toList) (ty := ty) (fr := (0, 0)) (by simpa using hg)
      exact h5
    · rw [List.length_set, hset xs i hi, ← ht]
      simp only [List.take_set]
section
variable {P : Program} {n : Nat} {ops rest : List Oper} {N : Val → World → Prop} {Z : List PanicEntry → World → Prop} {f : Val} {w : World}
  {x y : Operand} {t tr : TypeId} {pos : String} {after : Array Edge}
end
/-! structs -/
section
variable {P : Program} {n : Nat} {ops rest : List Oper} {N : Val → World → Prop} {Z : List PanicEntry → World → Prop} {f : Val} {w : World}
  {d : Nat} {x y : Operand} {t t' tr : TypeId} {pos : String} {after : Array Edge} {α : Type} {G : Flat α} {F : Nat → Prop}
/-- The address of a field. -/
theorem O.fieldAd {fields : Array Field} {fd : Field} {k s b o : Nat} (ht : P.underlying t = some (.struct fields)) (hf : fields[k]? = some fd) (hs : ∀ w, (sizeOf fd.type).run P w = .ok s w) (h0 : s ≠ 0) (hx : ev n f x = .pointer (some ⟨b, o, none⟩))
    (h : O P n ops rest N Z (upd f d (.pointer (some ⟨b, o + fd.offset, none⟩))) w) : O P n ops ({ dst := some d, op := .fieldAddr t x k, type := tr, pos := pos, after := after, guard := .none } :: rest) N Z f w := by
  refine O.val rfl rfl ?_ h
  have h3 : execOp (ev n f) { dst := some d, op := .fieldAddr t x k, type := tr, pos := pos, after := after, guard := .none } = (do pure (.value (← Instr.fieldAt t (ev n f x) k))) := rfl
  rw [h3, Sem.run_bind, hx]
  have h4 : (Instr.fieldAt t (.pointer (some ⟨b, o, none⟩)) k).run P w = .ok (.pointer (some ⟨b, o + fd.offset, none⟩)) w := by
    unfold Instr.fieldAt
    rw [Sem.run_bind, run_underlying ht, Result.andThen_ok]
    simp [hf, Instr.sureAddr, fieldPlace, hs, h0, Addr.add_none]
  rw [h4]
  rfl
theorem run_load_flat {a : Addr} {z : α} (ha : At G.enc w F a z) : (loadCells a G.sz).run P w = .ok (G.e z).toArray w := by
  obtain ⟨b, off, cur, ty, fr, rfl, hF, hb, hs, hr⟩ := ha
  have hr' : (cur.toList.drop off).take G.sz = G.e z := hr
  rw [← G.len z]
  refine run_loadCells_list w ⟨b, off, none⟩ (G.e z) fun j v hj => ?_
  rw [Addr.add_none]
  rw [← hr', List.getElem?_take] at hj
  split at hj
  · rw [List.getElem?_drop] at hj
    simp only [World.cell?, hb, Option.isSome_none, Bool.false_eq_true, if_false]
    simpa using hj
  · cases hj
/-- A load of a struct that lies flat. -/
theorem O.loadG {a : Addr} {z : α} (hag : ∀ w, (isAgg t).run P w = .ok true w) (hs : ∀ w, (sizeOf t).run P w = .ok G.sz w) (hx : ev n f x = .pointer (some a)) (ha : At G.enc w F a z)
    (h : O P n ops rest N Z (upd f d (.agg (G.e z).toArray)) w) : O P n ops ({ dst := some d, op := .load t x, type := tr, pos := pos, after := after, guard := .none } :: rest) N Z f w := by
  refine O.val rfl rfl ?_ h
  have h3 : execOp (ev n f) { dst := some d, op := .load t x, type := tr, pos := pos, after := after, guard := .none } = (do pure (.value (← Instr.loadAt t (ev n f x)))) := rfl
  rw [h3, Sem.run_bind, hx]
  have h4 : (Instr.loadAt t (.pointer (some a))).run P w = .ok (.agg (G.e z).toArray) w := by
    simp [Instr.loadAt, Instr.sureAddr, loadVar, hag, hs, run_load_flat (P := P) ha]
  rw [h4]
  rfl
/-- A load of some cells of a block of the call's own. -/
theorem O.loadOA {b o s : Nat} {ty : TypeId} {cs : List Value} (hag : ∀ w, (isAgg t).run P w = .ok true w) (hs : ∀ w, (sizeOf t).run P w = .ok s w) (hx : ev n f x = .pointer (some ⟨b, o, none⟩)) (ho : Own w b ty cs) (hlt : o + s ≤ cs.length)
    (h : O P n ops rest N Z (upd f d (.agg ((cs.drop o).take s).toArray)) w) : O P n ops ({ dst := some d, op := .load t x, type := tr, pos := pos, after := after, guard := .none } :: rest) N Z f w := by
  refine O.val rfl rfl ?_ h
  have h3 : execOp (ev n f) { dst := some d, op := .load t x, type := tr, pos := pos, after := after, guard := .none } = (do pure (.value (← Instr.loadAt t (ev n f x)))) := rfl
  rw [h3, Sem.run_bind, hx]
  have hl : ((cs.drop o).take s).length = s := by simp; omega
  have hr : (loadCells ⟨b, o, none⟩ s).run P w = .ok ((cs.drop o).take s).toArray w := by
    have h5 := run_loadCells_list (P := P) w ⟨b, o, none⟩ ((cs.drop o).take s) fun j v hj => by
      rw [Addr.add_none]
      rw [List.getElem?_take] at hj
      split at hj
      · rw [List.getElem?_drop] at hj; exact ho.cell hj
      · cases hj
    rwa [hl] at h5
  have h4 : (Instr.loadAt t (.pointer (some ⟨b, o, none⟩))).run P w = .ok (.agg ((cs.drop o).take s).toArray) w := by
    simp [Instr.loadAt, Instr.sureAddr, loadVar, hag, hs, hr]
  rw [h4]
  rfl
/-- A struct literal. -/
theorem O.build {parts : List (Nat × Operand)} {vs : List (Nat × Value)} {cells : Array Value} (hvs : parts.map (fun x => (x.1, ev n f x.2)) = vs) (hb : P.built t vs = some cells) (h : O P n ops rest N Z (upd f d (.agg cells)) w) :
    O P n ops ({ dst := some d, op := .build t parts.toArray, type := tr, pos := pos, after := after, guard := .none } :: rest) N Z f w := by
  refine O.val rfl rfl ?_ h
  have h3 : execOp (ev n f) { dst := some d, op := .build t parts.toArray, type := tr, pos := pos, after := after, guard := .none } = (do pure (.value (← Instr.build t (parts.toArray.map fun x => (x.1, ev n f x.2))))) := rfl
  rw [h3, Sem.run_bind, run_build w t _ cells (by simpa [hvs] using hb)]
  rfl
end
/-! stores of some cells -/
theorem run_storeCells_own {P : Program} {b : Nat} {ty : TypeId} : ∀ (vs : List Value) (o i : Nat) (cs : List Value) (w : World), Own w b ty cs → o + i + vs.length ≤ cs.length → (∀ v ∈ vs, v.oneCell' = true) →
    ∃ w', (storeCells ⟨b, o, none⟩ vs i).run P w = .ok () w' ∧ Own w' b ty (cs.take (o + i) ++ vs ++ cs.drop (o + i + vs.length)) ∧ Ext (fun k => k = b) w w' ∧ w'.heap.size = w.heap.size := by
  intro vs
  induction vs with
  | nil =>
    intro o i cs w ho _ _
    exact ⟨w, rfl, by simpa using ho, Ext.refl _ _, rfl⟩
  | cons v vs ih =>
    intro o i cs w ho hl h1
    have hl' : o + i < cs.length := by simp at hl; omega
    have hv := h1 v (by simp)
    have hc := ho.cell (i := o + i) (v := cs[o + i]) (by simp)
    have hf := ho.free hl'
    have ho' := ho.set (o + i) v
    obtain ⟨w', hr, ho2, he, hs⟩ := ih o (i + 1) (cs.set (o + i) v) _ ho' (by simp at hl ⊢; omega) (fun u hu => h1 u (by simp [hu]))
    refine ⟨w', ?_, ?_, (Ext.set w ⟨b, o + i, none⟩ v).trans he, by rw [hs]; simp⟩
    · have e : storeCells ⟨b, o, none⟩ (v :: vs) i = (do store ((⟨b, o, none⟩ : Addr).add i) v; storeCells ⟨b, o, none⟩ vs (i + 1)) := rfl
      rw [e, Sem.run_bind, Addr.add_none]
      have hst : (store ⟨b, o + i, none⟩ v).run P w = .ok () (w.setCell ⟨b, o + i, none⟩ v) := by
        have := run_store P w ⟨b, o + i, none⟩ v .plain hv
        simpa [hc, hf] using this
      rw [hst, Result.andThen_ok, hr]
    · have e1 : (cs.set (o + i) v).take (o + (i + 1)) = cs.take (o + i) ++ [v] := by
        rw [show o + (i + 1) = o + i + 1 by omega, List.take_succ_eq_append_getElem (by simpa using hl')]
        rw [List.take_set, List.set_eq_of_length_le (by simp; omega)]
        simp
      have e2 : (cs.set (o + i) v).drop (o + (i + 1) + vs.length) = cs.drop (o + i + (vs.length + 1)) := by
        rw [List.drop_set_of_lt (by omega)]
        congr 1
        omega
      rw [e1, e2] at ho2
      simpa using ho2
section
variable {P : Program} {n : Nat} {ops rest : List Oper} {N : Val → World → Prop} {Z : List PanicEntry → World → Prop} {f : Val} {w : World}
  {x y : Operand} {t ty tr : TypeId} {pos : String} {after : Array Edge}
/-- A store of a struct into a block of the call's own. -/
theorem O.storeA {b o s : Nat} {cs vs : List Value} (hsz : ∀ w, (sizeOf t).run P w = .ok s w) (hl : vs.length = s) (hx : ev n f x = .pointer (some ⟨b, o, none⟩)) (hy : ev n f y = .agg vs.toArray) (h1 : ∀ v ∈ vs, v.oneCell' = true) (ho : Own w b ty cs) (hlt : o + s ≤ cs.length)
    (h : ∀ w', Own w' b ty (cs.take o ++ vs ++ cs.drop (o + s)) → Ext (fun k => k = b) w w' → w'.heap.size = w.heap.size → O P n ops rest N Z f w') :
    O P n ops ({ dst := .none, op := .store t x y, type := tr, pos := pos, after := after, guard := .none } :: rest) N Z f w := by
  subst hl
  obtain ⟨w', hr, ho', he, hs⟩ := run_storeCells_own (P := P) vs o 0 cs w ho (by simpa using hlt) h1
  refine O.act rfl rfl ?_ (h w' (by simpa using ho') he hs)
  have h3 : execOp (ev n f) { dst := .none, op := .store t x y, type := tr, pos := pos, after := after, guard := .none } = (do Instr.storeAt t (ev n f x) (ev n f y); pure .skip) := rfl
  rw [h3, Sem.run_bind, hx, hy]
  have h4 : (Instr.storeAt t (.pointer (some ⟨b, o, none⟩)) (.agg vs.toArray)).run P w = .ok () w' := by
    simp [Instr.storeAt, Instr.sureAddr, storeVar, hsz, Value.cells, hr]
  rw [h4]
  rfl
end
end Go.Pn
end
section
/-
  Structs of two whole numbers: compared, handed back; what is drawn never grows less. No condition.
-/
namespace Go.Pn
open Go.RowKit
section
variable {P : Program} {n : Nat} {ops rest : List Oper} {N : Val → World → Prop} {X : Nat → Val → World → Prop} {R : Val → World → Prop} {Z : List PanicEntry → World → Prop} {f : Val} {w : World}
  {d : Nat} {x y : Operand} {t t' e tr : TypeId} {pos : String} {after : Array Edge}
theorem run_eq_pair {f0 f1 : Field} (ht : P.underlying t = some (.struct #[f0, f1])) (n0 : f0.name ≠ "_") (n1 : f1.name ≠ "_") (o0 : f0.offset = 0) (o1 : f1.offset = 1) (u0 : P.underlying f0.type = some (.int .i64)) (u1 : P.underlying f1.type = some (.int .i64))
    (a0 : ∀ w, (isAgg f0.type).run P w = .ok false w) (a1 : ∀ w, (isAgg f1.type).run P w = .ok false w) (hp : P.stoodInHeld t = false) (a b : Int × Int) :
    (Op.equalIn 10000 t (.agg #[.int .i64 a.1, .int .i64 a.2]) (.agg #[.int .i64 b.1, .int .i64 b.2])).run P w = .ok (decide (a = b)) w := by
  have hf : P.fieldsOf t = #[f0, f1] := by unfold Program.fieldsOf; rw [ht]
  rw [run_equalIn_struct w 9999 t _ _ (by rw [hf]; exact ht) hp, hf]
  have e0 : ∀ v w, (Op.equalIn 9999 f0.type (.int .i64 a.1) (.int .i64 v)).run P w = .ok (a.1 == v) w := fun v w => run_equalIn_int w 9998 f0.type .i64 .i64 a.1 v u0
  have e1 : ∀ v w, (Op.equalIn 9999 f1.type (.int .i64 a.2) (.int .i64 v)).run P w = .ok (a.2 == v) w := fun v w => run_equalIn_int w 9998 f1.type .i64 .i64 a.2 v u1
  simp only [Op.eqFields, n0, n1, ne_eq, not_false_eq_true, if_true, Sem.run_bind, part, a0, Result.andThen_ok, Bool.false_eq_true, if_false, o0, o1]
  simp only [show (#[Value.int .i64 a.1, .int .i64 a.2])[0]? = some (Value.int .i64 a.1) from rfl, show (#[Value.int .i64 a.1, .int .i64 a.2])[1]? = some (Value.int .i64 a.2) from rfl,
    show (#[Value.int .i64 b.1, .int .i64 b.2])[0]? = some (Value.int .i64 b.1) from rfl, show (#[Value.int .i64 b.1, .int .i64 b.2])[1]? = some (Value.int .i64 b.2) from rfl, Sem.run_pure, Result.andThen_ok, e0, Sem.run_ite]
  by_cases h1 : a.1 = b.1
  · by_cases h2 : a.2 = b.2
    · obtain rfl : a = b := Prod.ext h1 h2
      simp [e1, a1]
    · have h : ¬ a = b := fun h => h2 (by rw [h])
      have h3 : (a.2 == b.2) = false := by simpa using h2
      have h4 : (a.1 == b.1) = true := by simpa using h1
      simp [e1, h, a1, h3, h4]
  · have h : ¬ a = b := fun h => h1 (by rw [h])
    simp [h1, h]
theorem O.neqP {f0 f1 : Field} {a b : Int × Int} (ht : P.underlying t = some (.struct #[f0, f1])) (n0 : f0.name ≠ "_") (n1 : f1.name ≠ "_") (o0 : f0.offset = 0) (o1 : f1.offset = 1) (u0 : P.underlying f0.type = some (.int .i64)) (u1 : P.underlying f1.type = some (.int .i64))
    (a0 : ∀ w, (isAgg f0.type).run P w = .ok false w) (a1 : ∀ w, (isAgg f1.type).run P w = .ok false w) (hp : P.stoodInHeld t = false) (hm : P.eqGuardType P.depth t = false)
    (hx : ev n f x = .agg #[.int .i64 a.1, .int .i64 a.2]) (hy : ev n f y = .agg #[.int .i64 b.1, .int .i64 b.2]) (h : O P n ops rest N Z (upd f d (.bool (decide (a ≠ b)))) w) :
    O P n ops ({ dst := some d, op := .binOp .neq t x y t', type := tr, pos := pos, after := after, guard := .none } :: rest) N Z f w :=
  O.val rfl rfl (run_bin hx hy (run_eqGuard_agg w _ _ _ _ _ _ hm) (by rw [run_neq_struct, run_eq_pair ht n0 n1 o0 o1 u0 u1 a0 a1 hp]; simp [Result.andThen]) _ _) h
/-- A new variable with a value; nothing is drawn. -/
theorem O.boxD {v : Value} (hx : ev n f x = v)
    (h : ∀ b w', w.heap.size ≤ b → Own0 w' b e v.cells.toList → Le w w' → w'.drawn = w.drawn → O P n ops rest N Z (upd f d (.pointer (some ⟨b, 0, none⟩))) w') :
    O P n ops ({ dst := some d, op := .box e x, type := tr, pos := pos, after := after, guard := .none } :: rest) N Z f w := by
  refine O.val rfl rfl ?_ (h w.heap.size (w.alloc (.cells v.cells e)) (Nat.le_refl _) (by simpa using Own0.new w e v.cells.toList) (Le.alloc _ _) rfl)
  have h3 : execOp (ev n f) { dst := some d, op := .box e x, type := tr, pos := pos, after := after, guard := .none } = (do pure (.value (← Instr.box e (ev n f x)))) := rfl
  rw [h3, Sem.run_bind, hx]
  rfl
end
/-- A result that lies in a block of the call's own. -/
theorem Outs.cellA {P : Program} {fn : Func} {n : Nat} {Post : Value → World → Prop} {f : Val} {w : World} {t s b : Nat} {ty ty' : TypeId} {cs : List Value} (hr : fn.results = #[.cell t ty]) (hag : ∀ w, (isAgg ty).run P w = .ok true w) (hs : ∀ w, (sizeOf ty).run P w = .ok s w)
    (hv : ev n f (.tmp t) = .pointer (some ⟨b, 0, Option.none⟩)) (ho : Own w b ty' cs) (hl : cs.length = s) (h : Post (.agg cs.toArray) w) : Outs P fn n Post f w := by
  refine ⟨_, ?_, h⟩
  have hc : (loadCells ⟨b, 0, Option.none⟩ s).run P w = .ok cs.toArray w := by
    have := run_loadCells_list (P := P) w ⟨b, 0, Option.none⟩ cs fun j v hj => by rw [Addr.add_none, Nat.zero_add]; exact ho.cell hj
    rwa [hl] at this
  have hg : (Fr n f).tmps.getD t undef = .pointer (some ⟨b, 0, Option.none⟩) := (getD_Fr n f t).trans hv
  simp [results, hr, -Array.getD_eq_getD_getElem?, hg, asAddr, loadVar, hag, hs, hc]
/-- The same, with a second result beside it. -/
theorem Outs.cellA2 {P : Program} {fn : Func} {n : Nat} {Post : Value → World → Prop} {f : Val} {w : World} {t u s b : Nat} {ty ty' : TypeId} {cs : List Value} {v' : Value} (hr : fn.results = #[.cell t ty, .tmp u]) (hag : ∀ w, (isAgg ty).run P w = .ok true w) (hs : ∀ w, (sizeOf ty).run P w = .ok s w)
    (hv : ev n f (.tmp t) = .pointer (some ⟨b, 0, Option.none⟩)) (hv' : ev n f (.tmp u) = v') (ho : Own w b ty' cs) (hl : cs.length = s) (h : Post (.tuple #[.agg cs.toArray, v']) w) : Outs P fn n Post f w := by
  refine ⟨_, ?_, h⟩
  have hc : (loadCells ⟨b, 0, Option.none⟩ s).run P w = .ok cs.toArray w := by
    have := run_loadCells_list (P := P) w ⟨b, 0, Option.none⟩ cs fun j v hj => by rw [Addr.add_none, Nat.zero_add]; exact ho.cell hj
    rwa [hl] at this
  have hg : (Fr n f).tmps.getD t undef = .pointer (some ⟨b, 0, Option.none⟩) := (getD_Fr n f t).trans hv
  have hg' : (Fr n f).tmps.getD u undef = v' := (getD_Fr n f u).trans hv'
  simp [results, hr, -Array.getD_eq_getD_getElem?, hg, hg', asAddr, loadVar, hag, hs, hc]
/-- A world with new blocks alone, and with no fewer draws, is the old one grown. -/
theorem grow_of_le {w w' : World} (e : Le w w') (hd : w.drawn ≤ w'.drawn) : ∃ q os, w' = Go.Sort.grow (w.drewN q) os := by
  refine ⟨w'.drawn - w.drawn, w'.heap.extract w.heap.size w'.heap.size, ?_⟩
  have hheap : w'.heap = w.heap ++ w'.heap.extract w.heap.size w'.heap.size := by
    apply Array.ext_getElem?
    intro i
    by_cases hi : i < w.heap.size
    · rw [Array.getElem?_append_left hi]
      exact e.block i hi not_false
    · rw [Array.getElem?_append_right (by omega), Array.getElem?_extract]
      have hs := e.size
      split
      · congr 1
        omega
      · rw [Array.getElem?_eq_none (by omega)]
  have hdr : w'.drawn = w.drawn + (w'.drawn - w.drawn) := by omega
  have e1 := e.os
  have e2 := e.tape
  have e3 := e.output
  cases w with
  | mk h t d o u =>
    cases w' with
    | mk h' t' d' o' u' =>
      simp only at hheap hdr e1 e2 e3
      subst e1 e2 e3
      unfold Go.Sort.grow World.drewN
      simp only [World.mk.injEq, true_and, and_true]
      exact ⟨hheap, hdr⟩
/-! literals of structs -/
theorem foldl_sets (off : Nat) : ∀ (vs : List Value) (i : Nat) (cs : Array Value), off + i + vs.length ≤ cs.size →
    ((vs.zipIdx i).foldl (fun (cs : Array Value) (x : Value × Nat) => cs.setIfInBounds (off + x.2) x.1) cs).toList = cs.toList.take (off + i) ++ vs ++ cs.toList.drop (off + i + vs.length) := by
  intro vs
  induction vs with
  | nil => intro i cs _; simp
  | cons v vs ih =>
    intro i cs h
    rw [List.zipIdx_cons, List.foldl_cons, ih (i + 1) _ (by simp at h ⊢; omega)]
    have hl : off + i < cs.toList.length := by simp at h ⊢; omega
    simp only [Array.toList_setIfInBounds]
    have e1 : (cs.toList.set (off + i) v).take (off + (i + 1)) = cs.toList.take (off + i) ++ [v] := by
      rw [show off + (i + 1) = off + i + 1 by omega, List.take_succ_eq_append_getElem (by simpa using hl), List.take_set, List.set_eq_of_length_le (by simp; omega)]
      simp
    have e2 : (cs.toList.set (off + i) v).drop (off + (i + 1) + vs.length) = cs.toList.drop (off + i + (vs.length + 1)) := by
      rw [List.drop_set_of_lt (by omega)]
      congr 1
      omega
    rw [e1, e2]
    simp
theorem fill_flat {α : Type} (G : Flat α) : ∀ (vs : List α) (k : Nat) (cells : Array Value), cells.size = k * G.sz + vs.length * G.sz →
    Instr.fill (fun i => some (i * G.sz, G.sz)) cells ((List.range' k vs.length).zip (vs.map fun x => .agg (G.e x).toArray)) = some (cells.toList.take (k * G.sz) ++ vs.flatMap G.e).toArray := by
  intro vs
  induction vs with
  | nil =>
    intro k cells h
    have e : cells.toList.take (k * G.sz) = cells.toList := List.take_of_length_le (by simp at h; simp; omega)
    simp [Instr.fill, e]
  | cons v vs ih =>
    intro k cells h
    have hk : (k + 1) * G.sz = k * G.sz + G.sz := by rw [Nat.add_mul, Nat.one_mul]
    have hv : (vs.length + 1) * G.sz = vs.length * G.sz + G.sz := by rw [Nat.add_mul, Nat.one_mul]
    rw [List.length_cons, hv] at h
    rw [List.length_cons, List.map_cons, List.range'_succ, List.zip_cons_cons]
    unfold Instr.fill
    have hc : (Value.agg (G.e v).toArray).cells = (G.e v).toArray := rfl
    have hs : (G.e v).toArray.size = G.sz := by simp [G.len]
    simp only [hc]
    have hn : ¬ (decide ((G.e v).toArray.size ≠ G.sz) || decide (k * G.sz + (G.e v).toArray.size > cells.size)) = true := by
      rw [Bool.or_eq_true, decide_eq_true_eq, decide_eq_true_eq]
      rintro (h1 | h1)
      · exact h1 hs
      · omega
    rw [if_neg hn]
    have e := foldl_sets (k * G.sz) (G.e v) 0 cells (by rw [G.len]; omega)
    have e0 : (G.e v).toArray.zipIdx.foldl (fun (cs : Array Value) (x : Value × Nat) => cs.setIfInBounds (k * G.sz + x.2) x.1) cells = ((G.e v).zipIdx 0).foldl (fun (cs : Array Value) (x : Value × Nat) => cs.setIfInBounds (k * G.sz + x.2) x.1) cells := by
      rw [← Array.foldl_toList]
      simp
    rw [e0]
    generalize ((G.e v).zipIdx 0).foldl (fun (cs : Array Value) (x : Value × Nat) => cs.setIfInBounds (k * G.sz + x.2) x.1) cells = cs' at e ⊢
    have hsz : cs'.size = cells.size := by
      rw [← Array.length_toList, e]
      simp [G.len]
      omega
    rw [ih (k + 1) cs' (by rw [hsz, h, hk]; omega), e, hk]
    have e3 : (cells.toList.take (k * G.sz + 0) ++ G.e v ++ cells.toList.drop (k * G.sz + 0 + (G.e v).length)).take (k * G.sz + G.sz) = cells.toList.take (k * G.sz) ++ G.e v := by
      rw [List.take_append_of_le_length (by simp [G.len]; omega), List.take_of_length_le (by simp [G.len]; omega), Nat.add_zero]
    rw [e3, List.append_assoc, List.flatMap_cons]
section
variable {P : Program} {n : Nat} {ops rest : List Oper} {N : Val → World → Prop} {Z : List PanicEntry → World → Prop} {f : Val} {w : World}
  {d : Nat} {t e tr : TypeId} {pos : String} {after : Array Edge} {α : Type} {G : Flat α}
/-- A literal of some structs. -/
theorem O.litG {len : Nat} {parts : List (Nat × Operand)} {ie : TypeInfo} {z : Value} (vs : List α) (hu : P.underlying t = some (.slice e)) (hie : P.info? e = some ie) (hsz : ie.size = G.sz) (hz : ie.zero = some z) (hl : vs.length = len) (hsmall : ¬ len * G.sz > 2 ^ 24) (hpos : ¬ len * G.sz = 0)
    (hvs : parts.map (fun x => (x.1, ev n f x.2)) = (List.range' 0 vs.length).zip (vs.map fun x => .agg (G.e x).toArray))
    (h : ∀ b w', w.heap.size ≤ b → Own0 w' b e (vs.flatMap G.e) → Le w w' → O P n ops rest N Z (upd f d (.slice (some ⟨b, 0, none⟩) len len)) w') :
    O P n ops ({ dst := some d, op := .buildSlice t len parts.toArray, type := tr, pos := pos, after := after, guard := .none } :: rest) N Z f w := by
  refine O.lit (cells := (vs.flatMap G.e).toArray) hu hie hz (by rw [hsz]; exact hsmall) (by rw [hsz]; exact hpos) hvs ?_ (by simpa using h)
  rw [hsz, fill_flat G vs 0 _ (by simp [hl])]
  simp
end
theorem Sl.litG {α : Type} {G : Flat α} {w : World} {b n : Nat} {ty : TypeId} {vs : List α} (h : Own w b ty (vs.flatMap G.e)) (hn : vs.length = n) (hm : n ≤ maxLen) : Sl G.enc w (fun k => k = b) (.slice (some ⟨b, 0, none⟩) n n) vs := by
  subst hn
  exact Sl.of_own h (by rw [← G.length, List.take_length]) (Nat.le_refl _) hm (by rw [G.length]; exact Nat.le_refl _)
end Go.Pn
end
section
/-
  Structs written in place in a slice of the call's own; parts of it; clear. No condition.
-/
namespace Go.Pn
open Go.RowKit
section
variable {α : Type} {G : Flat α} {ty : TypeId} {B : Nat} {w : World} {g cap : Nat} {xs : List α}
theorem Flat.take (G : Flat α) (xs : List α) (i : Nat) : (xs.flatMap G.e).take (i * G.sz) = (xs.take i).flatMap G.e := by
  induction xs generalizing i with
  | nil => simp
  | cons x xs ih =>
    cases i with
    | zero => simp
    | succ i =>
      rw [List.flatMap_cons, List.take_succ_cons, List.flatMap_cons, ← ih i, Nat.add_mul, Nat.one_mul, Nat.add_comm]
      rw [show G.sz + i * G.sz = (G.e x).length + i * G.sz by rw [G.len], List.take_length_add_append]
theorem Flat.drop (G : Flat α) (xs : List α) (i : Nat) : (xs.flatMap G.e).drop (i * G.sz) = (xs.drop i).flatMap G.e := by
  induction xs generalizing i with
  | nil => simp
  | cons x xs ih =>
    cases i with
    | zero => simp
    | succ i =>
      rw [List.flatMap_cons, List.drop_succ_cons, ← ih i, Nat.add_mul, Nat.one_mul, Nat.add_comm]
      rw [show G.sz + i * G.sz = (G.e x).length + i * G.sz by rw [G.len], List.drop_length_add_append]
end
section
variable {α : Type} {G : Flat α} {ty : TypeId} {B : Nat} {w : World} {g cap : Nat} {xs : List α}
/-- A part of it, read. -/
theorem OwnF.part (h : OwnF G ty B w (.slice (some ⟨g, 0, none⟩) xs.length cap) xs) {k : Nat} (hk : k ≤ xs.length) : Sl G.enc w (fun b => b = g) (.slice (some ⟨g, k * G.sz, none⟩) (xs.length - k) (cap - k)) (xs.drop k) := by
  obtain ⟨h0, hm⟩ := h
  rcases h0.2 with ⟨h1, _⟩ | ⟨g', cap', cur, h1, hb, hg, hn, hc, hsz, ht⟩
  · cases h1
  · have e1 : g = g' := by cases h1; rfl
    have e2 : cap = cap' := by cases h1; rfl
    subst e1; subst e2
    have hl : (xs.drop k).length = xs.length - k := by simp
    have hm1 : (cap - k) * G.sz = cap * G.sz - k * G.sz := by rw [Nat.sub_mul]
    have hm2 : k * G.sz ≤ cap * G.sz := Nat.mul_le_mul_right _ (by omega)
    rw [← hl]
    have h00 : Own w g ty cur.toList := ⟨(0, 0), by simpa using hg, .inl rfl⟩
    refine Own.part (G := G) (ty := ty) h00 ?_ (by rw [hl]; omega) (by omega) (by rw [hm1]; simp; omega)
    rw [hl, ← G.drop, ← ht, List.drop_take, Nat.sub_mul]
/-- The first ones of it, still the call's own. -/
theorem OwnF.first (h : OwnF G ty B w (.slice (some ⟨g, 0, none⟩) xs.length cap) xs) {k : Nat} (hk : k ≤ xs.length) : OwnF G ty B w (.slice (some ⟨g, 0, none⟩) k cap) (xs.take k) := by
  obtain ⟨h0, hm⟩ := h
  rcases h0.2 with ⟨h1, _⟩ | ⟨g', cap', cur, h1, hb, hg, hn, hc, hsz, ht⟩
  · cases h1
  · have e1 : g = g' := by cases h1; rfl
    have e2 : cap = cap' := by cases h1; rfl
    subst e1; subst e2
    have hl : (xs.take k).length = k := by simp; omega
    refine ⟨⟨by rw [G.length], .inr ⟨g, cap, cur, by rw [hl], hb, hg, by omega, hc, hsz, ?_⟩⟩, by omega⟩
    rw [hl, ← G.take, ← ht, List.take_take, Nat.min_eq_left (Nat.mul_le_mul_right _ hk)]
end
section
variable {P : Program} {n : Nat} {ops rest : List Oper} {N : Val → World → Prop} {Z : List PanicEntry → World → Prop} {f : Val} {w : World}
  {d : Nat} {x y : Operand} {t e ty tr : TypeId} {pos : String} {after : Array Edge} {α : Type} {G : Flat α} {B g cap : Nat} {xs : List α}
/-- v[:k] of a slice of the call's own. -/
theorem O.subLo {s m k : Nat} {kk : IntKind} {hi : Operand} (ht : P.underlying t = some (.slice e)) (hsz : ∀ w, (sizeOf e).run P w = .ok s w) (hx : ev n f x = .slice (some ⟨g, 0, none⟩) m cap) (hhi : ev n f hi = .int kk (k : Int)) (h1 : k ≤ cap) (h2 : cap ≠ 0)
    (h : O P n ops rest N Z (upd f d (.slice (some ⟨g, 0, none⟩) k cap)) w) :
    O P n ops ({ dst := some d, op := .slice t x .none (some hi) .none, type := tr, pos := pos, after := after, guard := .none } :: rest) N Z f w := by
  refine O.val rfl rfl ?_ h
  have h3 : execOp (ev n f) { dst := some d, op := .slice t x .none (some hi) .none, type := tr, pos := pos, after := after, guard := .none } = (do pure (.value (← Instr.sliceAt t (ev n f x) .none (some (ev n f hi)) .none))) := rfl
  have hbl : (Instr.sliceBound (.int kk (k : Int)) cap .sliceAcap).run P w = .ok k w := by
    have : (k : Int) ≤ cap := by omega
    simp [Instr.sliceBound, asIntOf, this]
  have h4 : (Instr.sliceAt t (.slice (some ⟨g, 0, none⟩) m cap) .none (some (.int kk (k : Int))) .none).run P w = .ok (.slice (some ⟨g, 0, none⟩) k cap) w := by
    unfold Instr.sliceAt
    rw [Sem.run_bind, run_underlying ht, Result.andThen_ok]
    simp only []
    unfold Instr.slice
    rw [Sem.run_bind, run_underlying ht, Result.andThen_ok]
    simp [Instr.sliceBounds, hsz, hbl, h2, Addr.add_none]
  rw [h3, Sem.run_bind, hx, hhi, h4]
  rfl
end
section
variable {P : Program} {n : Nat} {ops rest : List Oper} {N : Val → World → Prop} {Z : List PanicEntry → World → Prop} {f : Val} {w : World}
  {d : Nat} {x y : Operand} {t t' tr : TypeId} {pos : String} {after : Array Edge}
theorem O.minI {a b : Int} (hx : ev n f x = i64 a) (hy : ev n f y = i64 b) (h : O P n ops rest N Z (upd f d (i64 (min a b))) w) :
    O P n ops ({ dst := some d, op := .call { callee := .builtin .min, args := [x, y].toArray, argTypes := [t, t'].toArray }, type := tr, pos := pos, after := after, guard := .none } :: rest) N Z f w := by
  refine O.val rfl rfl ?_ h
  have e : (if b < a then b else a) = min a b := by rw [Int.min_def]; split <;> split <;> omega
  have h3 : (execOp (ev n f) { dst := some d, op := .call { callee := .builtin .min, args := [x, y].toArray, argTypes := [t, t'].toArray }, type := tr, pos := pos, after := after, guard := .none }).run P w = ((Builtin.min_ #[t, t'] tr #[ev n f x, ev n f y]).run P w).andThen (fun v w => .ok (.value v) w) := by
    simp [execOp, resolve, invoke, builtin]
  rw [h3, hx, hy]
  have h4 : (Builtin.min_ #[t, t'] tr #[i64 a, i64 b]).run P w = .ok (i64 (min a b)) w := by
    simp [Builtin.min_, Builtin.min2, i64, e]
  rw [h4]
  rfl
end
theorem Outs.three {P : Program} {fn : Func} {n : Nat} {Post : Value → World → Prop} {f : Val} {w : World} {t u s : Nat} {v v' v'' : Value} (hr : fn.results = #[.tmp t, .tmp u, .tmp s]) (hv : ev n f (.tmp t) = v) (hv' : ev n f (.tmp u) = v') (hv'' : ev n f (.tmp s) = v'') (h : Post (.tuple #[v, v', v'']) w) : Outs P fn n Post f w :=
  ⟨_, by
    have e1 : (Fr n f).tmps.getD t undef = v := (getD_Fr n f t).trans hv
    have e2 : (Fr n f).tmps.getD u undef = v' := (getD_Fr n f u).trans hv'
    have e3 : (Fr n f).tmps.getD s undef = v'' := (getD_Fr n f s).trans hv''
    simp [results, hr, -Array.getD_eq_getD_getElem?, e1, e2, e3], h⟩
end Go.Pn
end
section
/-
  Function values with what they capture; a result that lies in one cell. No condition.
-/
namespace Go.Pn
open Go.RowKit
section
variable {P : Program} {n : Nat} {ops rest : List Oper} {N : Val → World → Prop} {Z : List PanicEntry → World → Prop} {f : Val} {w : World}
  {d : Nat} {x : Operand} {t tr : TypeId} {pos : String} {after : Array Edge}
/-- A function literal. -/
theorem O.makeF {g : Fn} {first cap : List Operand} {v1 v2 : List Value} (h1 : first.map (ev n f) = v1) (h2 : cap.map (ev n f) = v2) (h : O P n ops rest N Z (upd f d (.func g v1.toArray v2.toArray)) w) :
    O P n ops ({ dst := some d, op := .makeFunc g first.toArray cap.toArray, type := tr, pos := pos, after := after, guard := .none } :: rest) N Z f w := by
  refine O.val rfl rfl ?_ h
  have h3 : execOp (ev n f) { dst := some d, op := .makeFunc g first.toArray cap.toArray, type := tr, pos := pos, after := after, guard := .none } = (do pure (.value (← Instr.makeFunc g (first.toArray.map (ev n f)) (cap.toArray.map (ev n f))))) := rfl
  rw [h3, ← h1, ← h2]
  simp [Instr.makeFunc]
/-- A call of a function value. -/
theorem O.callV {g : Nat} {cs : List Value} {xs : List Operand} {vs : List Value} {ats : Array TypeId} {Post : Value → World → Prop}
    (hk : ∀ args w, (callFunc g args).run P w = .ok (.enter g args) w) (hx : ev n f x = .func (.func g) #[] cs.toArray) (hxs : xs.map (ev n f) = vs)
    (hc : Ret P g (vs ++ cs).toArray w Post) (h : ∀ v w', Post v w' → O P n ops rest N Z (upd f d v) w') :
    O P n ops ({ dst := some d, op := .call { callee := .value x, args := xs.toArray, argTypes := ats }, type := tr, pos := pos, after := after, guard := .none } :: rest) N Z f w := by
  subst hxs
  unfold O at h ⊢
  refine wpList_plain rfl fun K hK => ?_
  have hrun : (execOp (ev n f) { dst := some d, op := .call { callee := .value x, args := xs.toArray, argTypes := ats }, type := tr, pos := pos, after := after, guard := .none }).run P w = .ok (.enter g ((xs.map (ev n f)) ++ cs).toArray) w := by
    simp [execOp, resolve, Deferred.ofValue, invoke, hx, hk]
  simp only [Oper.wp, eval_Fr, hrun, Oper.upon_enter]
  refine Calls.mono hc ?_
  intro e w' he
  cases e with
  | returned v => show K ((Fr n f).put (some d) v) w'; rw [put_Fr]; exact hK _ _ (h v w' he)
  | panicked ch => exact he.elim
  | outgrown => exact he.elim
end
/-- A result that lies in one cell of a block of the call's own. -/
theorem Outs.cell1 {P : Program} {fn : Func} {n : Nat} {Post : Value → World → Prop} {f : Val} {w : World} {t b : Nat} {ty ty' : TypeId} {v : Value} (hr : fn.results = #[.cell t ty]) (hag : ∀ w, (isAgg ty).run P w = .ok false w)
    (hv : ev n f (.tmp t) = .pointer (some ⟨b, 0, Option.none⟩)) (ho : Own w b ty' [v]) (h : Post v w) : Outs P fn n Post f w := by
  refine ⟨_, ?_, h⟩
  have hg : (Fr n f).tmps.getD t undef = .pointer (some ⟨b, 0, Option.none⟩) := (getD_Fr n f t).trans hv
  have hc := ho.cell (i := 0) (v := v) rfl
  simp [results, hr, -Array.getD_eq_getD_getElem?, hg, asAddr, loadVar, hag, hc]
theorem OwnF.one {α : Type} {G : Flat α} {ty : TypeId} {B : Nat} {w : World} {v : Value} {xs : List α} (h : OwnF G ty B w v xs) : v.oneCell' = true := by
  rcases h.1.2 with ⟨rfl, _⟩ | ⟨g, cap, cur, rfl, _⟩ <;> rfl
end Go.Pn
end
section
/-
  Regions that draw, where many operations may come up; a region whose ways meet. No condition.
-/
namespace Go.Pn
section
variable {P : Program} {n : Nat} {c : Code} {N : Val → World → Prop} {X : Nat → Val → World → Prop} {R : Val → World → Prop} {Z : List PanicEntry → World → Prop} {f : Val} {w wB : World}
  {l : List Oper} {pos : String} {after : Array Edge}
/-- The ways of a piece of code meet behind it. -/
theorem C.join (Q : Val → World → Val → World → Prop) (h1 : C P n c (Q f w) X R Z f w) (h2 : ∀ f' w', Q f w f' w' → N f' w') : C P n c N X R Z f w := h1.mono h2
/-- One that comes up. -/
def DStep (P : Program) (n : Nat) (l : List Oper) (listed : Array Bool) (N : Val → World → Prop) (Z : List PanicEntry → World → Prop) (wB : World) (fuel : Nat) (f : Val) (w : World) (j : Nat) : Prop :=
  wpOp P l.toArray (Q0 n N Z) j (fun a' w' => Le wB w' ∧ wpAnyH P .any l.toArray (Q0 n N Z) (fun w' => Le wB w') fuel (listed.setIfInBounds j true) a' w') (Fr n f) w
def allP (p : Nat → Prop) : List Nat → Prop
  | [] => True
  | i :: r => p i ∧ allP p r
theorem allP_mem {p : Nat → Prop} : ∀ {l : List Nat}, allP p l → ∀ i ∈ l, p i
  | [], _, i, h => by cases h
  | j :: r, h, i, hi => by
    rcases List.mem_cons.1 hi with rfl | hi
    · exact h.1
    · exact allP_mem h.2 i hi
theorem D.many {listed : Array Bool} {fuel : Nat} (is : List Nat) (hr : Region.ready .any l.toArray listed = is) (hne : is ≠ []) (h : allP (DStep P n l listed N Z wB fuel f w) is) : D P n l listed N Z wB (fuel + 1) f w := by
  subst hr
  exact wpAnyH_all rfl hne (allP_mem h)
end
end Go.Pn
end
section
/-
  One cell of an element of a slice: read; written in place. No condition.
-/
namespace Go.Pn
open Go.RowKit
theorem Flat.set1 {α : Type} (G : Flat α) {off : Nat} {z : α} {u : Value} : ∀ (xs : List α) (i : Nat) (h : i < xs.length), off < G.sz → G.e z = (G.e xs[i]).set off u → (xs.flatMap G.e).set (i * G.sz + off) u = (xs.set i z).flatMap G.e
  | [], i, h, _, _ => by simp at h
  | x :: xs, 0, h, ho, hz => by
    simp only [List.getElem_cons_zero] at hz
    rw [List.flatMap_cons, List.set_cons_zero, List.flatMap_cons, Nat.zero_mul, Nat.zero_add, List.set_append_left _ _ (by rw [G.len]; exact ho), hz]
  | x :: xs, i + 1, h, ho, hz => by
    simp only [List.getElem_cons_succ] at hz
    have ih := Flat.set1 G (off := off) (z := z) (u := u) xs i (by simpa using h) ho hz
    rw [List.flatMap_cons, List.set_cons_succ, List.flatMap_cons, List.set_append_right _ _ (by rw [G.len, Nat.add_mul]; omega), G.len, ← ih]
    congr 2
    rw [Nat.add_mul]
    omega
section
variable {α : Type} {G : Flat α} {ty : TypeId} {B : Nat} {w : World} {g cap : Nat} {xs : List α}
theorem OwnF.put1 {i off : Nat} {z : α} {u : Value} (h : OwnF G ty B w (.slice (some ⟨g, 0, none⟩) xs.length cap) xs) (hi : i < xs.length) (ho : off < G.sz) (hz : G.e z = (G.e xs[i]).set off u) :
    OwnF G ty B (w.setCell ⟨g, i * G.sz + off, none⟩ u) (.slice (some ⟨g, 0, none⟩) xs.length cap) (xs.set i z) := by
  obtain ⟨h0, hm⟩ := h
  refine ⟨⟨by rw [G.length], ?_⟩, by rw [List.length_set]; exact hm⟩
  rcases h0.2 with ⟨h1, _⟩ | ⟨g', cap', cur, h1, hb, hg, hn, hc, hsz, ht⟩
  · cases h1
  · have e1 : g = g' := by cases h1; rfl
    have e2 : cap = cap' := by cases h1; rfl
    subst e1; subst e2
    refine .inr ⟨g, cap, (cur.toList.set (i * G.sz + off) u).toArray, by rw [List.length_set], hb, ?_, by rw [List.length_set]; exact hn, hc, by simpa using hsz, ?_⟩
    · have h5 := heap_set w g (i * G.sz + off) u (cs := cur.toList) (ty := ty) (fr := (0, 0)) (by simpa using hg)
      exact h5
    · rw [List.length_set, ← G.set1 xs i hi ho hz, ← ht]
      simp only [List.take_set]
end
section
variable {P : Program} {n : Nat} {ops rest : List Oper} {N : Val → World → Prop} {Z : List PanicEntry → World → Prop} {f : Val} {w : World}
  {d : Nat} {x y : Operand} {t tr ty : TypeId} {pos : String} {after : Array Edge} {α : Type}
theorem At.cellAt {E : Enc α} {w : World} {F : Nat → Prop} {a : Addr} {z : α} (ha : At E w F a z) : ∃ cs, E.rep w F cs z ∧ ∀ i v, cs[i]? = some v → w.cell? (a.add i) = some v := by
  obtain ⟨b, off, cur, ty, fr, rfl, hF, hb, hs, hr⟩ := ha
  refine ⟨_, hr, fun i v hv => ?_⟩
  rw [Addr.add_none]
  rw [List.getElem?_take] at hv
  split at hv
  · rw [List.getElem?_drop] at hv
    simp only [World.cell?, hb, Option.isSome_none, Bool.false_eq_true, if_false]
    simpa using hv
  · cases hv
/-- The address of a field of an element. -/
theorem O.fieldAt {fields : Array Field} {fd : Field} {k s : Nat} {a : Addr} (ht : P.underlying t = some (.struct fields)) (hf : fields[k]? = some fd) (hs : ∀ w, (sizeOf fd.type).run P w = .ok s w) (h0 : s ≠ 0) (hx : ev n f x = .pointer (some a))
    (h : O P n ops rest N Z (upd f d (.pointer (some (a.add fd.offset)))) w) : O P n ops ({ dst := some d, op := .fieldAddr t x k, type := tr, pos := pos, after := after, guard := .none } :: rest) N Z f w := by
  refine O.val rfl rfl ?_ h
  have h3 : execOp (ev n f) { dst := some d, op := .fieldAddr t x k, type := tr, pos := pos, after := after, guard := .none } = (do pure (.value (← Instr.fieldAt t (ev n f x) k))) := rfl
  rw [h3, Sem.run_bind, hx]
  have h4 : (Instr.fieldAt t (.pointer (some a)) k).run P w = .ok (.pointer (some (a.add fd.offset))) w := by
    unfold Instr.fieldAt
    rw [Sem.run_bind, run_underlying ht, Result.andThen_ok]
    simp [hf, Instr.sureAddr, fieldPlace, hs, h0]
  rw [h4]
  rfl
/-- A load of one cell of an element. -/
theorem O.loadAtC {E : Enc α} {F : Nat → Prop} {a : Addr} {z : α} {off : Nat} (hag : ∀ w, (isAgg t).run P w = .ok false w) (hoff : off < E.sz) (hx : ev n f x = .pointer (some (a.add off))) (ha : At E w F a z)
    (h : ∀ cs u, E.rep w F cs z → cs[off]? = some u → O P n ops rest N Z (upd f d u) w) :
    O P n ops ({ dst := some d, op := .load t x, type := tr, pos := pos, after := after, guard := .none } :: rest) N Z f w := by
  obtain ⟨cs, hr, hc⟩ := ha.cellAt
  have hl : off < cs.length := by rw [E.len hr]; exact hoff
  have hu := hc off cs[off] (by simp [hl])
  refine O.val rfl rfl ?_ (h cs cs[off] hr (by simp [hl]))
  have h3 : execOp (ev n f) { dst := some d, op := .load t x, type := tr, pos := pos, after := after, guard := .none } = (do pure (.value (← Instr.loadAt t (ev n f x)))) := rfl
  rw [h3, Sem.run_bind, hx]
  have h4 : (Instr.loadAt t (.pointer (some (a.add off)))).run P w = .ok cs[off] w := by
    simp [Instr.loadAt, Instr.sureAddr, loadVar, hag, hu]
  rw [h4]
  rfl
/-- The same where the element lies flat. -/
theorem O.loadAtF {G : Flat α} {F : Nat → Prop} {a : Addr} {z : α} {off : Nat} {u : Value} (hag : ∀ w, (isAgg t).run P w = .ok false w) (hu : (G.e z)[off]? = some u) (hx : ev n f x = .pointer (some (a.add off))) (ha : At G.enc w F a z)
    (h : O P n ops rest N Z (upd f d u) w) : O P n ops ({ dst := some d, op := .load t x, type := tr, pos := pos, after := after, guard := .none } :: rest) N Z f w := by
  have hoff : off < G.enc.sz := by
    have := (List.getElem?_eq_some_iff.1 hu).1
    rw [G.len] at this
    exact this
  refine O.loadAtC hag hoff hx ha fun cs u' hr hu' => ?_
  have e : cs = G.e z := hr
  subst e
  rw [hu] at hu'
  cases hu'
  exact h
end
end Go.Pn
end
section
/-
  Function values that decide; structs whose parts lie elsewhere; a writer of bytes. No condition beyond what each rule asks.
-/
namespace Go.Pn
open Go.RowKit
/-! function values that decide -/
/-- A function value decides p, wherever the blocks outside M are as they were. -/
def Pred {α : Type} (P : Program) (M : Nat → Prop) (w : World) (v : Value) (arg : α → Value) (p : α → Bool) : Prop :=
  ∃ (g : Nat) (cs : List Value), v = .func (.func g) #[] cs.toArray ∧ (∀ args w, (callFunc g args).run P w = .ok (.enter g args) w) ∧
    ∀ x w', Ext M w w' → Ret P g (arg x :: cs).toArray w' (fun v w'' => v = .bool (p x) ∧ Le w' w'')
section
variable {α : Type} {P : Program} {M : Nat → Prop} {w w' : World} {v : Value} {arg : α → Value} {p : α → Bool}
theorem Pred.keepM {M' : Nat → Prop} (h : Pred P M w v arg p) (e : Ext M' w w') (hM : ∀ k, M' k → M k) : Pred P M w' v arg p := by
  obtain ⟨g, cs, h1, h2, h3⟩ := h
  exact ⟨g, cs, h1, h2, fun x w'' e' => h3 x w'' (Ext.trans (e.mono fun k _ h => hM k h) e')⟩
theorem Pred.weak {M' : Nat → Prop} (h : Pred P M w v arg p) (hM : ∀ k, M' k → M k) : Pred P M' w v arg p := by
  obtain ⟨g, cs, h1, h2, h3⟩ := h
  exact ⟨g, cs, h1, h2, fun x w'' e' => h3 x w'' (e'.mono fun k _ h => hM k h)⟩
theorem Pred.keep (h : Pred P M w v arg p) (e : Le w w') : Pred P M w' v arg p := h.keepM e fun _ h => h.elim
end
section
variable {P : Program} {n : Nat} {ops rest : List Oper} {N : Val → World → Prop} {Z : List PanicEntry → World → Prop} {f : Val} {w : World}
  {d : Nat} {x y : Operand} {t tr ty : TypeId} {pos : String} {after : Array Edge}
theorem O.callP {α : Type} {M : Nat → Prop} {v : Value} {arg : α → Value} {p : α → Bool} {ats : Array TypeId} (z : α) (hp : Pred P M w v arg p) (hx : ev n f x = v) (hy : ev n f y = arg z) (h : ∀ w', Le w w' → O P n ops rest N Z (upd f d (.bool (p z))) w') :
    O P n ops ({ dst := some d, op := .call { callee := .value x, args := [y].toArray, argTypes := ats }, type := tr, pos := pos, after := after, guard := .none } :: rest) N Z f w := by
  obtain ⟨g, cs, rfl, hk, hr⟩ := hp
  exact O.callV (vs := [arg z]) hk hx (by simp [hy]) (hr z w (Ext.refl _ _)) fun v w' h' => by obtain ⟨rfl, e⟩ := h'; exact h w' e
/-! structs -/
/-! pointers compared with nil -/
end
/-! a writer of bytes -/
/-- The writer at bw has written xs; its bytes lie in g. -/
def Wr (ty te : TypeId) (w : World) (bw g : Nat) (xs : List UInt8) : Prop :=
  ∃ v, Own w bw ty [v] ∧ OwnF byteF te 0 w v xs ∧ (∀ k, bk v k → k = g) ∧ (∀ k, bk v k → k ≠ bw) ∧ g < w.heap.size
section
variable {ty te : TypeId} {w w' : World} {bw g : Nat} {xs : List UInt8}
theorem Wr.keepM {M : Nat → Prop} (h : Wr ty te w bw g xs) (e : Ext M w w') (hM : ∀ k, (k = bw ∨ k = g) → ¬ M k) : Wr ty te w' bw g xs := by
  obtain ⟨v, h1, h2, h3, h4, h5⟩ := h
  exact ⟨v, h1.keepM e (hM bw (.inl rfl)), h2.keepM e fun k hk => hM k (.inr (h3 k hk)), h3, h4, e.lt h5⟩
theorem Wr.keep (h : Wr ty te w bw g xs) (e : Le w w') : Wr ty te w' bw g xs := h.keepM e fun _ _ => not_false
theorem Wr.lt (h : Wr ty te w bw g xs) : bw < w.heap.size ∧ g < w.heap.size := by
  obtain ⟨v, h1, h2, h3, h4, h5⟩ := h
  exact ⟨h1.lt, h5⟩
/-- A new one. -/
theorem Wr.new (h : Own w bw ty [.slice none 0 0]) : Wr ty te w bw bw [] := ⟨_, h, OwnF.nil _ _ _ _, fun _ h => h.elim, fun _ h => h.elim, h.lt⟩
/-- What is in the writer's cell. -/
theorem Wr.cell (h : Wr ty te w bw g xs) : ∃ v, Own w bw ty [v] ∧ OwnF byteF te 0 w v xs ∧ (∀ k, bk v k → k = g) ∧ (∀ k, bk v k → k ≠ bw) := by
  obtain ⟨v, h1, h2, h3, h4, _⟩ := h
  exact ⟨v, h1, h2, h3, h4⟩
/-- Behind a write. -/
theorem Wr.put {v : Value} (h1 : Own w bw ty [v]) (h2 : OwnF byteF te 0 w v xs) (h3 : ∀ k, bk v k → k ≠ bw) : ∃ g', Wr ty te w bw g' xs ∧ ((bk v g' ∧ ∀ k, bk v k → k = g') ∨ g' = bw) := by
  by_cases h : ∃ k, bk v k
  · obtain ⟨k, hk⟩ := h
    have huniq : ∀ j, bk v j → j = k := by
      intro j hj
      cases v with
      | slice a n c =>
        cases a with
        | none => exact hj.elim
        | some a => simp only [bk] at hj hk; rw [hj, hk]
      | _ => exact hj.elim
    exact ⟨k, ⟨v, h1, h2, huniq, h3, (h2.bk_ge k hk).2⟩, .inl ⟨hk, huniq⟩⟩
  · exact ⟨bw, ⟨v, h1, h2, fun k hk => absurd ⟨k, hk⟩ h, h3, h1.lt⟩, .inr rfl⟩
end
end Go.Pn
end
section
/-
  Where an appended row lies; items and their marks in memory; marks compared. No condition beyond what each rule asks.
-/
namespace Go.Pn
open Go.RowKit
section
variable {α : Type} {G : Flat α} {w w' : World} {F : Nat → Prop} {v v' y : Value} {xs ys : List α} {B : Nat} {ty : TypeId}
end
section
variable {P : Program} {n : Nat} {ops rest : List Oper} {N : Val → World → Prop} {Z : List PanicEntry → World → Prop} {f : Val} {w : World}
  {d : Nat} {x y : Operand} {t t' ty tr e : TypeId} {pos : String} {after : Array Edge} {α : Type} {G : Flat α} {F : Nat → Prop}
end
/-! marks, items -/
abbrev MarkT := (Int × Int) × Int × BitVec 64
abbrev ItemT := List UInt8 × List MarkT
def markF : Flat MarkT := ⟨4, fun m => [.int .i64 m.1.1, .int .i64 m.1.2, .int .i64 m.2.1, .int .u64 (m.2.2.toNat : Int)], fun _ => rfl, by simp [Value.oneCell'], by decide⟩
def mv (m : MarkT) : Value := .agg #[.int .i64 m.1.1, .int .i64 m.1.2, .int .i64 m.2.1, .int .u64 (m.2.2.toNat : Int)]
/-- An item: its name, and where its marks lie. -/
def itemE : Enc ItemT where
  sz := 2
  rep := fun w F cs x => ∃ v, cs = [str x.1, v] ∧ Sl markF.enc w F v x.2
  len := by rintro w F cs x ⟨v, rfl, _⟩; rfl
  one := by
    rintro w F cs x ⟨v, rfl, h⟩ c hc
    obtain ⟨l, cap, rfl, _⟩ := h.val
    simp only [List.mem_cons, List.not_mem_nil, or_false] at hc
    rcases hc with rfl | rfl <;> rfl
  ext := by rintro w w' F cs x ⟨v, rfl, h⟩ hw; exact ⟨v, rfl, h.ext hw⟩
  weak := by rintro w F F' cs x ⟨v, rfl, h⟩ hF; exact ⟨v, rfl, h.weak hF⟩
/-- A slice's value. -/
def slv (x : Option Addr × Nat × Nat) : Value := .slice x.1 x.2.1 x.2.2
/-- An item's cells: its name, and the value of its marks. -/
def itemF : Flat (List UInt8 × (Option Addr × Nat × Nat)) := ⟨2, fun x => [str x.1, slv x.2], fun _ => rfl, by simp [Value.oneCell', str, slv], by decide⟩
/-- The items whose cells are these. -/
def Items (w : World) (F : Nat → Prop) (raw : List (List UInt8 × (Option Addr × Nat × Nat))) (xs : List ItemT) : Prop :=
  raw.length = xs.length ∧ ∀ i, ∀ h : i < raw.length, ∀ h' : i < xs.length, raw[i].1 = xs[i].1 ∧ Sl markF.enc w F (slv raw[i].2) xs[i].2
theorem Items.nil {w : World} {F : Nat → Prop} : Items w F [] [] := ⟨rfl, fun i h => by simp at h⟩
theorem Items.keepM {M : Nat → Prop} {w w' : World} {F : Nat → Prop} {raw : List (List UInt8 × (Option Addr × Nat × Nat))} {xs : List ItemT} (h : Items w F raw xs) (e : Ext M w w') (hM : ∀ k, F k → ¬ M k) : Items w' F raw xs :=
  ⟨h.1, fun i h1 h2 => ⟨(h.2 i h1 h2).1, (h.2 i h1 h2).2.keepM e hM⟩⟩
theorem Items.keep {w w' : World} {F : Nat → Prop} {raw : List (List UInt8 × (Option Addr × Nat × Nat))} {xs : List ItemT} (h : Items w F raw xs) (e : Le w w') : Items w' F raw xs := h.keepM e fun _ _ => not_false
theorem Items.weak {w : World} {F F' : Nat → Prop} {raw : List (List UInt8 × (Option Addr × Nat × Nat))} {xs : List ItemT} (h : Items w F raw xs) (hF : ∀ k, F k → F' k) : Items w F' raw xs :=
  ⟨h.1, fun i h1 h2 => ⟨(h.2 i h1 h2).1, (h.2 i h1 h2).2.weak hF⟩⟩
/-- A slice of cells of items is one of items. -/
theorem Items.sl {w : World} {F : Nat → Prop} {v : Value} {raw : List (List UInt8 × (Option Addr × Nat × Nat))} {xs : List ItemT} (h : Items w F raw xs) (hv : Sl itemF.enc w F v raw) : Sl itemE w F v xs := by
  have hl := h.1
  refine ⟨by rw [← hl]; exact hv.1, ?_⟩
  rcases hv.2 with ⟨a, rfl, rfl⟩ | ⟨b, off, cap, cur, ty, fr, rfl, hF, hb, h1, h2, h3, hr⟩
  · exact .inl ⟨a, rfl, List.eq_nil_of_length_eq_zero (by rw [← hl]; rfl)⟩
  · refine .inr ⟨b, off, cap, cur, ty, fr, by rw [hl], hF, hb, by omega, h2, by rw [← hl]; exact h3, fun i hi => ?_⟩
    have h4 : (cur.toList.drop (off + i * 2)).take 2 = itemF.e (raw[i]'(by omega)) := hr i (by omega)
    obtain ⟨h5, h6⟩ := h.2 i (by omega) hi
    refine ⟨_, ?_, h6⟩
    show (cur.toList.drop (off + i * 2)).take 2 = _
    rw [h4, ← h5]
    rfl
theorem Sl.slv {α : Type} {E : Enc α} {w : World} {F : Nat → Prop} {v : Value} {xs : List α} (h : Sl E w F v xs) : ∃ a, v = Go.Pn.slv a := by
  obtain ⟨l, cap, rfl, _⟩ := h.val
  exact ⟨(l, xs.length, cap), rfl⟩
theorem Sl.oneC {α : Type} {E : Enc α} {w : World} {F : Nat → Prop} {v : Value} {xs : List α} (h : Sl E w F v xs) : v.oneCell' = true := by
  obtain ⟨l, cap, rfl, _⟩ := h.val
  rfl
section
variable {P : Program} {n : Nat} {ops rest : List Oper} {N : Val → World → Prop} {Z : List PanicEntry → World → Prop} {f : Val} {w : World}
  {d : Nat} {x : Operand} {t tr : TypeId} {pos : String} {after : Array Edge}
end
/-! marks compared -/
section
variable {P : Program} {n : Nat} {ops rest : List Oper} {N : Val → World → Prop} {Z : List PanicEntry → World → Prop} {f : Val} {w : World}
  {d : Nat} {x y : Operand} {t t' tr : TypeId} {pos : String} {after : Array Edge}
end
section
variable {P : Program} {n : Nat} {ops rest : List Oper} {N : Val → World → Prop} {Z : List PanicEntry → World → Prop} {f : Val} {w : World}
  {d : Nat} {x y : Operand} {t t' tr : TypeId} {pos : String} {after : Array Edge}
end
end Go.Pn
end
section
/-
  WHAT A ROW'S CONDITION GIVES A WALK: structs of three fields, marks, items, carts. Of no program.
-/
namespace Go.Pn
open Go.ChangeShapes Go.WideShapes Go.ChangeAt Go.RowKit
section
variable {P : Program} {W : World} {α β γ : Type} {E : Enc α} {E' : Enc β} {E'' : Enc γ} {Q : α → Prop} {Q' : β → Prop} {Q'' : γ → Prop} {t e : TypeId}
end
end Go.Pn
end
section
/-
  Plain laws of dots: their order, sets of them. No program in sight. No condition.
-/
namespace Go.Pn
section
variable {P : Program} {n : Nat} {ops rest : List Oper} {N : Val → World → Prop} {Z : List PanicEntry → World → Prop} {f : Val} {w : World}
  {d : Nat} {x : Operand} {t ty : TypeId} {pos : String} {after : Array Edge} {F : Nat → Prop}
end
end Go.Pn
namespace Go.Pn.Dt
/-- A dot: its replica, its counter. -/
abbrev Dot := Int × Int
def dotF : Flat Dot := ⟨2, fun d => [.int .i64 d.1, .int .i64 d.2], fun _ => rfl, by simp [Value.oneCell'], by decide⟩
/-- The value of a dot. -/
def dv (d : Dot) : Value := .agg #[.int .i64 d.1, .int .i64 d.2]
def Valid (d : Dot) : Prop := 1 ≤ d.1 ∧ d.1 ≤ 65535 ∧ 1 ≤ d.2 ∧ d.2 ≤ 4294967295
instance (d : Dot) : Decidable (Valid d) := by unfold Valid; infer_instance
def Less (a b : Dot) : Prop := a.2 < b.2 ∨ (a.2 = b.2 ∧ a.1 < b.1)
instance (a b : Dot) : Decidable (Less a b) := by unfold Less; infer_instance
/-- How two whole numbers stand to each other. -/
def icmp (a b : Int) : Int := if a < b then -1 else if b < a then 1 else 0
/-! sets -/
/-- A set with one more dot. -/
def withD (s : List Dot) (d : Dot) : List Dot := if d ∈ s then s else s.takeWhile (fun y => decide (Less y d)) ++ d :: s.dropWhile (fun y => decide (Less y d))
/-- The set of a list, behind a set. -/
def addAll (s l : List Dot) : List Dot := l.foldl withD s
def set (l : List Dot) : List Dot := addAll [] l
end Go.Pn.Dt
end
section
/-
  PLAIN LAWS OF CARTS AS BYTES: what a valid cart is, its bytes, and that no bytes are the beginning of others. Of no program.
-/
namespace Go.Pn.Cn
open Go Go.Pn
abbrev Dot := Dt.Dot
abbrev Mark := MarkT
abbrev Item := ItemT
abbrev Ctx := List Dot × List Dot
abbrev Cart := Ctx × List Item
instance decItem : DecidableEq Item := inferInstanceAs (DecidableEq (List UInt8 × List MarkT))
instance decCart : DecidableEq Cart := inferInstanceAs (DecidableEq ((List Dt.Dot × List Dt.Dot) × List Item))
/-! the bytes -/
/-- The bytes of a number. -/
def num (n : Nat) : List UInt8 := if n < 128 then [UInt8.ofNat n] else UInt8.ofNat (128 + n % 128) :: num (n / 128)
termination_by n
decreasing_by omega
/-- A whole number as one without sign. -/
def u (x : Int) : Nat := (BitVec.ofInt 64 x).toNat
def dotB (d : Dot) : List UInt8 := num (u d.1) ++ num (u d.2)
def dotsB (l : List Dot) : List UInt8 := num l.length ++ l.flatMap dotB
def ctxB (x : Ctx) : List UInt8 := dotsB x.1 ++ dotsB x.2
def markB (m : Mark) : List UInt8 := num (u m.1.1) ++ (num (u m.1.2) ++ (num (u m.2.1) ++ num m.2.2.toNat))
def strB (s : List UInt8) : List UInt8 := num s.length ++ s
def itemB (x : Item) : List UInt8 := strB x.1 ++ (num x.2.length ++ x.2.flatMap markB)
def itemsB (l : List Item) : List UInt8 := num l.length ++ l.flatMap itemB
def bytes (c : Cart) : List UInt8 := ctxB c.1 ++ itemsB c.2
/-! what is allowed -/
def get (v : List Dot) (r : Int) : Int := match v.find? (fun d => d.1 == r) with
  | some d => d.2
  | none => 0
/-- Each one and the next one. -/
def adj {α : Type} (r : α → α → Bool) : List α → Bool
  | a :: b :: l => r a b && adj r (b :: l)
  | _ => true
def incr (v : List Dot) : Bool := adj (fun a b => decide (a.1 < b.1)) v
def okD (d : Dot) : Bool := decide (Dt.Valid d)
def badD (d : Dot) : Bool := !okD d
def vecValid (v : List Dot) : Bool := incr v && !v.any badD
def vecHas (v : List Dot) (d : Dot) : Bool := okD d && decide (d.2 ≤ get v d.1)
/-! no bytes are the beginning of others -/
theorem okD_of {d : Dot} (h : badD d = false) : Dt.Valid d := by
  unfold badD okD at h
  simpa using h
/-! order -/
end Go.Pn.Cn
end
section
/-
  PLAIN LAWS OF CARTS AS BYTES: what loops gather. Of no program.
-/
namespace Go.Pn.Cn
open Go Go.Pn
/-! searching -/
/-- Where the first one is, or -1. -/
def idx {α : Type} (p : α → Bool) : List α → Int
  | [] => -1
  | a :: l => if p a then 0 else if idx p l = -1 then -1 else idx p l + 1
section
variable {α : Type} {p : α → Bool} {l : List α}
theorem idx_ge : ∀ l : List α, -1 ≤ idx p l
  | [] => by simp [idx]
  | a :: l => by
    have := idx_ge l
    rw [idx]
    split
    · omega
    · split <;> omega
theorem idx_no : ∀ {l : List α}, (∀ i, ∀ h : i < l.length, p l[i] = false) → idx p l = -1
  | [], _ => rfl
  | a :: l, h => by
    have h0 := h 0 (by simp)
    have h1 := idx_no (l := l) fun i hi => by
      have := h (i + 1) (by simpa using hi)
      simpa using this
    simp only [List.getElem_cons_zero] at h0
    rw [idx, h0, h1]
    rfl
theorem idx_yes : ∀ {l : List α} {k : Nat} (hk : k < l.length), p l[k] = true → (∀ i, ∀ h : i < l.length, i < k → p l[i] = false) → idx p l = k
  | [], k, hk, _, _ => by simp at hk
  | a :: l, 0, _, h, _ => by
    simp only [List.getElem_cons_zero] at h
    rw [idx, h]
    rfl
  | a :: l, k + 1, hk, h, hb => by
    have h0 := hb 0 (by simp) (by omega)
    simp only [List.getElem_cons_zero] at h0
    have h1 := idx_yes (l := l) (k := k) (by simpa using hk) (by simpa using h) fun i hi hik => by
      have := hb (i + 1) (by simpa using hi) (by omega)
      simpa using this
    rw [idx, h0, h1, if_neg (by decide), if_neg (by omega)]
    omega
theorem idx_any : ∀ l : List α, decide (idx p l ≥ 0) = l.any p
  | [] => rfl
  | a :: l => by
    have ih := idx_any l
    have := idx_ge (p := p) l
    rw [idx, List.any_cons]
    by_cases h : p a = true
    · rw [if_pos h, h]; rfl
    · rw [if_neg h]
      have h' : p a = false := by simpa using h
      rw [h', Bool.false_or, ← ih]
      apply decide_eq_decide.2
      split <;> omega
theorem idx_lt {l : List α} (h : 0 ≤ idx p l) : (idx p l).toNat < l.length := by
  induction l with
  | nil => simp [idx] at h
  | cons a l ih =>
    rw [idx] at h ⊢
    split
    · simp
    · split
      · rename_i h1 h2
        rw [if_neg h1, if_pos h2] at h
        omega
      · rename_i h1 h2
        rw [if_neg h1, if_neg h2] at h
        have := idx_ge (p := p) l
        have := ih (by omega)
        simp only [List.length_cons]
        omega
end
theorem get_no {v : List Dot} {r : Int} (h : idx (fun d : Dot => decide (d.1 = r)) v < 0) : get v r = 0 := by
  induction v with
  | nil => rfl
  | cons a v ih =>
    rw [idx] at h
    split at h
    · omega
    · rename_i h1
      have h2 := idx_ge (p := fun d : Dot => decide (d.1 = r)) v
      have h3 : idx (fun d : Dot => decide (d.1 = r)) v < 0 := by
        split at h <;> omega
      have h4 : ¬ a.1 = r := by simpa using h1
      unfold get at ih ⊢
      rw [List.find?_cons_of_neg (by simpa using h4)]
      exact ih h3
theorem get_yes {v : List Dot} {r : Int} {k : Nat} (h : idx (fun d : Dot => decide (d.1 = r)) v = k) : ∃ hk : k < v.length, get v r = v[k].2 := by
  induction v generalizing k with
  | nil => simp [idx] at h
  | cons a v ih =>
    rw [idx] at h
    have h2 := idx_ge (p := fun d : Dot => decide (d.1 = r)) v
    split at h
    · rename_i h1
      obtain rfl : k = 0 := by omega
      have h4 : a.1 = r := by simpa using h1
      refine ⟨by simp, ?_⟩
      unfold get
      rw [List.find?_cons_of_pos (by simpa using h4)]
      try rfl
    · rename_i h1
      have h4 : ¬ a.1 = r := by simpa using h1
      split at h
      · omega
      · obtain ⟨j, rfl⟩ : ∃ j, k = j + 1 := ⟨k - 1, by omega⟩
        obtain ⟨hj, e⟩ := ih (k := j) (by omega)
        refine ⟨by simpa using hj, ?_⟩
        unfold get at e ⊢
        rw [List.find?_cons_of_neg (by simpa using h4)]
        simpa using e
theorem get_yes2 {v : List Dot} {r : Int} (h : ¬ idx (fun d : Dot => decide (d.1 = r)) v < 0) : ∃ hk : (idx (fun d : Dot => decide (d.1 = r)) v).toNat < v.length, get v r = v[(idx (fun d : Dot => decide (d.1 = r)) v).toNat].2 := get_yes (by omega)
/-! neighbours -/
section
variable {α : Type} {r : α → α → Bool}
theorem adj_yes : ∀ {l : List α}, (∀ i, ∀ h : i + 1 < l.length, r l[i] l[i + 1] = true) → adj r l = true
  | [], _ => rfl
  | [_], _ => rfl
  | a :: b :: l, h => by
    have h0 := h 0 (by simp)
    have h1 := adj_yes (l := b :: l) fun i hi => by
      have := h (i + 1) (by simpa using hi)
      simpa using this
    simp only [List.getElem_cons_zero, List.getElem_cons_succ] at h0
    rw [adj, h0, h1]
    rfl
theorem adj_of : ∀ {l : List α}, adj r l = true → ∀ i, ∀ h : i + 1 < l.length, r l[i] l[i + 1] = true
  | [], _, i, hi => by simp at hi
  | [_], _, i, hi => by simp at hi
  | a :: b :: l, h, 0, hi => by
    rw [adj, Bool.and_eq_true] at h
    simpa using h.1
  | a :: b :: l, h, i + 1, hi => by
    rw [adj, Bool.and_eq_true] at h
    have := adj_of (l := b :: l) h.2 i (by simpa using hi)
    simpa using this
theorem adj_no {l : List α} {i j : Nat} (hi : i < l.length) (hj : j < l.length) (hij : i = j + 1) (h : r l[j] l[i] = false) : adj r l = false := by
  subst hij
  cases hq : adj r l with
  | false => rfl
  | true =>
    have := adj_of hq j hi
    rw [this] at h
    cases h
end
/-! numbers -/
theorem flatten_take {α : Type} {l : List (List α)} {k : Nat} (hk : k < l.length) : (l.take (k + 1)).flatten = (l.take k).flatten ++ l[k] := by
  rw [List.take_succ_eq_append_getElem hk, List.flatten_append, List.flatten_singleton]
theorem flatten_take_le {α : Type} (l : List (List α)) (k : Nat) : (l.take k).flatten.length ≤ l.flatten.length := by
  conv => rhs; rw [← List.take_append_drop k l]
  rw [List.flatten_append, List.length_append]
  omega
/-! order of bytes -/
end Go.Pn.Cn
end
section
/-
  Slices that may be written, of which nobody else knows; a cell of one of them written, whatever lies in it. No condition.
-/
namespace Go.Pn
open Go.RowKit
/-- A slice that may be written. -/
def Fre {α : Type} (G : Flat α) (ty : TypeId) (w : World) (F : Nat → Prop) (v : Value) (xs : List α) : Prop := OwnF G ty 0 w v xs ∧ ∀ k, bk v k → F k
abbrev Raw := Option Addr × Nat × Nat
section
variable {α : Type} {G : Flat α} {ty : TypeId} {B : Nat} {w w' : World} {F F' M : Nat → Prop} {v : Value} {xs : List α}
theorem Fre.nil (G : Flat α) (ty : TypeId) (w : World) (F : Nat → Prop) : Fre G ty w F (.slice none 0 0) [] := ⟨OwnF.nil _ _ _ _, fun _ h => h.elim⟩
theorem Fre.keepM (h : Fre G ty w F v xs) (e : Ext M w w') (hM : ∀ k, F k → ¬ M k) : Fre G ty w' F v xs := ⟨h.1.keepM e fun k hk => hM k (h.2 k hk), h.2⟩
theorem Fre.keep (h : Fre G ty w F v xs) (e : Le w w') : Fre G ty w' F v xs := h.keepM e fun _ _ => not_false
theorem Fre.weak (h : Fre G ty w F v xs) (hF : ∀ k, F k → F' k) : Fre G ty w F' v xs := ⟨h.1, fun k hk => hF k (h.2 k hk)⟩
theorem Fre.sl (h : Fre G ty w F v xs) : Sl G.enc w F v xs := h.1.sl.weak h.2
theorem Fre.len {q : Raw} (h : Fre G ty w F (Go.Pn.slv q) xs) : q.2.1 = xs.length := by
  rcases h.1.1.2 with ⟨hv, h0⟩ | ⟨g, cap, cur, hv, _⟩
  · rw [h0]; simp only [Go.Pn.slv, Value.slice.injEq] at hv; exact hv.2.1
  · simp only [Go.Pn.slv, Value.slice.injEq] at hv; exact hv.2.1
theorem Fre.slv (h : Fre G ty w F v xs) : ∃ a, v = Go.Pn.slv a := h.sl.slv
end
/-- Items whose marks may be written. -/
def ItemsF (tm : TypeId) (w : World) (F : Nat → Prop) (raw : List (List UInt8 × Raw)) (xs : List ItemT) : Prop :=
  raw.length = xs.length ∧ ∀ i, ∀ h : i < raw.length, ∀ h' : i < xs.length, raw[i].1 = xs[i].1 ∧ Fre markF tm w F (slv raw[i].2) xs[i].2
section
variable {tm ti : TypeId} {w w' : World} {F F' M : Nat → Prop} {raw : List (List UInt8 × Raw)} {xs : List ItemT} {v : Value}
theorem ItemsF.nil : ItemsF tm w F [] [] := ⟨rfl, fun i h => by simp at h⟩
theorem ItemsF.keepM (h : ItemsF tm w F raw xs) (e : Ext M w w') (hM : ∀ k, F k → ¬ M k) : ItemsF tm w' F raw xs := ⟨h.1, fun i h1 h2 => ⟨(h.2 i h1 h2).1, (h.2 i h1 h2).2.keepM e hM⟩⟩
theorem ItemsF.keep (h : ItemsF tm w F raw xs) (e : Le w w') : ItemsF tm w' F raw xs := h.keepM e fun _ _ => not_false
theorem ItemsF.weak (h : ItemsF tm w F raw xs) (hF : ∀ k, F k → F' k) : ItemsF tm w F' raw xs := ⟨h.1, fun i h1 h2 => ⟨(h.2 i h1 h2).1, (h.2 i h1 h2).2.weak hF⟩⟩
theorem ItemsF.items (h : ItemsF tm w F raw xs) : Items w F raw xs := ⟨h.1, fun i h1 h2 => ⟨(h.2 i h1 h2).1, (h.2 i h1 h2).2.sl⟩⟩
/-- A list of items that may be written. -/
def SlI (ti tm : TypeId) (w : World) (F : Nat → Prop) (v : Value) (xs : List ItemT) : Prop := ∃ raw, Fre itemF ti w F v raw ∧ ItemsF tm w F raw xs
theorem SlI.nil (ti tm : TypeId) (w : World) (F : Nat → Prop) : SlI ti tm w F (.slice none 0 0) [] := ⟨[], Fre.nil _ _ _ _, ItemsF.nil⟩
theorem SlI.keepM (h : SlI ti tm w F v xs) (e : Ext M w w') (hM : ∀ k, F k → ¬ M k) : SlI ti tm w' F v xs := by obtain ⟨raw, h1, h2⟩ := h; exact ⟨raw, h1.keepM e hM, h2.keepM e hM⟩
theorem SlI.keep (h : SlI ti tm w F v xs) (e : Le w w') : SlI ti tm w' F v xs := h.keepM e fun _ _ => not_false
theorem SlI.weak (h : SlI ti tm w F v xs) (hF : ∀ k, F k → F' k) : SlI ti tm w F' v xs := by obtain ⟨raw, h1, h2⟩ := h; exact ⟨raw, h1.weak hF, h2.weak hF⟩
theorem SlI.sl (h : SlI ti tm w F v xs) : Sl itemE w F v xs := by obtain ⟨raw, h1, h2⟩ := h; exact h2.items.sl h1.sl
end
/-- A cell is written: what lies in a slice of this type is others of its type. -/
theorem Fre.put {α : Type} {G : Flat α} {ty : TypeId} {w : World} {F : Nat → Prop} {v : Value} {xs : List α} (h : Fre G ty w F v xs) {g i off : Nat} {cur : Array Value} {u : Value} (hg : w.heap[g]? = some (.cells cur ty (0, 0))) (ho : off < G.sz) (hset : ∀ x, ∃ z, G.e z = (G.e x).set off u) :
    ∃ xs' : List α, Fre G ty (w.setCell ⟨g, i * G.sz + off, none⟩ u) F v xs' ∧ xs'.length = xs.length ∧ (∀ {β : Type} (p : α → β), (∀ x z, G.e z = (G.e x).set off u → p z = p x) → xs'.map p = xs.map p) ∧ ∀ Q : α → Prop, (∀ x ∈ xs, Q x) → (∀ x z, G.e z = (G.e x).set off u → Q z) → ∀ z ∈ xs', Q z := by
  have same : ∀ hh : Fre G ty (w.setCell ⟨g, i * G.sz + off, none⟩ u) F v xs, _ := fun hh => (⟨xs, hh, rfl, fun _ _ => rfl, fun _ h _ => h⟩ : ∃ xs' : List α, Fre G ty (w.setCell ⟨g, i * G.sz + off, none⟩ u) F v xs' ∧ xs'.length = xs.length ∧ (∀ {β : Type} (p : α → β), (∀ x z, G.e z = (G.e x).set off u → p z = p x) → xs'.map p = xs.map p) ∧ ∀ Q : α → Prop, (∀ x ∈ xs, Q x) → (∀ x z, G.e z = (G.e x).set off u → Q z) → ∀ z ∈ xs', Q z)
  rcases h.1.1.2 with ⟨rfl, h0⟩ | ⟨g', cap, cur', rfl, hb, hg', hn, hc, hsz, ht⟩
  · obtain rfl := List.eq_nil_of_length_eq_zero h0
    exact same (Fre.nil _ _ _ _)
  by_cases hgg : g' = g
  · subst hgg
    by_cases hi : i < xs.length
    · obtain ⟨z, hz⟩ := hset xs[i]
      refine ⟨xs.set i z, ⟨h.1.put1 hi ho hz, h.2⟩, by simp, fun p hp => ?_, fun Q h1 h2 y hy => ?_⟩
      rotate_left
      · rcases List.mem_or_eq_of_mem_set hy with q | rfl
        · exact h1 _ q
        · exact h2 _ _ hz
      rw [List.map_set, hp _ _ hz]
      apply List.ext_getElem (by simp)
      intro j h1 h2
      rw [List.getElem_set]
      split
      · rename_i hij
        subst hij
        simp
      · rfl
    · refine same ⟨⟨⟨h.1.1.1, .inr ⟨g', cap, (cur'.toList.set (i * G.sz + off) u).toArray, rfl, hb, heap_set w g' (i * G.sz + off) u (cs := cur'.toList) (ty := ty) (fr := (0, 0)) (by simpa using hg'), hn, hc, by simpa using hsz, ?_⟩⟩, h.1.2⟩, h.2⟩
      have h1 : xs.length * G.sz ≤ i * G.sz := Nat.mul_le_mul_right _ (by omega)
      rw [List.take_set_of_le (by omega)]
      exact ht
  · exact same (h.keepM (Ext.set w ⟨g, i * G.sz + off, none⟩ u) (M := fun k => k = g) (w' := w.setCell ⟨g, i * G.sz + off, none⟩ u) |> fun _ => ⟨⟨⟨h.1.1.1, .inr ⟨g', cap, cur', rfl, hb, ((Ext.set w ⟨g, i * G.sz + off, none⟩ u).block g' (lt_of_some hg') hgg).trans hg', hn, hc, hsz, ht⟩⟩, h.1.2⟩, h.2⟩)
/-- A cell of another type is written. -/
theorem Fre.off {α : Type} {G : Flat α} {ty ty' : TypeId} {w : World} {F : Nat → Prop} {v : Value} {xs : List α} (h : Fre G ty w F v xs) {g k : Nat} {cur : Array Value} {u : Value} (hg : w.heap[g]? = some (.cells cur ty' (0, 0))) (hne : ty ≠ ty') : Fre G ty (w.setCell ⟨g, k, none⟩ u) F v xs := by
  rcases h.1.1.2 with ⟨rfl, h0⟩ | ⟨g', cap, cur', rfl, hb, hg', hn, hc, hsz, ht⟩
  · obtain rfl := List.eq_nil_of_length_eq_zero h0
    exact Fre.nil _ _ _ _
  have hgg : g' ≠ g := by
    rintro rfl
    rw [hg] at hg'
    cases hg'
    exact hne rfl
  exact ⟨⟨⟨h.1.1.1, .inr ⟨g', cap, cur', rfl, hb, ((Ext.set w ⟨g, k, none⟩ u).block g' (lt_of_some hg') hgg).trans hg', hn, hc, hsz, ht⟩⟩, h.1.2⟩, h.2⟩
/-- What may be written of a cart: two lists of dots, items with their marks; what they hold is open, but for names' lengths. -/
structure Stn (td ti tm : TypeId) (w : World) (F : Nat → Prop) (a1 a2 a3 : Raw) (ps : List Raw) (K : Nat) : Prop where
  d1 : ∃ xs, Fre Dt.dotF td w F (slv a1) xs
  d2 : ∃ xs, Fre Dt.dotF td w F (slv a2) xs
  d3 : ∃ raw, Fre itemF ti w F (slv a3) raw ∧ raw.map (·.2) = ps ∧ ∀ r ∈ raw, r.1.length ≤ K
  m : ∀ p ∈ ps, ∃ ms, Fre markF tm w F (slv p) ms
section
variable {td ti tm : TypeId} {w w' : World} {F M : Nat → Prop} {a1 a2 a3 : Raw} {ps : List Raw} {K : Nat}
theorem Stn.keepM (h : Stn td ti tm w F a1 a2 a3 ps K) (e : Ext M w w') (hM : ∀ k, F k → ¬ M k) : Stn td ti tm w' F a1 a2 a3 ps K := by
  obtain ⟨⟨x1, h1⟩, ⟨x2, h2⟩, ⟨x3, h3, h4, h5⟩, h6⟩ := h
  refine ⟨⟨x1, h1.keepM e hM⟩, ⟨x2, h2.keepM e hM⟩, ⟨x3, h3.keepM e hM, h4, h5⟩, fun p hp => ?_⟩
  obtain ⟨ms, h7⟩ := h6 p hp
  exact ⟨ms, h7.keepM e hM⟩
theorem Stn.keep (h : Stn td ti tm w F a1 a2 a3 ps K) (e : Le w w') : Stn td ti tm w' F a1 a2 a3 ps K := h.keepM e fun _ _ => not_false
/-- What is read of a cart that may be written. -/
theorem Stn.of {v1 v2 v3 : Value} {xs ys : List Dt.Dot} {its : List ItemT} (h1 : Fre Dt.dotF td w F v1 xs) (h2 : Fre Dt.dotF td w F v2 ys) (h3 : SlI ti tm w F v3 its) (hn : ∀ x ∈ its, x.1.length ≤ K) : ∃ a1 a2 a3 ps, v1 = slv a1 ∧ v2 = slv a2 ∧ v3 = slv a3 ∧ Stn td ti tm w F a1 a2 a3 ps K := by
  obtain ⟨a1, rfl⟩ := h1.slv
  obtain ⟨a2, rfl⟩ := h2.slv
  obtain ⟨raw, h4, h5⟩ := h3
  obtain ⟨a3, rfl⟩ := h4.slv
  refine ⟨a1, a2, a3, raw.map (·.2), rfl, rfl, rfl, ⟨_, h1⟩, ⟨_, h2⟩, ⟨raw, h4, rfl, fun r hr => ?_⟩, fun p hp => ?_⟩
  · obtain ⟨i, hi, rfl⟩ := List.getElem_of_mem hr
    rw [(h5.2 i hi (by rw [← h5.1]; exact hi)).1]
    exact hn _ (List.getElem_mem _)
  · obtain ⟨r, hr, rfl⟩ := List.mem_map.1 hp
    obtain ⟨i, hi, rfl⟩ := List.getElem_of_mem hr
    exact ⟨_, (h5.2 i hi (by rw [← h5.1]; exact hi)).2⟩
end
section
variable {P : Program} {n : Nat} {ops rest : List Oper} {N : Val → World → Prop} {Z : List PanicEntry → World → Prop} {f : Val} {w : World}
  {x y : Operand} {t tr ty : TypeId} {pos : String} {after : Array Edge} {α : Type}
end
end Go.Pn
end
section
/-
  An element's address by an index of any kind. No condition.
-/
namespace Go.Pn
open Go.RowKit
section
variable {P : Program} {n : Nat} {ops rest : List Oper} {N : Val → World → Prop} {Z : List PanicEntry → World → Prop} {f : Val} {w : World}
  {x y : Operand} {t ty : TypeId} {d : Nat} {pos : String} {after : Array Edge} {α : Type} {E : Enc α} {F : Nat → Prop}
end
end Go.Pn
end
section
/-
  Maps of integers by integers in a block of the call's own; a range over one, in whatever order. No condition.
-/
namespace Go.Pn
open Go.RowKit
def mget (es : List (Int × Int)) (k : Int) : Int := match es.find? (fun p => p.1 == k) with | some p => p.2 | none => 0
def mput : List (Int × Int) → Int → Int → List (Int × Int)
  | [], k, v => [(k, v)]
  | p :: r, k, v => if p.1 = k then (k, v) :: r else p :: mput r k v
def keyI : Value → Int | .int _ a => a | _ => 0
def pairOf (e : MapEntry) : Int × Int := (keyI e.key, keyI e.val)
def IntE (e : MapEntry) : Prop := e.key = .int .i64 (keyI e.key) ∧ e.val = .int .i64 (keyI e.val)
/-- What the entries of a block are. -/
structure Ents (ens : List MapEntry) (clock : Nat) (es : List (Int × Int)) : Prop where
  ints : ∀ e ∈ ens, IntE e
  pairs : ens.map pairOf = es
  old : ∀ e ∈ ens, e.born < clock
  born : (ens.map (·.born)).Nodup
  keys : (es.map (·.1)).Nodup
def MapO (w : World) (b : Nat) (es : List (Int × Int)) : Prop := ∃ (ens : Array MapEntry) (clock : Nat), w.heap[b]? = some (.map ens clock) ∧ Ents ens.toList clock es
/-- A range over the map of block b, in block r: what has come. -/
def IterO (w : World) (r b : Nat) (es done : List (Int × Int)) : Prop := r ≠ b ∧ ∃ (ens : Array MapEntry) (clock : Nat) (seen : Array Nat) (ds : List MapEntry),
  w.heap[b]? = some (.map ens clock) ∧ Ents ens.toList clock es ∧ w.heap[r]? = some (.mapIter (some b) clock seen clock) ∧ seen.toList = ds.map (·.born) ∧ (∀ e ∈ ds, e ∈ ens.toList) ∧ (ds.map (·.born)).Nodup ∧ done = ds.map pairOf
section
variable {w w' : World} {b r : Nat} {es done : List (Int × Int)} {M : Nat → Prop}
theorem MapO.lt (h : MapO w b es) : b < w.heap.size := by obtain ⟨ens, clock, h1, _⟩ := h; exact lt_of_some h1
theorem MapO.keepM (h : MapO w b es) (e : Ext M w w') (hM : ¬ M b) : MapO w' b es := by
  have hl := h.lt
  obtain ⟨ens, clock, h1, h2⟩ := h
  exact ⟨ens, clock, (e.block b hl hM).trans h1, h2⟩
theorem MapO.keep (h : MapO w b es) (e : Le w w') : MapO w' b es := h.keepM e not_false
theorem MapO.keys (h : MapO w b es) : (es.map (·.1)).Nodup := by obtain ⟨ens, clock, _, h2⟩ := h; exact h2.keys
theorem IterO.lt (h : IterO w r b es done) : r < w.heap.size ∧ b < w.heap.size := by
  obtain ⟨_, ens, clock, seen, ds, h1, _, h3, _⟩ := h
  exact ⟨lt_of_some h3, lt_of_some h1⟩
theorem IterO.keepM (h : IterO w r b es done) (e : Ext M w w') (hM : ∀ k, (k = r ∨ k = b) → ¬ M k) : IterO w' r b es done := by
  have hl := h.lt
  obtain ⟨hn, ens, clock, seen, ds, h1, h2, h3, h4⟩ := h
  exact ⟨hn, ens, clock, seen, ds, (e.block b hl.2 (hM b (.inr rfl))).trans h1, h2, (e.block r hl.1 (hM r (.inl rfl))).trans h3, h4⟩
theorem IterO.keep (h : IterO w r b es done) (e : Le w w') : IterO w' r b es done := h.keepM e fun _ _ => not_false
theorem IterO.map (h : IterO w r b es done) : MapO w b es := by
  obtain ⟨hn, ens, clock, seen, ds, h1, h2, _⟩ := h
  exact ⟨ens, clock, h1, h2⟩
theorem mput_keys {k v : Int} : ∀ {es : List (Int × Int)}, (es.map (·.1)).Nodup → ((mput es k v).map (·.1)).Nodup
  | [], _ => by simp [mput]
  | p :: r, h => by
    have h' := List.nodup_cons.1 h
    unfold mput
    split
    · rename_i hk
      subst hk
      exact h
    · rename_i hk
      refine List.nodup_cons.2 ⟨fun hm => ?_, mput_keys h'.2⟩
      have key : ∀ (l : List (Int × Int)), p.1 ∈ (mput l k v).map (·.1) → p.1 ∈ l.map (·.1) := by
        intro l
        induction l with
        | nil => intro q; simp [mput] at q; exact absurd q hk
        | cons x l ih =>
          intro q
          unfold mput at q
          split at q
          · rename_i hx
            simp only [List.map_cons, List.mem_cons] at q ⊢
            rcases q with q | q
            · exact absurd q hk
            · exact .inr q
          · simp only [List.map_cons, List.mem_cons] at q ⊢
            rcases q with q | q
            · exact .inl q
            · exact .inr (ih q)
      exact h'.1 (key r hm)
theorem modify_set {α : Type} (g : α → α) : ∀ {l : List α} {j : Nat} {e : α}, l[j]? = some e → l.modify j g = l.set j (g e)
  | x :: l, 0, e, h => by
    simp only [List.getElem?_cons_zero, Option.some.injEq] at h
    subst h
    rfl
  | x :: l, j + 1, e, h => by
    simp only [List.getElem?_cons_succ] at h
    have := modify_set g h
    simp only [List.modify_succ_cons, List.set_cons_succ, this]
theorem nodup_of_map {α β : Type} (g : α → β) {l : List α} (h : (l.map g).Nodup) : l.Nodup := by
  have := List.pairwise_map.1 h
  exact this.imp fun hab e => hab (congrArg g e)
theorem len_of_sub {α : Type} : ∀ {l m : List α}, l.Nodup → (∀ x ∈ l, x ∈ m) → l.length ≤ m.length
  | [], _, _, _ => Nat.zero_le _
  | x :: l, m, h, hs => by
    have h' := List.nodup_cons.1 h
    obtain ⟨a, b, rfl⟩ := List.append_of_mem (hs x (.head _))
    have := len_of_sub (m := a ++ b) h'.2 fun y hy => by
      have q := hs y (.tail _ hy)
      simp only [List.mem_append, List.mem_cons] at q ⊢
      rcases q with q | q | q
      · exact .inl q
      · exact absurd (q ▸ hy) h'.1
      · exact .inr q
    simp only [List.length_append, List.length_cons] at this ⊢
    omega
theorem isKey_int (k : Int) : MapKept.IsKey (TypeDesc.int .i64) (.int .i64 k) := by simp [MapKept.IsKey]
theorem Ents.isKey {ens : List MapEntry} {clock : Nat} (h : Ents ens clock es) : ∀ x ∈ ens, MapKept.IsKey (TypeDesc.int .i64) x.key := fun x hx => by rw [(h.ints x hx).1]; exact isKey_int _
theorem Ents.miss {ens : List MapEntry} {clock : Nat} {k : Int} (h : Ents ens clock es) (hk : ∀ x ∈ ens, x.key ≠ .int .i64 k) : ∀ p ∈ es, p.1 ≠ k := by
  intro p hp e
  rw [← h.pairs] at hp
  obtain ⟨x, hx, rfl⟩ := List.mem_map.1 hp
  exact hk x hx (by rw [(h.ints x hx).1]; exact congrArg _ e)
theorem mget_miss {k : Int} (h : ∀ p ∈ es, p.1 ≠ k) : mget es k = 0 := by
  unfold mget
  rw [List.find?_eq_none.2 fun p hp => by simpa using h p hp]
theorem mget_at : ∀ {es : List (Int × Int)} {j : Nat} {p : Int × Int}, (es.map (·.1)).Nodup → es[j]? = some p → mget es p.1 = p.2
  | q :: r, 0, p, _, h => by
    simp only [List.getElem?_cons_zero, Option.some.injEq] at h
    subst h
    simp [mget]
  | q :: r, j + 1, p, hn, h => by
    have h' := List.nodup_cons.1 hn
    simp only [List.getElem?_cons_succ] at h
    have hm : p.1 ∈ r.map (·.1) := List.mem_map.2 ⟨p, List.mem_of_getElem? h, rfl⟩
    have hne : ¬ q.1 = p.1 := fun e => h'.1 (show q.1 ∈ r.map (·.1) by rw [e]; exact hm)
    have := mget_at h'.2 h
    unfold mget at this ⊢
    rw [List.find?_cons_of_neg (by simpa using hne)]
    exact this
theorem mput_miss {k v : Int} : ∀ {es : List (Int × Int)}, (∀ p ∈ es, p.1 ≠ k) → mput es k v = es ++ [(k, v)]
  | [], _ => rfl
  | p :: r, h => by
    unfold mput
    rw [if_neg (h p (.head _)), mput_miss fun q hq => h q (.tail _ hq)]
    rfl
theorem mput_at {k v : Int} : ∀ {es : List (Int × Int)} {j : Nat} {p : Int × Int}, (es.map (·.1)).Nodup → es[j]? = some p → p.1 = k → mput es k v = es.set j (k, v)
  | q :: r, 0, p, _, h, e => by
    simp only [List.getElem?_cons_zero, Option.some.injEq] at h
    subst h
    unfold mput
    rw [if_pos e]
    rfl
  | q :: r, j + 1, p, hn, h, e => by
    have h' := List.nodup_cons.1 hn
    simp only [List.getElem?_cons_succ] at h
    have hm : p.1 ∈ r.map (·.1) := List.mem_map.2 ⟨p, List.mem_of_getElem? h, rfl⟩
    have hne : ¬ q.1 = k := fun e2 => h'.1 (show q.1 ∈ r.map (·.1) by rw [e2.trans e.symm]; exact hm)
    unfold mput
    rw [if_neg hne, mput_at h'.2 h e]
    rfl
end
section
variable {P : Program} {n : Nat} {ops rest : List Oper} {N : Val → World → Prop} {Z : List PanicEntry → World → Prop} {f : Val} {w : World}
  {x y z : Operand} {t tr kt et : TypeId} {d : Nat} {pos : String} {after : Array Edge} {b r : Nat} {es done : List (Int × Int)} {k v : Int}
theorem O.makeM (h : ∀ b w', w.heap.size ≤ b → MapO w' b [] → Le w w' → O P n ops rest N Z (upd f d (.map (some b))) w') :
    O P n ops ({ dst := some d, op := .makeMap t none, type := tr, pos := pos, after := after, guard := .none } :: rest) N Z f w := by
  refine O.val (v := .map (some w.heap.size)) (w' := w.alloc (.map #[] 0)) rfl rfl ?_ (h w.heap.size (w.alloc (.map #[] 0)) (Nat.le_refl _) ⟨#[], 0, heap_alloc_new w _, ⟨by simp, rfl, by simp, by simp, by simp⟩⟩ (Le.alloc _ _))
  rfl
theorem O.lookupM (hm : P.underlying t = some (.map kt et)) (hk : P.underlying kt = some (.int .i64)) (hz : (zeroValue et).run P w = .ok (.int .i64 0) w) (hx : ev n f x = .map (some b)) (hy : ev n f y = .int .i64 k) (ho : MapO w b es)
    (h : O P n ops rest N Z (upd f d (.int .i64 (mget es k))) w) :
    O P n ops ({ dst := some d, op := .lookup t x y false, type := tr, pos := pos, after := after, guard := .none } :: rest) N Z f w := by
  refine O.val rfl rfl ?_ h
  have h3 : execOp (ev n f) { dst := some d, op := .lookup t x y false, type := tr, pos := pos, after := after, guard := .none } = (do pure (.value (← Instr.lookup t (ev n f x) (ev n f y) false))) := rfl
  rw [h3, Sem.run_bind, hx, hy]
  obtain ⟨ens, clock, hb, he⟩ := ho
  have h4 : (Instr.lookup t (.map (some b)) (.int .i64 k) false).run P w = .ok (.int .i64 (mget es k)) w := by
    rcases MapKept.findNow_spec (isKey_int k) ens.toList 0 he.isKey with ⟨h1, h2⟩ | ⟨j, e, h1, h2, h5⟩
    · simp [Instr.lookup, run_underlying hm, MapKept.run_getObj_map hb, MapKept.run_checkKey hk (isKey_int k), MapKept.run_findKey hk h1, hz, Result.andThen, mget_miss (he.miss h2)]
    · have hi := he.ints e (List.mem_of_getElem? h2)
      have hp : es[j]? = some (pairOf e) := by rw [← he.pairs, List.getElem?_map, h2]; rfl
      have h6 : (pairOf e).1 = k := by
        show keyI e.key = k
        rw [h5]
        rfl
      have h7 := mget_at he.keys hp
      rw [h6] at h7
      simp [Instr.lookup, run_underlying hm, MapKept.run_getObj_map hb, MapKept.run_checkKey hk (isKey_int k), MapKept.run_findKey hk h1, Result.andThen, h7]
      exact hi.2
  rw [h4]
  rfl
theorem O.updateM (hm : P.underlying t = some (.map kt et)) (hk : P.underlying kt = some (.int .i64)) (hx : ev n f x = .map (some b)) (hy : ev n f y = .int .i64 k) (hv : ev n f z = .int .i64 v) (ho : MapO w b es)
    (h : ∀ w', MapO w' b (mput es k v) → Ext (fun i => i = b) w w' → w'.heap.size = w.heap.size → O P n ops rest N Z f w') :
    O P n ops ({ dst := .none, op := .mapUpdate t x y z, type := tr, pos := pos, after := after, guard := .none } :: rest) N Z f w := by
  obtain ⟨ens, clock, hb, he⟩ := ho
  have hlt := lt_of_some hb
  have key : ∃ ens' clock', (Instr.mapUpdate t (.map (some b)) (.int .i64 k) (.int .i64 v)).run P w = .ok () { w with heap := w.heap.setIfInBounds b (.map ens' clock') } ∧ Ents ens'.toList clock' (mput es k v) := by
    rcases MapKept.findNow_spec (isKey_int k) ens.toList 0 he.isKey with ⟨h1, h2⟩ | ⟨j, e, h1, h2, h5⟩
    · refine ⟨ens.push { key := .int .i64 k, val := .int .i64 v, born := clock }, clock + 1, ?_, ?_⟩
      · simp [Instr.mapUpdate, run_underlying hm, MapKept.run_getObj_map hb, MapKept.run_checkKey hk (isKey_int k), MapKept.run_findKey hk h1, MapKept.run_setObj_map _ hb, Result.andThen]
      · rw [mput_miss (he.miss h2)]
        have hkk := mput_keys (k := k) (v := v) he.keys
        rw [mput_miss (he.miss h2)] at hkk
        refine ⟨fun q hq => ?_, by simp [he.pairs, pairOf, keyI], fun q hq => ?_, ?_, hkk⟩
        · simp only [Array.toList_push, List.mem_append, List.mem_singleton] at hq
          rcases hq with hq | rfl
          · exact he.ints q hq
          · exact ⟨rfl, rfl⟩
        · simp only [Array.toList_push, List.mem_append, List.mem_singleton] at hq
          rcases hq with hq | rfl
          · exact Nat.lt_succ_of_lt (he.old q hq)
          · exact Nat.lt_succ_self _
        · simp only [Array.toList_push, List.map_append, List.map_cons, List.map_nil]
          refine List.nodup_append.2 ⟨he.born, by simp, fun q hq q2 hq2 e => ?_⟩
          simp only [List.mem_singleton] at hq2
          obtain ⟨u, hu, rfl⟩ := List.mem_map.1 hq
          have := he.old u hu
          omega
    · have hj : ens[j]? = some e := by simpa using h2
      have hi := he.ints e (List.mem_of_getElem? h2)
      have hp : es[j]? = some (pairOf e) := by rw [← he.pairs, List.getElem?_map, h2]; rfl
      have h6 : (pairOf e).1 = k := by
        show keyI e.key = k
        rw [h5]
        rfl
      have hlist : (ens.modify j (fun e' => { e' with key := .int .i64 k, val := .int .i64 v })).toList = ens.toList.set j { e with key := .int .i64 k, val := .int .i64 v } := by
        rw [Array.toList_modify, modify_set _ h2]
      refine ⟨ens.modify j (fun e' => { e' with key := .int .i64 k, val := .int .i64 v }), clock, ?_, ?_⟩
      · simp [Instr.mapUpdate, run_underlying hm, MapKept.run_getObj_map hb, MapKept.run_checkKey hk (isKey_int k), MapKept.run_findKey hk h1, hj, h5, MapKept.run_keyThatStays (isKey_int k), MapKept.run_setObj_map _ hb, Result.andThen]
      · rw [hlist, mput_at he.keys hp h6]
        have hkk := mput_keys (k := k) (v := v) he.keys
        rw [mput_at he.keys hp h6] at hkk
        have hjl := (List.getElem?_eq_some_iff.1 h2).1
        have hmem : ∀ q ∈ ens.toList.set j { e with key := .int .i64 k, val := .int .i64 v }, q ∈ ens.toList ∨ q = { e with key := .int .i64 k, val := .int .i64 v } := fun q hq => List.mem_or_eq_of_mem_set hq
        refine ⟨fun q hq => ?_, ?_, fun q hq => ?_, ?_, hkk⟩
        · rcases hmem q hq with hq | rfl
          · exact he.ints q hq
          · exact ⟨rfl, rfl⟩
        · rw [List.map_set, he.pairs]
          rfl
        · rcases hmem q hq with hq | rfl
          · exact he.old q hq
          · exact he.old e (List.mem_of_getElem? h2)
        · have e2 : (ens.toList.set j { e with key := .int .i64 k, val := .int .i64 v }).map (·.born) = ens.toList.map (·.born) := by
            rw [List.map_set]
            apply List.ext_getElem?
            intro i
            rw [List.getElem?_set]
            split
            · rename_i hij
              subst hij
              rw [List.length_map, if_pos hjl, List.getElem?_map, h2]
              rfl
            · rfl
          rw [e2]
          exact he.born
  obtain ⟨ens', clock', hrun, he'⟩ := key
  refine O.act (w' := { w with heap := w.heap.setIfInBounds b (.map ens' clock') }) rfl rfl ?_ (h _ ⟨ens', clock', (MapKept.heap_set hb).1, he'⟩ ⟨rfl, rfl, rfl, by simp, fun i _ hi => (MapKept.heap_set hb).2 i hi⟩ (by simp))
  have h3 : execOp (ev n f) { dst := .none, op := .mapUpdate t x y z, type := tr, pos := pos, after := after, guard := .none } = (do Instr.mapUpdate t (ev n f x) (ev n f y) (ev n f z); pure .skip) := rfl
  rw [h3, Sem.run_bind, hx, hy, hv, hrun]
  rfl
theorem O.rangeM (hm : P.underlying t = some (.map kt et)) (hx : ev n f x = .map (some b)) (ho : MapO w b es)
    (h : ∀ r w', w.heap.size ≤ r → IterO w' r b es [] → Le w w' → O P n ops rest N Z (upd f d (.pointer (some ⟨r, 0, none⟩))) w') :
    O P n ops ({ dst := some d, op := .range t x, type := tr, pos := pos, after := after, guard := .none } :: rest) N Z f w := by
  have hlt := ho.lt
  obtain ⟨ens, clock, hb, he⟩ := ho
  refine O.val rfl rfl ?_ (h w.heap.size (w.alloc (.mapIter (some b) clock #[] clock)) (Nat.le_refl _) ⟨by omega, ens, clock, #[], [], (heap_alloc_old w _ hlt).trans hb, he, heap_alloc_new w _, rfl, by simp, by simp, rfl⟩ (Le.alloc _ _))
  have h3 : execOp (ev n f) { dst := some d, op := .range t x, type := tr, pos := pos, after := after, guard := .none } = (do pure (.value (← Instr.range t (ev n f x)))) := rfl
  rw [h3, Sem.run_bind, hx, run_range_map w t kt et b ens clock hm hb]
  rfl
theorem O.nextM (hx : ev n f x = .pointer (some ⟨r, 0, none⟩)) (ho : IterO w r b es done)
    (h0 : done.Perm es → O P n ops rest N Z (upd f d (.tuple #[.bool false])) w)
    (h1 : ∀ p w', p ∈ es → p ∉ done → done.length < es.length → IterO w' r b es (done ++ [p]) → Ext (fun i => i = r) w w' → w'.heap.size = w.heap.size → O P n ops rest N Z (upd f d (.tuple #[.bool true, .int .i64 p.1, .int .i64 p.2])) w') :
    O P n ops ({ dst := some d, op := .next x false, type := tr, pos := pos, after := after, guard := .none } :: rest) N Z f w := by
  have hlt := ho.lt
  obtain ⟨hn, ens, clock, seen, ds, hb, he, hr, hs, hds, hnd, rfl⟩ := ho
  have h3 : execOp (ev n f) { dst := some d, op := .next x false, type := tr, pos := pos, after := after, guard := .none } = (do pure (.value (← Instr.next (ev n f x) false tr))) := rfl
  have hdn : ds.Nodup := nodup_of_map _ hnd
  have hen : ens.toList.Nodup := nodup_of_map _ he.born
  have hsee : ∀ e : MapEntry, seen.contains e.born = true ↔ e.born ∈ ds.map (·.born) := by
    intro e
    rw [← hs]
    simp
  rcases run_next_at (P := P) w tr r b clock clock seen ens clock hr hb he.old (Nat.le_refl _) with ⟨h5, hrun⟩ | ⟨e, hel, w1, hw1, hrun⟩
  · refine O.val rfl rfl ?_ (h0 ?_)
    · rw [h3, Sem.run_bind, hx, hrun]; rfl
    · rw [← he.pairs]
      refine List.Perm.map _ ((List.perm_ext_iff_of_nodup hdn hen).2 fun e => ⟨fun q => hds e q, fun q => ?_⟩)
      have h6 : leftOf ens seen = #[] := Array.eq_empty_of_size_eq_zero h5
      have h7 : e ∉ (leftOf ens seen).toList := by rw [h6]; simp
      unfold leftOf at h7
      rw [Array.toList_filter, List.mem_filter] at h7
      have h8 : seen.contains e.born = true := by
        cases hc : seen.contains e.born with
        | true => rfl
        | false => exact absurd ⟨q, by rw [hc]; rfl⟩ h7
      obtain ⟨u, hu, hub⟩ := List.mem_map.1 ((hsee e).1 h8)
      have : u = e := born_inj he.born (hds u hu) q hub
      exact this ▸ hu
  · unfold leftOf at hel
    rw [Array.toList_filter, List.mem_filter] at hel
    obtain ⟨hem, hns⟩ := hel
    have hnm : e.born ∉ ds.map (·.born) := fun q => by
      rw [(hsee e).2 q] at hns
      simp at hns
    have hi := he.ints e hem
    have hr1 : w1.heap[r]? = some (.mapIter (some b) clock seen clock) := by rcases hw1 with rfl | rfl <;> exact hr
    have hb1 : w1.heap[b]? = some (.map ens clock) := by rcases hw1 with rfl | rfl <;> exact hb
    have hz1 : w1.heap = w.heap := by rcases hw1 with rfl | rfl <;> rfl
    have hext : Ext (fun i => i = r) w (Go.ChangeMaps.setBlock w1 r (.mapIter (some b) clock (seen.push e.born) clock)) := by
      refine ⟨?_, ?_, ?_, ?_, fun i _ hi => ?_⟩
      · rcases hw1 with rfl | rfl <;> rfl
      · rcases hw1 with rfl | rfl <;> rfl
      · rcases hw1 with rfl | rfl <;> rfl
      · simp [Go.ChangeMaps.setBlock, hz1]
      · rw [← hz1]
        exact (MapKept.heap_set hr1).2 i hi
    have hlen : (ds.map pairOf).length < es.length := by
      rw [← he.pairs, List.length_map, List.length_map]
      have hsub : (e :: ds).length ≤ ens.toList.length := len_of_sub (List.nodup_cons.2 ⟨fun q => hnm (List.mem_map.2 ⟨e, q, rfl⟩), hdn⟩) (by
        intro u hu
        rcases List.mem_cons.1 hu with rfl | hu
        · exact hem
        · exact hds u hu)
      exact hsub
    have hpe : pairOf e ∈ es := by rw [← he.pairs]; exact List.mem_map.2 ⟨e, hem, rfl⟩
    have hpn : pairOf e ∉ ds.map pairOf := fun q => by
      obtain ⟨u, hu, huq⟩ := List.mem_map.1 q
      have hk := he.keys
      rw [← he.pairs, List.map_map] at hk
      have hue : u ≠ e := fun q2 => hnm (List.mem_map.2 ⟨u, hu, by rw [q2]⟩)
      have hpw := List.pairwise_map.1 hk
      obtain ⟨i, hi1, hi2⟩ := List.getElem_of_mem (hds u hu)
      obtain ⟨j, hj1, hj2⟩ := List.getElem_of_mem hem
      have hij : i ≠ j := fun q3 => hue (by subst q3; exact hi2.symm.trans hj2)
      rcases Nat.lt_or_gt_of_ne hij with q4 | q4
      · have := List.pairwise_iff_getElem.1 hpw i j hi1 hj1 q4
        rw [hi2, hj2] at this
        exact this (congrArg Prod.fst huq)
      · have := List.pairwise_iff_getElem.1 hpw j i hj1 hi1 q4
        rw [hi2, hj2] at this
        exact this (congrArg Prod.fst huq).symm
    refine O.val (v := .tuple #[.bool true, .int .i64 (pairOf e).1, .int .i64 (pairOf e).2]) rfl rfl ?_ (h1 (pairOf e) (Go.ChangeMaps.setBlock w1 r (.mapIter (some b) clock (seen.push e.born) clock)) hpe hpn hlen ⟨hn, ens, clock, seen.push e.born, ds ++ [e], ((MapKept.heap_set hr1).2 b (Ne.symm hn)).trans hb1, he, (MapKept.heap_set hr1).1, by simp [hs], fun u hu => ?_, ?_, by simp⟩ hext (by simp [Go.ChangeMaps.setBlock, hz1]))
    · rw [h3, Sem.run_bind, hx, hrun]
      rw [hi.1, hi.2]
      rfl
    · rcases List.mem_append.1 hu with hu | hu
      · exact hds u hu
      · rw [List.mem_singleton.1 hu]; exact hem
    · rw [List.map_append]
      refine List.nodup_append.2 ⟨hnd, by simp, fun q hq q2 hq2 e2 => ?_⟩
      simp only [List.map_cons, List.map_nil, List.mem_singleton] at hq2
      rw [e2, hq2] at hq
      exact hnm hq
/-- The round's key and value, read behind the step. -/
theorem O.entryM {p : Int × Int} (hx : ev n f x = .pointer (some ⟨r, 0, none⟩)) (ho : IterO w r b es (done ++ [p])) (h : O P n ops rest N Z (upd f d (.tuple #[.int .i64 p.1, .int .i64 p.2])) w) :
    O P n ops ({ dst := some d, op := .entry x, type := tr, pos := pos, after := after, guard := .none } :: rest) N Z f w := by
  obtain ⟨hn, ens, clock, seen, ds, hb, he, hr, hs, hds, hnd, hdn⟩ := ho
  have hne : ds ≠ [] := by rintro rfl; simp at hdn
  have hsplit := List.dropLast_concat_getLast hne
  have hlast : pairOf (ds.getLast hne) = p := by
    rw [← hsplit, List.map_append] at hdn
    exact (List.append_inj' hdn rfl).2 |> fun q => by simpa using q.symm
  have hseen : seen = ((ds.dropLast.map (·.born)).toArray).push (ds.getLast hne).born := by
    apply Array.ext'
    rw [hs, Array.toList_push]
    conv => lhs; rw [← hsplit]
    simp
  rw [hseen] at hr
  have hem := hds _ (List.getLast_mem hne)
  have hi := he.ints _ hem
  refine O.val rfl rfl ?_ h
  have h3 : execOp (ev n f) { dst := some d, op := .entry x, type := tr, pos := pos, after := after, guard := .none } = (do pure (.value (← Instr.entry (ev n f x)))) := rfl
  rw [h3, Sem.run_bind, hx, run_entry_at w r b clock _ ens clock (ds.getLast hne) hr hb hem he.born, hi.1, hi.2, ← hlast]
  rfl
end
section
variable {P : Program} {n : Nat} {ops rest : List Oper} {N : Val → World → Prop} {Z : List PanicEntry → World → Prop} {f : Val} {w : World}
  {d : Nat} {x y : Operand} {t t' tr : TypeId} {pos : String} {after : Array Edge}
theorem O.maxI {a b : Int} (hx : ev n f x = i64 a) (hy : ev n f y = i64 b) (h : O P n ops rest N Z (upd f d (i64 (max a b))) w) :
    O P n ops ({ dst := some d, op := .call { callee := .builtin .max, args := [x, y].toArray, argTypes := [t, t'].toArray }, type := tr, pos := pos, after := after, guard := .none } :: rest) N Z f w := by
  refine O.val rfl rfl ?_ h
  have e : (if a < b then b else a) = max a b := by rw [Int.max_def]; split <;> split <;> omega
  have h3 : (execOp (ev n f) { dst := some d, op := .call { callee := .builtin .max, args := [x, y].toArray, argTypes := [t, t'].toArray }, type := tr, pos := pos, after := after, guard := .none }).run P w = ((Builtin.max_ #[t, t'] tr #[ev n f x, ev n f y]).run P w).andThen (fun v w => .ok (.value v) w) := by
    simp [execOp, resolve, invoke, builtin]
  rw [h3, hx, hy]
  have h4 : (Builtin.max_ #[t, t'] tr #[i64 a, i64 b]).run P w = .ok (i64 (max a b)) w := by
    simp [Builtin.max_, Builtin.max2, i64, e]
  rw [h4]
  rfl
end
end Go.Pn
end
section
/-
  PLAIN LAWS OF VECTORS: what a vector has, the smallest one that has some dots, merging, order. Of no program.
-/
namespace Go.Pn.Vc
open Go Go.Pn Go.Pn.Cn
abbrev V := List Dt.Dot
/-- Sorted by replica, each allowed. -/
def Ok (v : V) : Prop := v.Pairwise (fun a b => a.1 < b.1) ∧ ∀ d ∈ v, Dt.Valid d
theorem pw_adj : ∀ {v : V}, incr v = true ↔ v.Pairwise (fun a b => a.1 < b.1)
  | [] => by simp [incr, adj]
  | [a] => by simp [incr, adj]
  | a :: b :: l => by
    have ih := pw_adj (v := b :: l)
    unfold incr at ih ⊢
    unfold adj
    rw [Bool.and_eq_true, ih, decide_eq_true_iff]
    constructor
    · rintro ⟨h1, h2⟩
      refine List.pairwise_cons.2 ⟨fun c hc => ?_, h2⟩
      rcases List.mem_cons.1 hc with rfl | hc
      · exact h1
      · exact Int.lt_trans h1 ((List.pairwise_cons.1 h2).1 c hc)
    · intro h
      have h' := List.pairwise_cons.1 h
      exact ⟨h'.1 b (.head _), h'.2⟩
theorem ok_iff {v : V} : vecValid v = true ↔ Ok v := by
  unfold vecValid Ok
  rw [Bool.and_eq_true, pw_adj]
  refine and_congr_right fun _ => ?_
  constructor
  · intro h d hd
    apply okD_of
    cases hb : badD d with
    | false => rfl
    | true =>
      have : v.any badD = true := List.any_eq_true.2 ⟨d, hd, hb⟩
      rw [this] at h
      cases h
  · intro h
    cases ha : v.any badD with
    | false => rfl
    | true =>
      obtain ⟨d, hd, hb⟩ := List.any_eq_true.1 ha
      unfold badD okD at hb
      rw [decide_eq_true (h d hd)] at hb
      cases hb
theorem Ok.nil : Ok [] := ⟨List.Pairwise.nil, by simp⟩
theorem Ok.tail {a : Dt.Dot} {v : V} (h : Ok (a :: v)) : Ok v := ⟨(List.pairwise_cons.1 h.1).2, fun d hd => h.2 d (.tail _ hd)⟩
theorem Ok.head {a : Dt.Dot} {v : V} (h : Ok (a :: v)) : ∀ d ∈ v, a.1 < d.1 := (List.pairwise_cons.1 h.1).1
theorem get_nil (r : Int) : get [] r = 0 := rfl
theorem get_cons (a : Dt.Dot) (v : V) (r : Int) : get (a :: v) r = if a.1 = r then a.2 else get v r := by
  unfold Cn.get
  by_cases h : a.1 = r
  · rw [if_pos h, List.find?_cons_of_pos (by simpa using h)]
  · rw [if_neg h, List.find?_cons_of_neg (by simpa using h)]
theorem get_zero {v : V} {r : Int} (h : ∀ d ∈ v, d.1 ≠ r) : get v r = 0 := by
  induction v with
  | nil => rfl
  | cons a v ih => rw [get_cons, if_neg (h a (.head _)), ih fun d hd => h d (.tail _ hd)]
theorem get_mem {v : V} (h : Ok v) {d : Dt.Dot} (hd : d ∈ v) : get v d.1 = d.2 := by
  induction v with
  | nil => cases hd
  | cons a v ih =>
    rw [get_cons]
    rcases List.mem_cons.1 hd with rfl | hd
    · rw [if_pos rfl]
    · rw [if_neg (by have := h.head d hd; omega), ih h.tail hd]
theorem get_some {v : V} {r : Int} (h : get v r ≠ 0) : ∃ d ∈ v, d.1 = r := by
  induction v with
  | nil => exact absurd rfl h
  | cons a v ih =>
    rw [get_cons] at h
    by_cases ha : a.1 = r
    · exact ⟨a, .head _, ha⟩
    · rw [if_neg ha] at h
      obtain ⟨d, hd, e⟩ := ih h
      exact ⟨d, .tail _ hd, e⟩
/-- Two vectors with the same counters are one. -/
theorem ext : ∀ {a b : V}, Ok a → Ok b → (∀ r, get a r = get b r) → a = b
  | [], [], _, _, _ => rfl
  | [], y :: b, _, hb, h => by
    have := h y.1
    rw [get_cons, if_pos rfl] at this
    have h2 := hb.2 y (.head _)
    unfold Dt.Valid at h2
    rw [get_nil] at this
    omega
  | x :: a, [], ha, _, h => by
    have := h x.1
    rw [get_cons, if_pos rfl] at this
    have h2 := ha.2 x (.head _)
    unfold Dt.Valid at h2
    rw [get_nil] at this
    omega
  | x :: a, y :: b, ha, hb, h => by
    have vx := ha.2 x (.head _)
    have vy := hb.2 y (.head _)
    unfold Dt.Valid at vx vy
    have h1 : x.1 = y.1 := by
      rcases Int.lt_trichotomy x.1 y.1 with q | q | q
      · have := h x.1
        rw [get_cons, if_pos rfl, get_cons, if_neg (by omega), get_zero fun d hd => by have := hb.head d hd; omega] at this
        omega
      · exact q
      · have := h y.1
        rw [get_cons, get_cons, if_pos rfl, if_neg (by omega), get_zero fun d hd => by have := ha.head d hd; omega] at this
        omega
    have h2 : x.2 = y.2 := by
      have := h x.1
      rwa [get_cons, if_pos rfl, get_cons, if_pos h1.symm] at this
    have hxy : x = y := Prod.ext h1 h2
    rw [hxy, ext ha.tail hb.tail fun r => ?_]
    by_cases hr : x.1 = r
    · rw [get_zero fun d hd => by have := ha.head d hd; omega, get_zero fun d hd => by have := hb.head d hd; omega]
    · have := h r
      rwa [get_cons, if_neg hr, get_cons, if_neg (by rw [← h1]; exact hr)] at this
/-- What the loop of raising goes on to. -/
def rgo (d : Dt.Dot) : Bool → V → V → V
  | done, out, [] => if done then out else out ++ [d]
  | done, out, x :: r =>
    let hit := !done && decide (x.1 ≥ d.1)
    let out1 := if hit then out ++ [d] else out
    rgo d (done || hit) (if x.1 = d.1 then out1 else out1 ++ [x]) r
def raise (v : V) (d : Dt.Dot) : V := if vecHas v d then v else rgo d false [] v
def ins (d : Dt.Dot) : V → V
  | [] => [d]
  | x :: r => if x.1 ≥ d.1 then d :: (x :: r).filter (fun y => decide (y.1 ≠ d.1)) else x :: ins d r
theorem rgo_true (d : Dt.Dot) : ∀ (out v : V), rgo d true out v = out ++ v.filter (fun y => decide (y.1 ≠ d.1))
  | out, [] => by simp [rgo]
  | out, x :: r => by
    unfold rgo
    simp only [Bool.not_true, Bool.false_and, Bool.false_eq_true, if_false, Bool.true_or]
    rw [rgo_true]
    by_cases h : x.1 = d.1
    · rw [if_pos h, List.filter_cons_of_neg (by simpa using h)]
    · rw [if_neg h, List.filter_cons_of_pos (by simpa using h), List.append_assoc]
      rfl
theorem rgo_false (d : Dt.Dot) : ∀ (out v : V), rgo d false out v = out ++ ins d v
  | out, [] => rfl
  | out, x :: r => by
    unfold rgo ins
    by_cases h : x.1 ≥ d.1
    · simp only [Bool.not_false, Bool.true_and, decide_eq_true h, if_true, Bool.false_or, if_pos h]
      rw [rgo_true]
      by_cases h2 : x.1 = d.1
      · rw [if_pos h2, List.filter_cons_of_neg (by simpa using h2), List.append_assoc]
        rfl
      · rw [if_neg h2, List.filter_cons_of_pos (by simpa using h2)]
        simp
    · simp only [Bool.not_false, Bool.true_and, decide_eq_false h, Bool.false_eq_true, if_false, Bool.false_or, if_neg h]
      rw [if_neg (by omega), rgo_false, List.append_assoc]
      rfl
theorem raise_ins (v : V) (d : Dt.Dot) : raise v d = if vecHas v d then v else ins d v := by
  unfold raise
  rw [rgo_false]
  rfl
theorem get_filter {v : V} {k r : Int} (h : r ≠ k) : get (v.filter (fun y => decide (y.1 ≠ k))) r = get v r := by
  induction v with
  | nil => rfl
  | cons a v ih =>
    by_cases ha : a.1 = k
    · rw [List.filter_cons_of_neg (by simpa using ha), ih, get_cons, if_neg (by omega)]
    · rw [List.filter_cons_of_pos (by simpa using ha), get_cons, get_cons, ih]
theorem get_ins (d : Dt.Dot) (r : Int) : ∀ v : V, get (ins d v) r = if r = d.1 then d.2 else get v r
  | [] => by
    show get [d] r = _
    rw [get_cons]
    by_cases h : r = d.1
    · rw [if_pos h, if_pos h.symm]
    · rw [if_neg h, if_neg (fun q => h q.symm)]
  | x :: v => by
    unfold ins
    by_cases hx : x.1 ≥ d.1
    · rw [if_pos hx, get_cons]
      by_cases h : r = d.1
      · rw [if_pos h, if_pos h.symm]
      · rw [if_neg h, if_neg (fun q => h q.symm), get_filter h]
    · rw [if_neg hx, get_cons, get_ins d r v, get_cons]
      by_cases h : r = d.1
      · rw [if_neg (by omega), if_pos h, if_pos h]
      · rw [if_neg h, if_neg h]
theorem mem_ins {d x : Dt.Dot} : ∀ {v : V}, x ∈ ins d v → x = d ∨ x ∈ v
  | [], h => by
    rcases List.mem_cons.1 h with h | h
    · exact .inl h
    · cases h
  | y :: v, h => by
    unfold ins at h
    split at h
    · rcases List.mem_cons.1 h with h | h
      · exact .inl h
      · exact .inr (List.mem_filter.1 h).1
    · rcases List.mem_cons.1 h with h | h
      · exact .inr (h ▸ .head _)
      · rcases mem_ins h with h | h
        · exact .inl h
        · exact .inr (.tail _ h)
theorem ok_ins {d : Dt.Dot} (hd : Dt.Valid d) : ∀ {v : V}, Ok v → Ok (ins d v)
  | [], _ => ⟨List.pairwise_singleton _ _, fun x hx => by rcases mem_ins hx with h | h; exact h ▸ hd; cases h⟩
  | y :: v, h => by
    refine ⟨?_, fun x hx => by rcases mem_ins hx with q | q; exact q ▸ hd; exact h.2 x q⟩
    unfold ins
    split
    · rename_i hy
      refine List.pairwise_cons.2 ⟨fun x hx => ?_, h.1.sublist List.filter_sublist⟩
      obtain ⟨h1, h2⟩ := List.mem_filter.1 hx
      have h3 : x.1 ≠ d.1 := by simpa using h2
      rcases List.mem_cons.1 h1 with rfl | h1
      · omega
      · have := h.head x h1
        omega
    · refine List.pairwise_cons.2 ⟨fun x hx => ?_, (ok_ins hd h.tail).1⟩
      rcases mem_ins hx with q | q
      · subst q; omega
      · exact h.head x q
theorem ok_raise {v : V} {d : Dt.Dot} (hv : Ok v) (hd : Dt.Valid d) : Ok (raise v d) := by
  rw [raise_ins]
  split
  · exact hv
  · exact ok_ins hd hv
theorem vecHas_iff {v : V} {d : Dt.Dot} (hd : Dt.Valid d) : vecHas v d = true ↔ d.2 ≤ get v d.1 := by
  unfold vecHas okD
  rw [decide_eq_true hd]
  simp
theorem get_raise {v : V} {d : Dt.Dot} (hd : Dt.Valid d) (r : Int) : get (raise v d) r = if r = d.1 then max (get v r) d.2 else get v r := by
  rw [raise_ins]
  by_cases h : vecHas v d = true
  · rw [if_pos h]
    have := (vecHas_iff hd).1 h
    by_cases hr : r = d.1
    · rw [if_pos hr, hr]; omega
    · rw [if_neg hr]
  · rw [if_neg h, get_ins]
    have := mt (vecHas_iff hd).2 h
    by_cases hr : r = d.1
    · rw [if_pos hr, if_pos hr, hr]; omega
    · rw [if_neg hr, if_neg hr]
/-- The vector with some dots. -/
def of (l : V) : V := l.foldl raise []
def mrg (a b : V) : V := of (a ++ b)
def tops (x : Int) (l : V) (r : Int) : Int := l.foldl (fun m d => if r = d.1 then max m d.2 else m) x
theorem ok_fold {l : V} (hl : ∀ d ∈ l, Dt.Valid d) : ∀ {v : V}, Ok v → Ok (l.foldl raise v) := by
  induction l with
  | nil => intro v hv; exact hv
  | cons a l ih => intro v hv; exact ih (fun d hd => hl d (.tail _ hd)) (ok_raise hv (hl a (.head _)))
theorem get_fold {l : V} (hl : ∀ d ∈ l, Dt.Valid d) (r : Int) : ∀ v : V, get (l.foldl raise v) r = tops (get v r) l r := by
  induction l with
  | nil => intro v; rfl
  | cons a l ih =>
    intro v
    show get (l.foldl raise (raise v a)) r = tops (get v r) (a :: l) r
    rw [ih (fun d hd => hl d (.tail _ hd)), get_raise (hl a (.head _))]
    rfl
theorem ok_of {l : V} (hl : ∀ d ∈ l, Dt.Valid d) : Ok (of l) := ok_fold hl Ok.nil
theorem get_of {l : V} (hl : ∀ d ∈ l, Dt.Valid d) (r : Int) : get (of l) r = tops 0 l r := get_fold hl r []
theorem both_valid {a b : V} (ha : ∀ d ∈ a, Dt.Valid d) (hb : ∀ d ∈ b, Dt.Valid d) : ∀ d ∈ a ++ b, Dt.Valid d := fun d hd => by
  rcases List.mem_append.1 hd with h | h
  · exact ha d h
  · exact hb d h
/-- The order that the code finds, and that of the reference. -/
def order (a b : V) : Int := if a = b then 0 else if mrg a b = b then -1 else if mrg a b = a then 1 else 2
/-! the map -/
def mfold (l : V) : List (Int × Int) := l.foldl (fun es d => mput es d.1 (max (mget es d.1) d.2)) []
theorem mget_get (es : List (Int × Int)) (k : Int) : mget es k = get es k := rfl
theorem mget_put {k v : Int} (r : Int) : ∀ es : List (Int × Int), mget (mput es k v) r = if r = k then v else mget es r
  | [] => by
    show get [(k, v)] r = if r = k then v else 0
    rw [get_cons]
    by_cases h : r = k
    · rw [if_pos h, if_pos h.symm]
    · rw [if_neg h, if_neg fun q => h q.symm, get_nil]
  | p :: es => by
    have ih := mget_put r es (k := k) (v := v)
    rw [mget_get] at ih ⊢
    unfold mput
    by_cases hp : p.1 = k
    · rw [if_pos hp, get_cons, mget_get, get_cons]
      by_cases h : r = k
      · rw [if_pos h, if_pos h.symm]
      · rw [if_neg h, if_neg fun q => h q.symm, if_neg (by omega)]
    · rw [if_neg hp, get_cons, ih, mget_get, mget_get, get_cons]
      by_cases h : r = k
      · rw [if_pos h, if_neg (by omega), if_pos h]
      · rw [if_neg h, if_neg h]
theorem mfold_snoc (l : V) (d : Dt.Dot) : mfold (l ++ [d]) = mput (mfold l) d.1 (max (mget (mfold l) d.1) d.2) := by
  unfold mfold
  rw [List.foldl_append]
  rfl
theorem mfold_get (l : V) (r : Int) : mget (mfold l) r = tops 0 l r := by
  have key : ∀ (l : V) (es : List (Int × Int)), mget (l.foldl (fun es d => mput es d.1 (max (mget es d.1) d.2)) es) r = tops (mget es r) l r := by
    intro l
    induction l with
    | nil => intro es; rfl
    | cons a l ih =>
      intro es
      show mget (l.foldl _ (mput es a.1 (max (mget es a.1) a.2))) r = tops (if r = a.1 then max (mget es r) a.2 else mget es r) l r
      rw [ih, mget_put]
      by_cases h : r = a.1
      · rw [if_pos h, if_pos h, h]
      · rw [if_neg h, if_neg h]
  exact key l []
theorem mput_mem {k v : Int} {p : Int × Int} : ∀ {es : List (Int × Int)}, p ∈ mput es k v → p = (k, v) ∨ p ∈ es
  | [], h => .inl (List.mem_singleton.1 h)
  | q :: es, h => by
    unfold mput at h
    split at h
    · rcases List.mem_cons.1 h with h | h
      · exact .inl h
      · exact .inr (.tail _ h)
    · rcases List.mem_cons.1 h with h | h
      · exact .inr (h ▸ .head _)
      · rcases mput_mem h with h | h
        · exact .inl h
        · exact .inr (.tail _ h)
theorem mfold_pos {l : V} (hl : ∀ d ∈ l, Dt.Valid d) : ∀ p ∈ mfold l, 0 < p.2 := by
  have key : ∀ (l : V), (∀ d ∈ l, Dt.Valid d) → ∀ (es : List (Int × Int)), (∀ p ∈ es, 0 < p.2) → ∀ p ∈ l.foldl (fun es d => mput es d.1 (max (mget es d.1) d.2)) es, 0 < p.2 := by
    intro l
    induction l with
    | nil => intro _ es h; exact h
    | cons a l ih =>
      intro hl es h
      refine ih (fun d hd => hl d (.tail _ hd)) _ fun p hp => ?_
      rcases mput_mem hp with rfl | hp
      · have := hl a (.head _)
        unfold Dt.Valid at this
        show 0 < max _ a.2
        omega
      · exact h p hp
  exact key l hl [] (by simp)
theorem mput_len {k v : Int} : ∀ es : List (Int × Int), (mput es k v).length ≤ es.length + 1
  | [] => Nat.le_refl _
  | p :: es => by
    unfold mput
    split
    · simp
    · have := mput_len es (k := k) (v := v)
      simp only [List.length_cons]
      omega
theorem mfold_len (l : V) : (mfold l).length ≤ l.length := by
  have key : ∀ (l : V) (es : List (Int × Int)), (l.foldl (fun es d => mput es d.1 (max (mget es d.1) d.2)) es).length ≤ es.length + l.length := by
    intro l
    induction l with
    | nil => intro es; simp
    | cons a l ih =>
      intro es
      have h1 := ih (mput es a.1 (max (mget es a.1) a.2))
      have h2 := mput_len es (k := a.1) (v := max (mget es a.1) a.2)
      simp only [List.foldl_cons, List.length_cons]
      omega
  have := key l []
  simp only [List.length_nil, Nat.zero_add] at this
  exact this
/-- What was collected out of the map, sorted by replica, is the vector. -/
theorem sorted_of {l : V} (hl : ∀ d ∈ l, Dt.Valid d) {es done out : List (Int × Int)} (he : es = mfold l) (hk : (es.map (·.1)).Nodup) (hp : done.Perm es) (hq : out.Perm done) (hs : out.Pairwise (fun a b => a.1 ≤ b.1)) : out = of l := by
  subst he
  have hpe : out.Perm (mfold l) := hq.trans hp
  have hkeys : (out.map (·.1)).Nodup := (hpe.map _).nodup_iff.2 hk
  have hlt : out.Pairwise (fun a b => a.1 < b.1) := by
    have h1 := List.pairwise_map.1 hkeys
    exact (List.pairwise_and_iff.2 ⟨hs, h1⟩).imp fun {a b} h => by
      have h1 := h.1
      have h2 := h.2
      omega
  have hget : ∀ p ∈ out, get (of l) p.1 = p.2 := fun p hp2 => by
    have hm := hpe.mem_iff.1 hp2
    obtain ⟨j, hj, hj2⟩ := List.getElem_of_mem hm
    have := mget_at hk (j := j) (p := p) (by rw [List.getElem?_eq_getElem hj, hj2])
    rw [get_of hl, ← mfold_get, this]
  have hov : ∀ p ∈ out, Dt.Valid p := fun p hp2 => by
    have h1 := hget p hp2
    have h2 := mfold_pos hl p (hpe.mem_iff.1 hp2)
    obtain ⟨d, hd, hd2⟩ := get_some (v := of l) (r := p.1) (by omega)
    have h3 := get_mem (ok_of hl) hd
    have h4 : d = p := Prod.ext hd2 (by rw [← h3, ← h1, hd2])
    exact h4 ▸ (ok_of hl).2 d hd
  have hok : Ok out := ⟨hlt, hov⟩
  refine ext hok (ok_of hl) fun r => ?_
  by_cases hz : get out r = 0
  · rw [hz]
    by_cases h2 : get (of l) r = 0
    · exact h2.symm
    · rw [get_of hl, ← mfold_get] at h2
      obtain ⟨p, hp2, rfl⟩ := get_some (v := mfold l) (r := r) h2
      have hm := hpe.mem_iff.2 hp2
      have := get_mem hok hm
      have := mfold_pos hl p hp2
      omega
  · obtain ⟨d, hd, rfl⟩ := get_some hz
    rw [get_mem hok hd, hget d hd]
theorem valid_no {v : V} {i : Nat} (h : i < v.length) (hb : ¬ Dt.Valid v[i]) : vecValid v = false := by
  cases hv : vecValid v with
  | false => rfl
  | true => exact absurd ((ok_iff.1 hv).2 _ (List.getElem_mem h)) hb
theorem valid_no2 {v : V} {i j : Nat} (h : i < v.length) (hj : j < v.length) (hij : i = j + 1) (hb : ¬ v[j].1 < v[i].1) : vecValid v = false := by
  cases hv : vecValid v with
  | false => rfl
  | true =>
    subst hij
    exact absurd (List.pairwise_iff_getElem.1 (ok_iff.1 hv).1 j (j + 1) hj h (Nat.lt_succ_self _)) hb
theorem valid_yes {v : V} (h1 : ∀ i, ∀ q : i < v.length, Dt.Valid v[i]) (h2 : ∀ i, ∀ q : i + 1 < v.length, v[i].1 < v[i + 1].1) : vecValid v = true := by
  refine ok_iff.2 ⟨pw_adj.1 (adj_yes fun i hi => decide_eq_true (h2 i hi)), fun d hd => ?_⟩
  obtain ⟨i, hi, rfl⟩ := List.getElem_of_mem hd
  exact h1 i hi
def ofV (l : V) : V := if l.any badD then [] else of l
def ofE (l : V) : Int := if l.any badD then 2 else 0
theorem good_of {l : V} (h : l.any badD = false) : ∀ d ∈ l, Dt.Valid d := fun d hd => by
  apply okD_of
  cases hb : badD d with
  | false => rfl
  | true =>
    rw [List.any_eq_true.2 ⟨d, hd, hb⟩] at h
    cases h
theorem flatten_take {α : Type} {ps : List (List α)} {k : Nat} (h : k < ps.length) : (ps.take (k + 1)).flatten = (ps.take k).flatten ++ ps[k] := by
  rw [List.take_succ_eq_append_getElem h, List.flatten_append]
  simp
theorem flatten_take_le {α : Type} (ps : List (List α)) (k : Nat) : (ps.take k).flatten.length ≤ ps.flatten.length := by
  have := congrArg (fun l : List (List α) => l.flatten.length) (List.take_append_drop k ps)
  simp only [List.flatten_append, List.length_append] at this
  omega
end Go.Pn.Vc
end
section
/-
  Rows of zeros, strings appended, slices of slices, arrays' elements; a base that fixes no block. No condition beyond what each rule asks.
-/
namespace Go.Pn
open Go.RowKit
theorem zeroCells_flat {α : Type} {G : Flat α} {z : Value} {zx : α} (hzx : z.cells.toList = G.e zx) (n : Nat) : (Builtin.zeroCells z.cells n).toList = (List.replicate n zx).flatMap G.e := by
  have hzsz : z.cells.size = G.sz := by rw [← Array.length_toList, hzx, G.len]
  apply List.ext_getElem?
  intro j
  by_cases hj : j < n * G.sz
  · have hlt : j < ((List.replicate n zx).flatMap G.e).length := by rw [G.length]; simpa using hj
    obtain ⟨hi, hu⟩ := G.get (List.replicate n zx) (List.getElem?_eq_getElem hlt)
    rw [List.getElem?_eq_getElem hlt, ← hu]
    have hjm : j % G.sz < z.cells.size := by rw [hzsz]; exact Nat.mod_lt _ G.pos
    simp only [Builtin.zeroCells, Array.toList_map, Array.toList_range, List.getElem?_map]
    rw [hzsz, List.getElem?_range hj]
    simp only [Option.map_some, List.getElem_replicate]
    rw [getElem!_pos z.cells _ hjm, ← hzx, Array.getElem?_toList, Array.getElem?_eq_getElem hjm]
  · rw [List.getElem?_eq_none (by simp [Builtin.zeroCells, hzsz]; omega), List.getElem?_eq_none (by rw [G.length]; simp; omega)]
section
variable {P : Program} {n : Nat} {ops rest : List Oper} {N : Val → World → Prop} {Z : List PanicEntry → World → Prop} {f : Val} {w : World}
  {d : Nat} {x y : Operand} {t t' tn ty tr e : TypeId} {pos : String} {after : Array Edge} {α : Type} {G : Flat α} {F : Nat → Prop}
theorem O.capL {l : Option Addr} {k c : Nat} (ht : P.underlying t = some (.slice e)) (hx : ev n f x = .slice l k c) (h : O P n ops rest N Z (upd f d (i64 c)) w) :
    O P n ops ({ dst := some d, op := .call { callee := .builtin .cap, args := [x].toArray, argTypes := [t].toArray }, type := ty, pos := pos, after := after, guard := .none } :: rest) N Z f w :=
  O.val rfl rfl (by
    simp [execOp, resolve, invoke, builtin, hx, Builtin.cap_, run_underlying ht, goInt]) h
/-- append(nil, make([]T, m)...). -/
theorem O.appZ {i : TypeInfo} {z : Value} {zx : α} {k kn : IntKind} {m B : Nat} (ht : P.underlying t = some (.slice e)) (htn : P.underlying tn = some (.int kn)) (hi : P.info? e = some i) (hz : i.zero = some z) (hsz : i.size = G.sz) (hzx : z.cells.toList = G.e zx)
    (hx : ev n f x = .slice none 0 0) (hy : ev n f y = .int k (m : Int)) (h0 : 0 < m) (hb : m * i.bytes ≤ 281474976710656) (hm : m ≤ maxLen) (hB : B ≤ w.heap.size)
    (h : ∀ b cap w', w.heap.size ≤ b → m ≤ cap → OwnF G e B w' (.slice (some ⟨b, 0, none⟩) m cap) (List.replicate m zx) → Le w w' → O P n ops rest N Z (upd f d (.slice (some ⟨b, 0, none⟩) m cap)) w') :
    O P n ops ({ dst := some d, op := .call { callee := .builtin .append, args := [x, y].toArray, argTypes := [t, tn].toArray }, type := tr, pos := pos, after := after, guard := .none } :: rest) N Z f w := by
  have hr := Go.Lib.run_append_nil_zeros (P := P) w t tn tr e i z k kn ht htn hi hz m h0 (by rw [hsz]; exact G.pos) (by unfold maxLen at hm; omega) hb
  have hge := grownCap_ge w m 0 e
  have hcm : grownCap w m 0 e ≤ maxLen := grownCap_le_maxLen w m 0 e hm
  have hzsz : z.cells.size = G.sz := by rw [← Array.length_toList, hzx, G.len]
  obtain ⟨w1, hw1⟩ : ∃ w1, w1 = w.drew.alloc (.cells (Builtin.zeroCells z.cells m ++ Builtin.zeroCells z.cells (grownCap w m 0 e - m)) e) := ⟨_, rfl⟩
  rw [← hw1] at hr
  have hblk : w1.heap[w.heap.size]? = some (.cells (Builtin.zeroCells z.cells m ++ Builtin.zeroCells z.cells (grownCap w m 0 e - m)) e (0, 0)) := by rw [hw1]; exact heap_alloc_new w.drew _
  have hle : Le w w1 := by rw [hw1]; exact (Le.drew w).trans (Le.alloc _ _)
  refine O.val rfl rfl (w' := w1) ?_ (h w.heap.size (grownCap w m 0 e) w1 (Nat.le_refl _) hge ?_ hle)
  · have h3 : (execOp (ev n f) { dst := some d, op := .call { callee := .builtin .append, args := [x, y].toArray, argTypes := [t, tn].toArray }, type := tr, pos := pos, after := after, guard := .none }).run P w = ((Builtin.append_ #[t, tn] tr #[ev n f x, ev n f y]).run P w).andThen (fun v w => .ok (.value v) w) := by
      simp [execOp, resolve, invoke, builtin]
    rw [h3, hx, hy, hr]
    rfl
  · refine ⟨⟨by rw [G.length], .inr ⟨w.heap.size, _, _, by simp, hB, hblk, by simpa using hge, hcm, ?_, ?_⟩⟩, by simpa using hm⟩
    · simp only [Array.size_append, size_zeroCells, hzsz, ← Nat.add_mul]
      congr 1
      omega
    · rw [Array.toList_append, zeroCells_flat hzx, List.take_append_of_le_length (by rw [G.length]; exact Nat.le_refl _), ← G.length, List.take_length]
/-- nil[:0]. -/
theorem O.subNil {s : Nat} {kk : IntKind} {hi : Operand} (ht : P.underlying t = some (.slice e)) (hsz : ∀ w, (sizeOf e).run P w = .ok s w) (hx : ev n f x = .slice none 0 0) (hhi : ev n f hi = .int kk 0)
    (h : O P n ops rest N Z (upd f d (.slice none 0 0)) w) :
    O P n ops ({ dst := some d, op := .slice t x .none (some hi) .none, type := tr, pos := pos, after := after, guard := .none } :: rest) N Z f w := by
  refine O.val rfl rfl ?_ h
  have h3 : execOp (ev n f) { dst := some d, op := .slice t x .none (some hi) .none, type := tr, pos := pos, after := after, guard := .none } = (do pure (.value (← Instr.sliceAt t (ev n f x) .none (some (ev n f hi)) .none))) := rfl
  have hbl : (Instr.sliceBound (.int kk 0) 0 .sliceAcap).run P w = .ok 0 w := by
    simp [Instr.sliceBound, asIntOf]
  have h4 : (Instr.sliceAt t (.slice none 0 0) .none (some (.int kk 0)) .none).run P w = .ok (.slice none 0 0) w := by
    unfold Instr.sliceAt
    rw [Sem.run_bind, run_underlying ht, Result.andThen_ok]
    simp only []
    unfold Instr.slice
    rw [Sem.run_bind, run_underlying ht, Result.andThen_ok]
    simp [Instr.sliceBounds, hsz, hbl]
  rw [h3, Sem.run_bind, hx, hhi, h4]
  rfl
end
open Go.Lib
section
variable {P : Program} {n : Nat} {ops rest : List Oper} {N : Val → World → Prop} {Z : List PanicEntry → World → Prop} {f : Val} {w : World}
  {d : Nat} {x y : Operand} {t t' tn ty tr e : TypeId} {pos : String} {after : Array Edge} {α : Type} {F : Nat → Prop}
end
/-! slices of slices -/
/-- A slice, in its cell. -/
def sliE {α : Type} (E : Enc α) : Enc (List α) where
  sz := 1
  rep := fun w F cs xs => ∃ v, cs = [v] ∧ Sl E w F v xs
  len := by rintro w F cs x ⟨v, rfl, _⟩; rfl
  one := by
    rintro w F cs x ⟨v, rfl, h⟩ c hc
    obtain rfl : c = v := by simpa using hc
    exact h.oneC
  ext := by rintro w w' F cs x ⟨v, rfl, h⟩ hw; exact ⟨v, rfl, h.ext hw⟩
  weak := by rintro w F F' cs x ⟨v, rfl, h⟩ hF; exact ⟨v, rfl, h.weak hF⟩
/-- A literal of slices. -/
theorem Sl.lits {α : Type} {E : Enc α} {w : World} {F : Nat → Prop} {b : Nat} {ty : TypeId} {vs : List Value} {xss : List (List α)} (h : Own w b ty vs) (hl : vs.length = xss.length) (hm : xss.length ≤ maxLen)
    (hs : ∀ i, ∀ h1 : i < vs.length, ∀ h2 : i < xss.length, Sl E w F vs[i] xss[i]) : Sl (sliE E) w (fun k => k = b ∨ F k) (.slice (some ⟨b, 0, none⟩) xss.length xss.length) xss := by
  obtain ⟨fr, hb, _⟩ := h
  refine ⟨hm, .inr ⟨b, 0, xss.length, _, ty, fr, rfl, .inl rfl, hb, Nat.le_refl _, hm, ?_, fun i hi => ?_⟩⟩
  · intro _
    show 0 + xss.length * 1 ≤ _
    simp [hl]
  · refine ⟨vs[i]'(by omega), ?_, (hs i (by omega) hi).weak fun k hk => .inr hk⟩
    show (vs.drop (0 + i * 1)).take 1 = _
    rw [Nat.zero_add, Nat.mul_one, List.drop_eq_getElem_cons (by omega), List.take_succ_cons, List.take_zero]
section
variable {P : Program} {n : Nat} {ops rest : List Oper} {N : Val → World → Prop} {Z : List PanicEntry → World → Prop} {f : Val} {w : World}
  {d : Nat} {x y : Operand} {t tr e : TypeId} {pos : String} {after : Array Edge} {α : Type} {E : Enc α} {F : Nat → Prop}
/-- A load of a slice out of a slice of slices. -/
theorem O.loadSl {a : Addr} {z : List α} (hag : ∀ w, (isAgg t).run P w = .ok false w) (hx : ev n f x = .pointer (some a)) (ha : At (sliE E) w F a z)
    (h : ∀ v, Sl E w F v z → O P n ops rest N Z (upd f d v) w) :
    O P n ops ({ dst := some d, op := .load t x, type := tr, pos := pos, after := after, guard := .none } :: rest) N Z f w :=
  O.load1 hag rfl hx ha fun v hv => by
    obtain ⟨v', h1, h2⟩ := hv
    obtain rfl : v = v' := by simpa using h1
    exact h v h2
end
theorem Wr.lst {ty te : TypeId} {w : World} {bw g : Nat} {xs ys : List UInt8} (h : Wr ty te w bw g xs) (e : xs = ys) : Wr ty te w bw g ys := e ▸ h
end Go.Pn
end
section
/-
  Rows of structs that are sorted in place. No condition.
-/
namespace Go.Pn
open Go.RowKit Go.Sort Go.Proofs
section
variable {α : Type} [Inhabited α] {G : Flat α} {ty : TypeId} {B : Nat} {w : World} {l : List α} {g cap : Nat}
theorem flatK_list (G : Flat α) (l : List α) : (flatK G.e G.sz l.toArray).toList = l.flatMap G.e := by
  apply List.ext_getElem?
  intro t
  by_cases ht : t < l.length * G.sz
  · have h1 : t < (l.flatMap G.e).length := by rw [G.length]; exact ht
    obtain ⟨hi, hu⟩ := G.get l (List.getElem?_eq_getElem h1)
    have h2 : t < (flatK G.e G.sz l.toArray).size := by rw [size_flatK]; simpa using ht
    rw [Array.getElem?_toList, Array.getElem?_eq_getElem h2, List.getElem?_eq_getElem h1]
    congr 1
    have h3 := get_flatK G.e G.sz l.toArray t (by simpa using ht)
    rw [getElem!_pos _ t h2] at h3
    rw [h3]
    have h4 : l.toArray[t / G.sz]! = l[t / G.sz] := by
      rw [getElem!_pos l.toArray _ (by simpa using hi)]
      simp
    rw [h4, List.getElem!_eq_getElem?_getD, hu]
    rfl
  · rw [List.getElem?_eq_none (by rw [Array.length_toList, size_flatK]; simpa using ht), List.getElem?_eq_none (by rw [G.length]; omega)]
theorem OwnF.holdsK (h : OwnF G ty B w (.slice (some ⟨g, 0, none⟩) l.length cap) l) : HoldsK G.e G.sz w g 0 l.toArray ∧ g < w.heap.size := by
  obtain ⟨h0, hm⟩ := h
  rcases h0.2 with ⟨h1, _⟩ | ⟨g', cap', cur, h1, hb, hg, hn, hc, hsz, ht⟩
  · cases h1
  · have e1 : g = g' := by cases h1; rfl
    subst e1
    refine ⟨?_, lt_of_some hg⟩
    intro j hj
    rw [size_flatK] at hj
    have hj2 : j < l.length * G.sz := by simpa using hj
    have hjc : j < cur.size := by
      have := Nat.mul_le_mul_right G.sz hn
      have e2 : cap = cap' := by cases h1; rfl
      omega
    have hcell : cur[j]? = some (id (flatK G.e G.sz l.toArray)[j]!) := by
      have h2 : j < (flatK G.e G.sz l.toArray).size := by rw [size_flatK]; exact hj
      have h3 : (flatK G.e G.sz l.toArray)[j]? = cur[j]? := by
        rw [← Array.getElem?_toList, flatK_list, ← ht, List.getElem?_take, if_pos hj2, Array.getElem?_toList]
      rw [← h3, getElem!_pos _ j h2, Array.getElem?_eq_getElem h2]
      rfl
    constructor
    · simp only [World.cell?, hg, Nat.zero_add]
      simpa using hcell
    · simp [World.frozen?, hg]
/-- Behind the sort. -/
theorem OwnF.sortedK (h : OwnF G ty B w (.slice (some ⟨g, 0, none⟩) l.length cap) l) {d : Array α} (hd : d.size = l.length) (m : Nat) (os : Array Obj) :
    OwnF G ty B (sortWorldK G.e G.sz w g 0 m d os) (.slice (some ⟨g, 0, none⟩) l.length cap) d.toList ∧ Ext (fun k => k = g) w (sortWorldK G.e G.sz w g 0 m d os) := by
  obtain ⟨h0, hm⟩ := h
  have hsize : (sortWorldK G.e G.sz w g 0 m d os).heap.size = w.heap.size + os.size := by
    show (w.heap.modify g _ ++ os).size = _
    rw [Array.size_append, Array.size_modify]
  rcases h0.2 with ⟨h1, _⟩ | ⟨g', cap', cur, h1, hb, hg, hn, hc, hsz, ht⟩
  · cases h1
  · have e1 : g = g' := by cases h1; rfl
    have e2 : cap = cap' := by cases h1; rfl
    subst e1; subst e2
    have hlt : g < w.heap.size := lt_of_some hg
    constructor
    · have hd2 : d.toList.length = l.length := by simpa using hd
      refine ⟨⟨by rw [G.length], .inr ⟨g, cap, putCells id 0 (flatK G.e G.sz d) cur, by rw [hd2], hb, ?_, by rw [hd2]; exact hn, hc, ?_, ?_⟩⟩, by rw [hd2]; exact hm⟩
      · show (w.heap.modify g _ ++ os)[g]? = _
        rw [Array.getElem?_append_left (by rw [Array.size_modify]; exact hlt), Array.getElem?_modify, if_pos rfl, hg]
        rfl
      · unfold putCells
        rw [Array.size_mapIdx]
        exact hsz
      · rw [hd2]
        have e3 : d.toList.flatMap G.e = (flatK G.e G.sz d).toList := by
          have := flatK_list G d.toList
          rw [Array.toArray_toList] at this
          exact this.symm
        rw [e3]
        have hfs : (flatK G.e G.sz d).size = l.length * G.sz := by rw [size_flatK, hd]
        apply List.ext_getElem?
        intro j
        unfold putCells
        by_cases hj : j < l.length * G.sz
        · have hjc : j < cur.size := by
            have := Nat.mul_le_mul_right G.sz hn
            omega
          have hjf : j < (flatK G.e G.sz d).size := by omega
          rw [List.getElem?_take, if_pos hj, Array.getElem?_toList, Array.getElem?_mapIdx, Array.getElem?_eq_getElem hjc]
          simp only [Option.map_some, Nat.zero_le, true_and, Nat.zero_add, if_pos hjf, Nat.sub_zero, Array.getElem?_toList, Array.getElem?_eq_getElem hjf]
          rw [getElem!_pos _ j hjf]
          rfl
        · rw [List.getElem?_take, if_neg hj, List.getElem?_eq_none (by rw [Array.length_toList]; omega)]
    · refine ⟨rfl, rfl, rfl, by rw [hsize]; omega, fun k hk hn => ?_⟩
      show (w.heap.modify g _ ++ os)[k]? = _
      rw [Array.getElem?_append_left (by rw [Array.size_modify]; exact hk), Array.getElem?_modify, if_neg (fun h => hn h.symm)]
end
end Go.Pn
end
section
/-
  Plain laws of the texts of dots. No program in sight. No condition.
-/
namespace Go.Pn.Dt
open Go.Lib
def text (d : Dot) : List UInt8 := itoa d.1 ++ [46] ++ itoa d.2
theorem ofNat_toNat {k : Nat} (h : k < 256) : (UInt8.ofNat k).toNat = k := by simp; omega
theorem dec_digit : ∀ (u : Nat), ∀ c ∈ decDigits u, 48 ≤ c.toNat ∧ c.toNat ≤ 57 := by
  intro u
  induction u using Nat.strongRecOn with
  | _ u ih =>
    intro c hc
    rw [decDigits] at hc
    split at hc
    · rename_i h
      simp only [List.mem_singleton] at hc
      subst hc
      rw [ofNat_toNat (by omega)]
      omega
    · rename_i h
      rcases List.mem_append.1 hc with hc | hc
      · exact ih (u / 10) (by omega) c hc
      · simp only [List.mem_singleton] at hc
        subst hc
        rw [ofNat_toNat (by omega)]
        omega
theorem dec_ne (u : Nat) : decDigits u ≠ [] := by
  rw [decDigits]
  split
  · simp
  · simp
theorem parse_dec : ∀ (u acc : Nat) (rest : List UInt8), acc * 10 ^ (decDigits u).length + u < 9223372036854775808 →
    parseUint10 acc (decDigits u ++ rest) = parseUint10 (acc * 10 ^ (decDigits u).length + u) rest := by
  intro u
  induction u using Nat.strongRecOn with
  | _ u ih =>
    intro acc rest hb
    by_cases h : u < 10
    · have e : decDigits u = [UInt8.ofNat (48 + u)] := by rw [decDigits, dif_pos h]
      rw [e] at hb ⊢
      simp only [List.length_singleton, Nat.pow_one] at hb ⊢
      show parseUint10 acc (UInt8.ofNat (48 + u) :: rest) = _
      rw [parseUint10, ofNat_toNat (by omega), if_pos (by omega), if_neg (by omega), if_neg (by omega)]
      congr 1
      omega
    · have e : decDigits u = decDigits (u / 10) ++ [UInt8.ofNat (48 + u % 10)] := by rw [decDigits, dif_neg h]
      have hl : (decDigits u).length = (decDigits (u / 10)).length + 1 := by rw [e]; simp
      rw [hl, Nat.pow_succ] at hb ⊢
      have hm : acc * (10 ^ (decDigits (u / 10)).length * 10) = acc * 10 ^ (decDigits (u / 10)).length * 10 := by rw [Nat.mul_assoc]
      rw [hm] at hb ⊢
      rw [e, List.append_assoc, ih (u / 10) (by omega) acc _ (by omega)]
      show parseUint10 _ (UInt8.ofNat (48 + u % 10) :: rest) = _
      rw [parseUint10, ofNat_toNat (by omega), if_pos (by omega), if_neg (by omega), if_neg (by omega)]
      congr 1
      omega
theorem atoi_dec {u : Nat} (h : u < 9223372036854775808) : atoiAll (decDigits u) = .ok (u : Int) := by
  have hp : parseUint10 0 (decDigits u) = .ok u := by
    have := parse_dec u 0 [] (by omega)
    rw [List.append_nil, Nat.zero_mul, Nat.zero_add] at this
    rw [this]
    rfl
  have hm : parseMag (decDigits u) = .ok u := by unfold parseMag; rw [if_neg (dec_ne u)]; exact hp
  cases hd : decDigits u with
  | nil => exact absurd hd (dec_ne u)
  | cons c r =>
    have hc := dec_digit u c (by rw [hd]; simp)
    rw [hd] at hm
    unfold atoiAll
    have h1 : ¬ (c.toNat = 43 ∨ c.toNat = 45) := by omega
    have h2 : ¬ c.toNat = 45 := by omega
    have h3 : ¬ (c.toNat = 43 ∨ False) := fun h => h1 (h.elim .inl False.elim)
    simp only [h2, not_false_eq_true, true_and, false_and, if_false]
    rw [if_neg h3, hm]
    simp only []
    rw [if_neg (by omega)]
theorem index_dot : ∀ (a b : List UInt8), (∀ c ∈ a, c ≠ 46) → indexByte (a ++ 46 :: b) 46 = a.length := by
  intro a
  induction a with
  | nil => intro b _; rfl
  | cons c a ih =>
    intro b h
    have hc : (c == 46) = false := by simpa using h c (by simp)
    have ih2 := ih b (fun x hx => h x (by simp [hx]))
    show (if (c == 46) = true then (0 : Int) else if indexByte (a ++ 46 :: b) 46 == -1 then -1 else indexByte (a ++ 46 :: b) 46 + 1) = _
    rw [hc, ih2]
    simp only [Bool.false_eq_true, if_false]
    have h4 : ((a.length : Int) == -1) = false := by
      cases h5 : ((a.length : Int) == -1) with
      | false => rfl
      | true => simp at h5
    rw [h4]
    simp
theorem index_ge : ∀ (a : List UInt8) (c : UInt8), indexByte a c = -1 ∨ (0 ≤ indexByte a c ∧ indexByte a c < a.length)
  | [], c => .inl rfl
  | b :: l, c => by
    have ih := index_ge l c
    unfold indexByte
    split
    · right; simp
    · split
      · exact .inl rfl
      · rename_i h1 h2
        right
        simp at h2
        simp only [List.length_cons]
        omega
/-- Both sides of the first point. -/
def cut (s : List UInt8) : List UInt8 × List UInt8 := if 0 ≤ indexByte s 46 then (s.take (indexByte s 46).toNat, s.drop ((indexByte s 46).toNat + 1)) else (s, [])
theorem cut_len (s : List UInt8) : (cut s).1.length ≤ s.length ∧ (cut s).2.length ≤ s.length := by
  unfold cut
  split <;> simp <;> omega
theorem cut_dot (a b : List UInt8) (h : ∀ c ∈ a, c ≠ 46) : cut (a ++ 46 :: b) = (a, b) := by
  unfold cut
  rw [index_dot a b h, if_pos (by omega)]
  simp [List.drop_append]
theorem dec_nodot (u : Nat) : ∀ c ∈ decDigits u, c ≠ 46 := by
  intro c hc h
  have := dec_digit u c hc
  rw [h] at this
  exact absurd this.1 (by decide)
theorem itoa_nat {n : Int} (h : 0 ≤ n) : itoa n = decDigits n.toNat := by unfold itoa; rw [if_neg (by omega)]
/-- What the program makes of a text. -/
def pparse (s : List UInt8) : Option Dot :=
  match atoiAll (cut s).1, atoiAll (cut s).2 with
  | .ok r, .ok c => if Valid (r, c) ∧ text (r, c) = s then some (r, c) else none
  | _, _ => none
theorem pparse_of {d : Dot} (h : Valid d) : pparse (text d) = some d := by
  obtain ⟨r, c⟩ := d
  unfold Valid at h
  simp only at h
  unfold pparse
  have e : text (r, c) = decDigits r.toNat ++ 46 :: decDigits c.toNat := by
    unfold text
    simp only [itoa_nat (show 0 ≤ r by omega), itoa_nat (show 0 ≤ c by omega), List.append_assoc, List.singleton_append]
  have e2 := cut_dot (decDigits r.toNat) (decDigits c.toNat) (dec_nodot _)
  rw [e, e2]
  simp only [atoi_dec (show r.toNat < 9223372036854775808 by omega), atoi_dec (show c.toNat < 9223372036854775808 by omega)]
  rw [Int.toNat_of_nonneg (show 0 ≤ r by omega), Int.toNat_of_nonneg (show 0 ≤ c by omega), e]
  rw [if_pos ⟨by unfold Valid; exact h, rfl⟩]
theorem pparse_iff (s : List UInt8) (d : Dot) : pparse s = some d ↔ Valid d ∧ text d = s := by
  constructor
  · intro h
    unfold pparse at h
    split at h
    · split at h
      · rename_i k
        cases h
        exact k
      · cases h
    · cases h
  · rintro ⟨h, rfl⟩
    exact pparse_of h

/-! the reference's parse -/
def cap (n : Int) : Int := min 1099511627776 n
def rfrom : Nat → Int → Int → List UInt8 → Option Dot
  | _, a, b, [] => some (a, b)
  | k, a, b, c :: l =>
    if 48#8 ≤ c.toBitVec ∧ c.toBitVec ≤ 57#8 then (if k = 0 then rfrom 0 (cap (10 * a + c.toNat - 48)) b l else rfrom k a (cap (10 * b + c.toNat - 48)) l)
    else if c.toBitVec = 46#8 ∧ k = 0 then rfrom 1 a b l
    else none
def rparse (s : List UInt8) : Option Dot :=
  match rfrom 0 0 0 s with
  | some d => if Valid d ∧ text d = s then some d else none
  | none => none
theorem rfrom_dec0 : ∀ (u : Nat) (a : Nat) (b : Int) (rest : List UInt8), a * 10 ^ (decDigits u).length + u ≤ 1099511627776 →
    rfrom 0 a b (decDigits u ++ rest) = rfrom 0 ((a * 10 ^ (decDigits u).length + u : Nat) : Int) b rest := by
  intro u
  induction u using Nat.strongRecOn with
  | _ u ih =>
    intro a b rest hb
    have step : ∀ (x v : Nat) (l : List UInt8), v < 10 → x * 10 + v ≤ 1099511627776 → rfrom 0 (x : Int) b (UInt8.ofNat (48 + v) :: l) = rfrom 0 ((x * 10 + v : Nat) : Int) b l := by
      intro x v l hv hx
      have hc : (UInt8.ofNat (48 + v)).toNat = 48 + v := ofNat_toNat (by omega)
      have hd : 48#8 ≤ (UInt8.ofNat (48 + v)).toBitVec ∧ (UInt8.ofNat (48 + v)).toBitVec ≤ 57#8 := by
        have e : (UInt8.ofNat (48 + v)).toBitVec.toNat = 48 + v := hc
        rw [BitVec.le_def, BitVec.le_def, e]
        constructor
        · show 48 ≤ _; omega
        · show _ ≤ 57; omega
      rw [rfrom, if_pos hd, if_pos rfl, hc]
      congr 1
      unfold cap
      omega
    by_cases h : u < 10
    · have e : decDigits u = [UInt8.ofNat (48 + u)] := by rw [decDigits, dif_pos h]
      rw [e] at hb ⊢
      simp only [List.length_singleton, Nat.pow_one] at hb ⊢
      exact step a u rest h hb
    · have e : decDigits u = decDigits (u / 10) ++ [UInt8.ofNat (48 + u % 10)] := by rw [decDigits, dif_neg h]
      have hl : (decDigits u).length = (decDigits (u / 10)).length + 1 := by rw [e]; simp
      rw [hl, Nat.pow_succ] at hb ⊢
      have hm : a * (10 ^ (decDigits (u / 10)).length * 10) = a * 10 ^ (decDigits (u / 10)).length * 10 := by rw [Nat.mul_assoc]
      rw [hm] at hb ⊢
      rw [e, List.append_assoc, ih (u / 10) (by omega) a b _ (by omega)]
      have := step (a * 10 ^ (decDigits (u / 10)).length + u / 10) (u % 10) rest (by omega) (by omega)
      rw [List.singleton_append, this]
      congr 2
      omega
theorem rfrom_dec1 : ∀ (u : Nat) (a : Int) (b : Nat) (rest : List UInt8), b * 10 ^ (decDigits u).length + u ≤ 1099511627776 →
    rfrom 1 a b (decDigits u ++ rest) = rfrom 1 a ((b * 10 ^ (decDigits u).length + u : Nat) : Int) rest := by
  intro u
  induction u using Nat.strongRecOn with
  | _ u ih =>
    intro a b rest hb
    have step : ∀ (x v : Nat) (l : List UInt8), v < 10 → x * 10 + v ≤ 1099511627776 → rfrom 1 a (x : Int) (UInt8.ofNat (48 + v) :: l) = rfrom 1 a ((x * 10 + v : Nat) : Int) l := by
      intro x v l hv hx
      have hc : (UInt8.ofNat (48 + v)).toNat = 48 + v := ofNat_toNat (by omega)
      have hd : 48#8 ≤ (UInt8.ofNat (48 + v)).toBitVec ∧ (UInt8.ofNat (48 + v)).toBitVec ≤ 57#8 := by
        have e : (UInt8.ofNat (48 + v)).toBitVec.toNat = 48 + v := hc
        rw [BitVec.le_def, BitVec.le_def, e]
        constructor
        · show 48 ≤ _; omega
        · show _ ≤ 57; omega
      rw [rfrom, if_pos hd, if_neg (by decide), hc]
      congr 1
      unfold cap
      omega
    by_cases h : u < 10
    · have e : decDigits u = [UInt8.ofNat (48 + u)] := by rw [decDigits, dif_pos h]
      rw [e] at hb ⊢
      simp only [List.length_singleton, Nat.pow_one] at hb ⊢
      exact step b u rest h hb
    · have e : decDigits u = decDigits (u / 10) ++ [UInt8.ofNat (48 + u % 10)] := by rw [decDigits, dif_neg h]
      have hl : (decDigits u).length = (decDigits (u / 10)).length + 1 := by rw [e]; simp
      rw [hl, Nat.pow_succ] at hb ⊢
      have hm : b * (10 ^ (decDigits (u / 10)).length * 10) = b * 10 ^ (decDigits (u / 10)).length * 10 := by rw [Nat.mul_assoc]
      rw [hm] at hb ⊢
      rw [e, List.append_assoc, ih (u / 10) (by omega) a b _ (by omega)]
      have := step (b * 10 ^ (decDigits (u / 10)).length + u / 10) (u % 10) rest (by omega) (by omega)
      rw [List.singleton_append, this]
      congr 2
      omega
theorem rparse_of {d : Dot} (h : Valid d) : rparse (text d) = some d := by
  obtain ⟨r, c⟩ := d
  have hv := h
  unfold Valid at h
  simp only at h
  have e : text (r, c) = decDigits r.toNat ++ 46 :: decDigits c.toNat := by
    unfold text
    simp only [itoa_nat (show 0 ≤ r by omega), itoa_nat (show 0 ≤ c by omega), List.append_assoc, List.singleton_append]
  have e0 : rfrom 0 0 0 (text (r, c)) = some (r, c) := by
    rw [e]
    have h1 := rfrom_dec0 r.toNat 0 0 (46 :: decDigits c.toNat) (by omega)
    rw [Nat.zero_mul, Nat.zero_add] at h1
    have h2 : rfrom 0 ((r.toNat : Nat) : Int) 0 (46 :: decDigits c.toNat) = rfrom 1 ((r.toNat : Nat) : Int) 0 (decDigits c.toNat) := by
      rw [rfrom, if_neg (by decide), if_pos ⟨by decide, rfl⟩]
    have h3 := rfrom_dec1 c.toNat ((r.toNat : Nat) : Int) 0 [] (by omega)
    rw [Nat.zero_mul, Nat.zero_add, List.append_nil] at h3
    refine (h1.trans (h2.trans h3)).trans ?_
    rw [rfrom, Int.toNat_of_nonneg (show 0 ≤ r by omega), Int.toNat_of_nonneg (show 0 ≤ c by omega)]
  unfold rparse
  rw [e0]
  exact if_pos ⟨hv, rfl⟩
theorem rparse_iff (s : List UInt8) (d : Dot) : rparse s = some d ↔ Valid d ∧ text d = s := by
  constructor
  · intro h
    unfold rparse at h
    split at h
    · split at h
      · rename_i k
        cases h
        exact k
      · cases h
    · cases h
  · rintro ⟨h, rfl⟩
    exact rparse_of h
theorem parse_eq (s : List UInt8) : pparse s = rparse s := by
  cases h : rparse s with
  | some d => exact (pparse_iff s d).2 ((rparse_iff s d).1 h)
  | none =>
    cases k : pparse s with
    | none => rfl
    | some d => rw [(rparse_iff s d).2 ((pparse_iff s d).1 k)] at h; cases h
theorem pparse_ok {s : List UInt8} {r c : Int} (h1 : atoiAll (cut s).1 = .ok r) (h2 : atoiAll (cut s).2 = .ok c) : pparse s = if Valid (r, c) ∧ text (r, c) = s then some (r, c) else none := by unfold pparse; rw [h1, h2]
theorem pparse_e1 {s : List UInt8} (h : ∀ r, atoiAll (cut s).1 ≠ .ok r) : pparse s = none := by
  cases hp : pparse s with
  | none => rfl
  | some d =>
    unfold pparse at hp
    split at hp
    · rename_i h1 _; exact absurd h1 (h _)
    · cases hp
theorem pparse_e2 {s : List UInt8} (h : ∀ r, atoiAll (cut s).2 ≠ .ok r) : pparse s = none := by
  cases hp : pparse s with
  | none => rfl
  | some d =>
    unfold pparse at hp
    split at hp
    · rename_i h1; exact absurd h1 (h _)
    · cases hp
def ten : List UInt8 := [48, 49, 50, 51, 52, 53, 54, 55, 56, 57]
theorem ten_sub : ∀ d : Fin 10, (ten.take (d.val + 1)).drop d.val = [UInt8.ofNat (48 + d.val)] := by decide
theorem dec_small {n : Nat} (h : n < 10) : (ten.take (((n : Int) + 1).toNat)).drop ((n : Int)).toNat = decDigits n := by
  have e : ((n : Int) + 1).toNat = n + 1 := by omega
  rw [e, Int.toNat_natCast, ten_sub ⟨n, h⟩, decDigits, dif_pos h]
theorem dec_big {n : Nat} (h : ¬ n < 10) : decDigits (n / 10) ++ decDigits (n % 10) = decDigits n := by
  have e : decDigits (n % 10) = [UInt8.ofNat (48 + n % 10)] := by rw [decDigits, dif_pos (Nat.mod_lt _ (by decide))]
  rw [e]
  exact (by rw [decDigits.eq_def n, dif_neg h])
theorem dec_len : ∀ n : Nat, (decDigits n).length ≤ n + 1 := by
  intro n
  induction n using Nat.strongRecOn with
  | _ n ih =>
    rw [decDigits]
    split
    · simp
    · have := ih (n / 10) (by omega)
      simp
      omega
theorem arr_get {a b k : Int} (hk : k = 0 ∨ k = 1) : ([Value.int .i64 a, .int .i64 b] : List Value)[0 + k.toNat * 1]? = some (.int .i64 (if k.toNat = 0 then a else b)) := by
  rcases hk with rfl | rfl <;> rfl
theorem arr_set {a b u k : Int} (hk : k = 0 ∨ k = 1) : ([Value.int .i64 a, .int .i64 b] : List Value).set k.toNat (.int .i64 u) = [.int .i64 (if k.toNat = 0 then u else a), .int .i64 (if k.toNat = 0 then b else u)] := by
  rcases hk with rfl | rfl <;> rfl
theorem from_dig {k i : Nat} {a b : Int} {l : List UInt8} {c : BitVec 8} (hk : k ≤ 1) (hi : i < l.length) (hc : c = l[i].toBitVec) (hd : 48#8 ≤ c ∧ c ≤ 57#8) :
    rfrom k a b (l.drop i) = rfrom k (if k = 0 then cap (10 * (if k = 0 then a else b) + (c.toNat : Int) - 48) else a) (if k = 0 then b else cap (10 * (if k = 0 then a else b) + (c.toNat : Int) - 48)) (l.drop (i + 1)) := by
  rw [List.drop_eq_getElem_cons hi, rfrom, ← hc, if_pos hd]
  have e : (l[i].toNat : Int) = (c.toNat : Int) := by rw [hc]; rfl
  have : k = 0 ∨ k = 1 := by omega
  rcases this with rfl | rfl
  · rw [if_pos rfl, e]; rfl
  · rw [if_neg (by decide), e]; rfl
theorem from_dot {i : Nat} {a b : Int} {l : List UInt8} {c : BitVec 8} (hi : i < l.length) (hc : c = l[i].toBitVec) (hd : ¬ (48#8 ≤ c ∧ c ≤ 57#8)) (h2 : c = 46#8) : rfrom 0 a b (l.drop i) = rfrom 1 a b (l.drop (i + 1)) := by
  rw [List.drop_eq_getElem_cons hi, rfrom, ← hc, if_neg hd, if_pos ⟨h2, rfl⟩]
theorem from_bad {k i : Nat} {a b : Int} {l : List UInt8} {c : BitVec 8} (hi : i < l.length) (hc : c = l[i].toBitVec) (hd : ¬ (48#8 ≤ c ∧ c ≤ 57#8)) (h2 : ¬ (c = 46#8 ∧ k = 0)) : rfrom k a b (l.drop i) = none := by
  rw [List.drop_eq_getElem_cons hi, rfrom, ← hc, if_neg hd, if_neg h2]
theorem cap_le (n : Int) : cap n ≤ 1099511627776 := by unfold cap; omega
theorem cap_ge {n : Int} (h : 0 ≤ n) : 0 ≤ cap n := by unfold cap; omega
theorem itoa_len {d : Dot} (h : 1 ≤ d.1 ∧ d.1 ≤ 65535 ∧ 1 ≤ d.2 ∧ d.2 ≤ 4294967295) : (itoa d.1).length ≤ 65536 ∧ (itoa d.2).length ≤ 4294967296 := by
  rw [itoa_nat (show 0 ≤ d.1 by omega), itoa_nat (show 0 ≤ d.2 by omega)]
  have h1 := dec_len d.1.toNat
  have h2 := dec_len d.2.toNat
  omega
theorem from_end {l : List UInt8} {k i : Nat} {a b : Int} (hp : rfrom 0 0 0 l = rfrom k a b (l.drop i)) (hi : l.length ≤ i) : rfrom 0 0 0 l = some (a, b) := by
  rw [hp, List.drop_eq_nil_of_le hi, rfrom]
theorem rparse_some {l : List UInt8} {d : Dot} (h : rfrom 0 0 0 l = some d) : rparse l = if Valid d ∧ text d = l then some d else none := by unfold rparse; rw [h]
theorem rparse_none {l : List UInt8} (h : rfrom 0 0 0 l = none) : rparse l = none := by unfold rparse; rw [h]
end Go.Pn.Dt
end
section
/-
  PLAIN LAWS OF VECTORS: their texts. Of no program.
-/
namespace Go.Pn.Vc
open Go Go.Pn Go.Pn.Cn
def jn (l : List (List UInt8)) : List UInt8 := Lib.join l [32]
theorem jn_cons (x : List UInt8) (r : List (List UInt8)) : jn (x :: r) = x ++ (r.map ([32] ++ ·)).flatten := Lib.join_cons x r [32]
theorem jn_snoc {l : List (List UInt8)} (h : l ≠ []) (x : List UInt8) : jn (l ++ [x]) = jn l ++ [32] ++ x := by
  cases l with
  | nil => exact absurd rfl h
  | cons a r =>
    rw [List.cons_append, jn_cons, jn_cons, List.map_append, List.flatten_append]
    simp
def vtext (v : V) : List UInt8 := if v = [] then [45] else jn (v.map Dt.text)
def sp : List UInt8 → List (List UInt8)
  | [] => [[]]
  | c :: r => if c = 32 then [] :: sp r else match sp r with
    | p :: q => (c :: p) :: q
    | [] => [[c]]
theorem sp_plain : ∀ {p : List UInt8}, (∀ c ∈ p, c ≠ 32) → sp p = [p]
  | [], _ => rfl
  | c :: r, h => by
    have ih := sp_plain (p := r) fun x hx => h x (.tail _ hx)
    unfold sp
    rw [if_neg (h c (.head _)), ih]
theorem sp_cut : ∀ {p r : List UInt8}, (∀ c ∈ p, c ≠ 32) → sp (p ++ 32 :: r) = p :: sp r
  | [], r, _ => by
    show sp (32 :: r) = _
    rw [sp, if_pos rfl]
  | c :: p, r, h => by
    have ih := sp_cut (p := p) (r := r) fun x hx => h x (.tail _ hx)
    rw [List.cons_append, sp, if_neg (h c (.head _)), ih]
def many : List (List UInt8) → Option V
  | [] => some []
  | p :: q => match Dt.rparse p with
    | none => none
    | some d => (many q).map (d :: ·)
def vparse (s : List UInt8) : Option V := if s = [45] then some [] else match many (sp s) with
  | some v => if vecValid v then some v else none
  | none => none
/-- What reading goes on to. -/
def pgo (acc : V) (t : List (List UInt8)) : Option V := (many t).map (acc ++ ·)
theorem pgo_start (t : List (List UInt8)) : pgo [] t = many t := by
  unfold pgo
  cases many t <;> simp
theorem pgo_yes {acc : V} {p : List UInt8} {q : List (List UInt8)} {d : Dt.Dot} (h : Dt.rparse p = some d) : pgo acc (p :: q) = pgo (acc ++ [d]) q := by
  have e : many (p :: q) = (many q).map (d :: ·) := by
    conv => lhs; unfold many
    rw [h]
  unfold pgo
  rw [e]
  cases many q <;> simp
theorem pgo_no {acc : V} {p : List UInt8} {q : List (List UInt8)} (h : Dt.rparse p = none) : pgo acc (p :: q) = none := by
  unfold pgo many
  rw [h]
  rfl
theorem pgo_end (acc : V) : pgo acc [] = some acc := by simp [pgo, many]
theorem text_len {d : Dt.Dot} (h : Dt.Valid d) : (Dt.text d).length ≤ 4295032833 := by
  have := Dt.itoa_len h
  unfold Dt.text
  simp only [List.length_append, List.length_cons, List.length_nil]
  omega
theorem jn_len {v : V} (hv : ∀ d ∈ v, Dt.Valid d) : (jn (v.map Dt.text)).length ≤ v.length * 4295032834 := by
  have key : ∀ (r : V), (∀ d ∈ r, Dt.Valid d) → (((r.map Dt.text).map ([32] ++ ·)).flatten).length ≤ r.length * 4295032834 := by
    intro r
    induction r with
    | nil => intro _; simp
    | cons a r ih =>
      intro h
      have h1 := ih fun d hd => h d (.tail _ hd)
      have h2 := text_len (h a (.head _))
      simp only [List.map_cons, List.flatten_cons, List.length_append, List.length_cons, List.length_nil]
      omega
  cases v with
  | nil => simp [jn, Lib.join_nil]
  | cons d r =>
    have h1 := key r fun x hx => hv x (.tail _ hx)
    have h2 := text_len (hv d (.head _))
    rw [List.map_cons, jn_cons, List.length_append, List.length_cons]
    omega
theorem cut_at {s : List UInt8} {a i : Nat} (ha : a ≤ i) (hi : i < s.length) (hn : ∀ j, ∀ h : j < s.length, a ≤ j → j < i → s[j] ≠ 32) (h32 : s[i] = 32) : sp (s.drop a) = (s.take i).drop a :: sp (s.drop (i + 1)) := by
  have e : s.drop a = (s.take i).drop a ++ 32 :: s.drop (i + 1) := by
    rw [← h32, ← List.drop_eq_getElem_cons hi]
    conv => lhs; rw [← List.take_append_drop i s]
    rw [List.drop_append, List.length_take, show a - min i s.length = 0 by omega, List.drop_zero]
  rw [e, sp_cut]
  intro c hc
  obtain ⟨j, hj, rfl⟩ := List.getElem_of_mem hc
  rw [List.length_drop, List.length_take] at hj
  rw [List.getElem_drop, List.getElem_take]
  exact hn (a + j) (by omega) (by omega) (by omega)
theorem cut_end {s : List UInt8} {a : Nat} (hn : ∀ j, ∀ h : j < s.length, a ≤ j → s[j] ≠ 32) : sp (s.drop a) = [s.drop a] := by
  refine sp_plain fun c hc => ?_
  obtain ⟨j, hj, rfl⟩ := List.getElem_of_mem hc
  rw [List.length_drop] at hj
  rw [List.getElem_drop]
  exact hn (a + j) (by omega) (by omega)
theorem sp_sum : ∀ s : List UInt8, (sp s).length ≤ s.length + 1 ∧ ∀ p ∈ sp s, p.length ≤ s.length
  | [] => ⟨Nat.le_refl _, fun p hp => by rw [List.mem_singleton.1 hp]; exact Nat.le_refl _⟩
  | c :: r => by
    have ih := sp_sum r
    unfold sp
    split
    · refine ⟨Nat.succ_le_succ ih.1, fun p hp => ?_⟩
      rcases List.mem_cons.1 hp with rfl | hp
      · exact Nat.zero_le _
      · exact Nat.le_succ_of_le (ih.2 p hp)
    · cases h : sp r with
      | nil => exact ⟨by simp, fun p hp => by rw [List.mem_singleton.1 hp]; simp⟩
      | cons p q =>
        rw [h] at ih
        refine ⟨Nat.le_succ_of_le ih.1, fun x hx => ?_⟩
        rcases List.mem_cons.1 hx with rfl | hx
        · exact Nat.succ_le_succ (ih.2 p (.head _))
        · exact Nat.le_succ_of_le (ih.2 x (.tail _ hx))
theorem many_snoc {x : List UInt8} {d : Dt.Dot} (h : Dt.rparse x = some d) : ∀ {p : List (List UInt8)} {ds : V}, many p = some ds → many (p ++ [x]) = some (ds ++ [d])
  | [], ds, hp => by
    have : ds = [] := (Option.some.inj hp).symm
    subst this
    show many [x] = some [d]
    unfold many
    rw [h]
    rfl
  | a :: p, ds, hp => by
    rw [List.cons_append]
    unfold many at hp ⊢
    cases ha : Dt.rparse a with
    | none => rw [ha] at hp; cases hp
    | some e =>
      rw [ha] at hp
      simp only at hp ⊢
      cases hm : many p with
      | none => rw [hm] at hp; cases hp
      | some q =>
        rw [hm] at hp
        have e2 : ds = e :: q := (Option.some.inj hp).symm
        rw [many_snoc h hm, e2]
        rfl
theorem many_bad {x : List UInt8} (h : Dt.rparse x = none) : ∀ (p q : List (List UInt8)), many (p ++ x :: q) = none
  | [], q => by
    show many (x :: q) = none
    unfold many
    rw [h]
  | a :: p, q => by
    rw [List.cons_append]
    unfold many
    cases Dt.rparse a with
    | none => rfl
    | some e => simp only [many_bad h p q]; rfl
theorem idx_none {t : List UInt8} (h : Lib.indexByte t 32 < 0) : sp t = [t] := by
  refine sp_plain fun c hc e => ?_
  subst e
  obtain ⟨j, hj, hj2⟩ := List.getElem_of_mem hc
  have h1 := Dt.index_ge t 32
  exact Lib.indexByte_none (l := t) (c := 32) (by omega) j (by rw [List.getElem?_eq_getElem hj, hj2])
theorem idx_some {t : List UInt8} (h : ¬ Lib.indexByte t 32 < 0) : (Lib.indexByte t 32).toNat < t.length ∧ sp t = t.take (Lib.indexByte t 32).toNat :: sp (t.drop ((Lib.indexByte t 32).toNat + 1)) := by
  have h1 := Dt.index_ge t 32
  obtain ⟨h2, h3⟩ := Lib.indexByte_some (l := t) (c := 32) (o := (Lib.indexByte t 32).toNat) (by omega)
  have hlt : (Lib.indexByte t 32).toNat < t.length := by omega
  have := cut_at (s := t) (a := 0) (Nat.zero_le _) hlt (fun j hj _ hji e => h3 j hji (by rw [List.getElem?_eq_getElem hj, e])) (by
    rw [List.getElem?_eq_getElem hlt] at h2
    exact Option.some.inj h2)
  rw [List.drop_zero, List.drop_zero] at this
  exact ⟨hlt, this⟩
end Go.Pn.Vc
end
