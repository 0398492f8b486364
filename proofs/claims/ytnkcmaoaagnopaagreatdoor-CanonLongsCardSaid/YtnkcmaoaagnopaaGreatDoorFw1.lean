/-
  The frame of a walk, control and plain operations: the weakest precondition of the kit over frames that are functions of slots. No condition.
-/
import Derived.WalkKit
import Derived.WalkSpells
import Derived.WalkLawsBesides
namespace Go.Pn
open Go.RowKit

abbrev Val := Nat → Value

theorem nbeq_false {i d : Nat} (h : i ≠ d) : Nat.beq i d = false := by
  cases hb : Nat.beq i d with
  | false => rfl
  | true => exact absurd (Nat.eq_of_beq_eq_true hb) h
theorem nbeq_self (i : Nat) : Nat.beq i i = true := Nat.beq_refl i

/-- The slots of a frame, one of them changed. -/
def upd (f : Val) (d : Nat) (v : Value) : Val := fun i => cond (Nat.beq i d) v (f i)
/-- The frame of n slots. -/
def Fr (n : Nat) (f : Val) : Act := { tmps := ((List.range n).map f).toArray, defers := [] }
/-- An operand's value. -/
def ev (n : Nat) (f : Val) : Operand → Value
  | .tmp t => cond (Nat.ble (t + 1) n) (f t) undef
  | .const v => v
  | .global g => .pointer (some ⟨g, 0, none⟩)
  | .func k => .func (.func k) #[] #[]

theorem eval_Fr (n : Nat) (f : Val) : (Fr n f).eval = ev n f := by
  funext x
  cases x with
  | tmp t =>
    simp only [Act.eval, Fr, ev, Array.getD_eq_getD_getElem?, List.getElem?_toArray, List.getElem?_map]
    by_cases h : t < n
    · have : Nat.ble (t + 1) n = true := Nat.ble_eq_true_of_le h
      simp [this, h]
    · have : Nat.ble (t + 1) n = false := by
        cases hb : Nat.ble (t + 1) n with
        | true => exact absurd (Nat.le_of_ble_eq_true hb) h
        | false => rfl
      simp [this, h]
  | const v => rfl
  | global g => rfl
  | func k => rfl

theorem put_Fr (n : Nat) (f : Val) (d : Nat) (v : Value) : (Fr n f).put (some d) v = Fr n (upd f d v) := by
  simp only [Act.put, Fr, Act.mk.injEq, and_true]
  apply Array.ext_getElem?
  intro i
  simp only [Array.getElem?_setIfInBounds, List.getElem?_toArray, List.getElem?_map, List.size_toArray, List.length_map, List.length_range]
  by_cases hi : d = i
  · subst hi
    by_cases h : d < n
    · simp [h, upd]
    · simp [h]
  · rw [if_neg hi]
    by_cases h : i < n
    · simp [h, upd, nbeq_false (Ne.symm hi)]
    · simp [h]

theorem put_none (a : Act) (v : Value) : a.put none v = a := rfl

/-- What each way out of a piece of code must give. -/
def Ex (n : Nat) (N : Val → World → Prop) (X : Nat → Val → World → Prop) (R : Val → World → Prop) (Z : List PanicEntry → World → Prop) : Exit → Act → World → Prop
  | .normal, a, w => ∃ f, a = Fr n f ∧ N f w
  | .exit i, a, w => ∃ f, a = Fr n f ∧ X i f w
  | .ret, a, w => ∃ f, a = Fr n f ∧ R f w
  | .panic ch, a, w => a.defers = [] ∧ Z ch w
  | _, _, _ => False

/-- The weakest precondition of code over a frame of slots. -/
def C (P : Program) (n : Nat) (c : Code) (N : Val → World → Prop) (X : Nat → Val → World → Prop) (R : Val → World → Prop) (Z : List PanicEntry → World → Prop) (f : Val) (w : World) : Prop :=
  c.wp P (Ex n N X R Z) (Fr n f) w
/-- The same of a list of operations. -/
def O (P : Program) (n : Nat) (ops : List Oper) (l : List Oper) (N : Val → World → Prop) (Z : List PanicEntry → World → Prop) (f : Val) (w : World) : Prop :=
  wpList P ops.toArray (Ex n N (fun _ _ _ => False) (fun _ _ => False) Z) l (Fr n f) w

section
variable {P : Program} {n : Nat} {N N' : Val → World → Prop} {X : Nat → Val → World → Prop} {R : Val → World → Prop} {Z : List PanicEntry → World → Prop} {f : Val} {w : World} {a b c : Code}

theorem C.seqK (h : ∀ K : Val → World → Prop, (∀ f w, C P n b N X R Z f w → K f w) → C P n a K X R Z f w) : C P n (.seq a b) N X R Z f w := by
  have h := h _ (fun _ _ h => h)
  refine wp_seq (wp_mono h ?_)
  intro e a w he
  cases e with
  | normal => obtain ⟨f, rfl, hb⟩ := he; exact hb
  | exit i => exact he
  | goto l => exact he
  | ret => exact he
  | panic ch => exact he
  | outgrown => exact he

theorem C.skip (h : N f w) : C P n .skip N X R Z f w := wp_skip ⟨f, rfl, h⟩
theorem C.ret (h : R f w) : C P n .ret N X R Z f w := wp_ret ⟨f, rfl, h⟩
theorem C.exit {i : Nat} (h : X i f w) : C P n (.exit i) N X R Z f w := wp_exit ⟨f, rfl, h⟩
theorem C.block {i : Nat} (h : ∀ K : Val → World → Prop, (∀ f w, N f w → K f w) → C P n c K (fun j f w => cond (Nat.beq j i) (K f w) (X j f w)) R Z f w) : C P n (.block i c) N X R Z f w := by
  have h := h N (fun _ _ h => h)
  refine wp_block (wp_mono h ?_)
  intro e a w he
  cases e with
  | normal => exact he
  | exit j =>
    obtain ⟨f, rfl, hx⟩ := he
    simp only [Exit.inBlock]
    by_cases hj : j = i
    · subst hj
      rw [if_pos rfl]
      rw [nbeq_self] at hx
      exact ⟨f, rfl, hx⟩
    · rw [if_neg hj]
      rw [nbeq_false hj] at hx
      exact ⟨f, rfl, hx⟩
  | goto l => exact he
  | ret => exact he
  | panic ch => exact he
  | outgrown => exact he

/-- A condition that is a Bool. -/
theorem C.cond {x : Operand} {t : Bool} (hx : ev n f x = .bool t) (h1 : t = true → C P n a N X R Z f w) (h2 : t = false → C P n b N X R Z f w) : C P n (.cond x a b) N X R Z f w :=
  wp_cond_split (by rw [eval_Fr]; exact hx) h1 h2
/-- A condition that is a decided proposition. -/
theorem C.condD {x : Operand} {p : Prop} [Decidable p] (hx : ev n f x = .bool (decide p)) (h1 : p → C P n a N X R Z f w) (h2 : ¬ p → C P n b N X R Z f w) : C P n (.cond x a b) N X R Z f w :=
  C.cond hx (fun h => h1 (of_decide_eq_true h)) (fun h => h2 (of_decide_eq_false h))
theorem C.condT {x : Operand} (hx : ev n f x = .bool true) (h1 : C P n a N X R Z f w) : C P n (.cond x a b) N X R Z f w := C.cond hx (fun _ => h1) (fun h => by cases h)
theorem C.condF {x : Operand} (hx : ev n f x = .bool false) (h1 : C P n b N X R Z f w) : C P n (.cond x a b) N X R Z f w := C.cond hx (fun h => by cases h) (fun _ => h1)

theorem C.region {id : Nat} {l : List Oper} (h : O P n l l N Z f w) : C P n (.region id l.toArray false) N X R Z f w :=
  wp_region_lit (wpList_mono' h)
where
  wpList_mono' (h : O P n l l N Z f w) : wpList P l.toArray (Ex n N X R Z) l (Fr n f) w := by
    have key : ∀ (l' : List Oper) (a : Act) (w : World), wpList P l.toArray (Ex n N (fun _ _ _ => False) (fun _ _ => False) Z) l' a w → wpList P l.toArray (Ex n N X R Z) l' a w := by
      intro l'
      induction l' with
      | nil => intro a w h; exact h
      | cons o l' ih =>
        intro a w h
        simp only [wpList] at h ⊢
        split at h
        · rename_i hw
          rw [if_pos hw]
          rcases h with h | ⟨_, a0, w0, h0⟩
          · left
            simp only [Oper.wp] at h ⊢
            generalize (execOp a.eval o).run P w = r at h ⊢
            cases r with
            | ok nx w' =>
              cases nx with
              | value v => exact ih _ _ h
              | skip => exact ih _ _ h
              | defer d => exact ih _ _ h
              | enter k args =>
                refine Calls.mono h ?_
                intro e w'' he
                cases e with
                | returned v => exact ih _ _ he
                | panicked ch => exact he
                | outgrown => obtain ⟨a0, w0, h0⟩ := he; exact h0.elim
              | row r args => exact Rows.mono h fun v w'' hv => ih _ _ hv
              | _ => exact h.elim
            | halt hh w' => cases hh <;> first | exact h | exact h.elim
          · exact h0.elim
        · rename_i hw
          rw [if_neg hw]
          exact ih _ _ h
    exact key l _ _ h

/-- A loop with a ghost: the relation at every round's head, and a measure of the ghost. -/
theorem C.loop {σ : Type} (I : σ → Val → World → Prop) (μ : σ → Nat) (s0 : σ) (h0 : I s0 f w)
    (round : ∀ s f w, I s f w → C P n c (fun f' w' => ∃ s', I s' f' w' ∧ μ s' < μ s) X R Z f w) : C P n (.loop c) N X R Z f w := by
  intro b k cs
  have key : ∀ m s f w, μ s = m → I s f w →
      ∃ e a' w', Ex n N X R Z e a' w' ∧ Arrives P (lone (b.at (Fr n f) (.code c :: .inLoop c :: k)) cs w) b k cs e a' w' := by
    intro m
    induction m using Nat.strongRecOn with
    | _ m ih =>
      intro s f w hn hI
      obtain ⟨e, a₁, w₁, hq, harr⟩ := round s f w hI b (.inLoop c :: k) cs
      cases e with
      | normal =>
        obtain ⟨f', rfl, s', hI₁, hlt⟩ := hq
        obtain ⟨e₂, a₂, w₂, hq₂, harr₂⟩ := ih (μ s') (hn ▸ hlt) s' f' w₁ rfl hI₁
        exact ⟨e₂, a₂, w₂, hq₂, .of_steps (Steps.trans harr (.one step_inLoop)) harr₂⟩
      | exit i => exact ⟨.exit i, a₁, w₁, hq, .pass (x := .inLoop c) rfl (fun _ _ => .inl (by simp)) harr⟩
      | goto l => exact ⟨.goto l, a₁, w₁, hq, .pass (x := .inLoop c) rfl (fun _ _ => .inl (by simp)) harr⟩
      | ret => exact ⟨.ret, a₁, w₁, hq, .pass (x := .inLoop c) rfl (fun _ _ => .inl (by simp)) harr⟩
      | panic ch => exact ⟨.panic ch, a₁, w₁, hq, .pass (x := .inLoop c) rfl (fun _ _ => .inl (by simp)) harr⟩
      | outgrown => exact ⟨.outgrown, a₁, w₁, hq, .pass (x := .inLoop c) rfl (fun _ _ => .inl (by simp)) harr⟩
  obtain ⟨e, a', w', hq, harr⟩ := key _ s0 f w rfl h0
  exact ⟨e, a', w', hq, .of_steps (.one step_loop) harr⟩

/-- The same, the relation naming the frame and the world ahead of the loop. -/
theorem C.loop0 {σ : Type} (I : Val → World → σ → Val → World → Prop) (μ : σ → Nat) (s0 : σ) (h0 : I f w s0 f w)
    (round : ∀ s f' w', I f w s f' w' → C P n c (fun f'' w'' => ∃ s', I f w s' f'' w'' ∧ μ s' < μ s) X R Z f' w') : C P n (.loop c) N X R Z f w :=
  C.loop (I f w) μ s0 h0 round

theorem C.mono (h : C P n c N X R Z f w) (hN : ∀ f w, N f w → N' f w) : C P n c N' X R Z f w := by
  refine wp_mono h ?_
  intro e a w he
  cases e with
  | normal => obtain ⟨f, rfl, hf⟩ := he; exact ⟨f, rfl, hN _ _ hf⟩
  | exit i => exact he
  | goto l => exact he
  | ret => exact he
  | panic ch => exact he
  | outgrown => exact he
end

/-! ### Calls -/

/-- A call returns; what it returns and the world behind it are as Post says. -/
def Ret (P : Program) (k : FuncId) (args : Array Value) (w : World) (Post : Value → World → Prop) : Prop :=
  Calls P k args w fun e w' => match e with | .returned v => Post v w' | _ => False
/-- A call returns or panics. -/
def RetZ (P : Program) (k : FuncId) (args : Array Value) (w : World) (Post : Value → World → Prop) (Z : List PanicEntry → World → Prop) : Prop :=
  Calls P k args w fun e w' => match e with | .returned v => Post v w' | .panicked ch => Z ch w' | .outgrown => False

theorem Ret.mono {P : Program} {k : FuncId} {args : Array Value} {w : World} {Q Q' : Value → World → Prop} (h : Ret P k args w Q) (hq : ∀ v w', Q v w' → Q' v w') : Ret P k args w Q' :=
  Calls.mono h fun e w' he => by cases e <;> first | exact hq _ _ he | exact he
theorem Ret.toZ {P : Program} {k : FuncId} {args : Array Value} {w : World} {Q : Value → World → Prop} {Z : List PanicEntry → World → Prop} (h : Ret P k args w Q) : RetZ P k args w Q Z :=
  Calls.mono h fun e w' he => by cases e <;> first | exact he | exact he.elim
/-- A kit's contract as one of ours. -/
theorem Ret.of {P : Program} {k : FuncId} {args : Array Value} {w : World} {R : Ending → World → Prop} {Q : Value → World → Prop} (h : Calls P k args w R) (hq : ∀ e w', R e w' → ∃ v, e = .returned v ∧ Q v w') : Ret P k args w Q :=
  Calls.mono h fun e w' he => by obtain ⟨v, rfl, hv⟩ := hq e w' he; exact hv
/-- .. and back. -/
theorem Ret.calls {P : Program} {k : FuncId} {args : Array Value} {w : World} {Q : Value → World → Prop} (h : Ret P k args w Q) : Calls P k args w fun e w' => ∃ v, e = .returned v ∧ Q v w' :=
  Calls.mono h fun e w' he => by cases e <;> first | exact ⟨_, rfl, he⟩ | exact he.elim

/-- The slots at a function's beginning. -/
def init (args : List Value) : Val := fun i => args.getD i undef

theorem Fr_init (n : Nat) (args : List Value) (h : args.length ≤ n) :
    ({ tmps := args.toArray ++ Array.replicate (n - args.toArray.size) undef, defers := [] } : Act) = Fr n (init args) := by
  simp only [Fr, Act.mk.injEq, and_true]
  apply Array.ext_getElem?
  intro i
  simp only [List.size_toArray, Array.getElem?_append, List.getElem?_toArray, Array.getElem?_replicate, List.getElem?_map]
  by_cases h1 : i < args.length
  · have h2 : i < n := by omega
    simp [h1, h2, init]
  · by_cases h2 : i < n
    · have : i - args.length < n - args.length := by omega
      simp [h1, h2, this, init]
    · have : ¬ i - args.length < n - args.length := by omega
      simp [h1, h2, this]

/-- What a function returns: the value that its result slots give. -/
def Outs (P : Program) (fn : Func) (n : Nat) (Post : Value → World → Prop) : Val → World → Prop :=
  fun f w => ∃ v, (results fn (Fr n f).tmps).run P w = .ok v w ∧ Post v w

theorem enterZ {P : Program} {k : FuncId} {fn : Func} {c : Code} {args : List Value} {n : Nat} {w : World} {Post : Value → World → Prop} {Z : List PanicEntry → World → Prop}
    (hf : P.funcs[k]? = some fn) (hb : fn.body = some c) (hn : fn.ntmps = n) (ha : args.length ≤ n)
    (h : C P n c (Outs P fn n Post) (fun _ _ _ => False) (Outs P fn n Post) Z (init args) w) : RetZ P k args.toArray w Post Z := by
  subst hn
  refine calls_of_wp hf hb ?_
  rw [Fr_init _ _ ha]
  refine wp_mono h ?_
  intro e a w he
  cases e with
  | normal => obtain ⟨f, rfl, v, hv, hp⟩ := he; exact ⟨rfl, v, hv, hp⟩
  | ret => obtain ⟨f, rfl, v, hv, hp⟩ := he; exact ⟨rfl, v, hv, hp⟩
  | exit i => obtain ⟨f, rfl, hx⟩ := he; exact hx.elim
  | goto l => exact he.elim
  | panic ch => exact he
  | outgrown => exact he.elim
theorem enter {P : Program} {k : FuncId} {fn : Func} {c : Code} {args : List Value} {n : Nat} {w : World} {Post : Value → World → Prop}
    (hf : P.funcs[k]? = some fn) (hb : fn.body = some c) (hn : fn.ntmps = n) (ha : args.length ≤ n)
    (h : C P n c (Outs P fn n Post) (fun _ _ _ => False) (Outs P fn n Post) (fun _ _ => False) (init args) w) : Ret P k args.toArray w Post :=
  Calls.mono (enterZ hf hb hn ha h) fun e w' he => by cases e <;> first | exact he | exact he.elim

theorem getD_Fr (n : Nat) (f : Val) (t : Nat) : (Fr n f).tmps.getD t undef = ev n f (.tmp t) := by
  have := congrFun (eval_Fr n f) (.tmp t)
  exact this

theorem Outs.one {P : Program} {fn : Func} {n : Nat} {Post : Value → World → Prop} {f : Val} {w : World} {t : Nat} {v : Value} (hr : fn.results = #[.tmp t]) (hv : ev n f (.tmp t) = v) (h : Post v w) : Outs P fn n Post f w :=
  ⟨v, by rw [results_tmp hr, getD_Fr, hv], h⟩
theorem Outs.none {P : Program} {fn : Func} {n : Nat} {Post : Value → World → Prop} {f : Val} {w : World} (hr : fn.results = #[]) (h : Post (.tuple #[]) w) : Outs P fn n Post f w :=
  ⟨_, by rw [results_none hr], h⟩
theorem Outs.two {P : Program} {fn : Func} {n : Nat} {Post : Value → World → Prop} {f : Val} {w : World} {t u : Nat} {v v' : Value} (hr : fn.results = #[.tmp t, .tmp u]) (hv : ev n f (.tmp t) = v) (hv' : ev n f (.tmp u) = v') (h : Post (.tuple #[v, v']) w) : Outs P fn n Post f w :=
  ⟨_, by rw [results_tmp2 hr, getD_Fr, getD_Fr, hv, hv'], h⟩

/-! ### Operations -/
section
variable {P : Program} {n : Nat} {ops rest : List Oper} {N : Val → World → Prop} {Z : List PanicEntry → World → Prop} {f : Val} {w : World}

theorem O.nil (h : N f w) : O P n ops [] N Z f w := ⟨f, rfl, h⟩

/-- An operation that yields a value. -/
theorem O.val {o : Oper} {d : Nat} {v : Value} {w' : World} (hg : o.guard = .none) (hd : o.dst = some d) (hrun : (execOp (ev n f) o).run P w = .ok (.value v) w')
    (h : O P n ops rest N Z (upd f d v) w') : O P n ops (o :: rest) N Z f w := by
  unfold O at h ⊢
  refine wpList_plain hg fun K hK => ?_
  simp only [Oper.wp, eval_Fr, hrun, Oper.upon_value, hd, put_Fr]
  exact hK _ _ h
/-- An operation that yields nothing. -/
theorem O.act {o : Oper} {w' : World} (hg : o.guard = .none) (hd : o.dst = .none) (hrun : (execOp (ev n f) o).run P w = .ok .skip w')
    (h : O P n ops rest N Z f w') : O P n ops (o :: rest) N Z f w := by
  unfold O at h ⊢
  refine wpList_plain hg fun K hK => ?_
  simp only [Oper.wp, eval_Fr, hrun, Oper.upon_skip, hd, put_none]
  exact hK _ _ h
theorem O.valN {o : Oper} {v : Value} {w' : World} (hg : o.guard = .none) (hd : o.dst = .none) (hrun : (execOp (ev n f) o).run P w = .ok (.value v) w')
    (h : O P n ops rest N Z f w') : O P n ops (o :: rest) N Z f w := by
  unfold O at h ⊢
  refine wpList_plain hg fun K hK => ?_
  simp only [Oper.wp, eval_Fr, hrun, Oper.upon_value, hd, put_none]
  exact hK _ _ h
/-- Another spelling of the value that was put last. -/
theorem O.cast {d : Nat} {v v' : Value} (hv : v = v') (h : O P n ops rest N Z (upd f d v') w) : O P n ops rest N Z (upd f d v) w := hv ▸ h

/-- A guard that says yes. -/
theorem O.yes {dst : Option Nat} {op : Op} {ty : TypeId} {pos : String} {after : Array Edge} {j dj : Nat} {b : Bool}
    (hj : (ops[j]?).bind (·.dst) = some dj) (hv : ev n f (.tmp dj) = .bool b)
    (h : O P n ops ({ dst := dst, op := op, type := ty, pos := pos, after := after, guard := .none } :: rest) N Z f w) :
    O P n ops ({ dst := dst, op := op, type := ty, pos := pos, after := after, guard := some (j, b) } :: rest) N Z f w := by
  unfold O at h ⊢
  have hy : yielded ops.toArray (Fr n f).tmps j = some b := by
    have hd := getD_Fr n f dj
    rw [hv] at hd
    unfold yielded
    have h1 : (ops.toArray[j]?).bind (·.dst) = some dj := by simpa using hj
    rw [h1]
    simp only [Option.bind_some]
    rw [Array.getD_eq_getD_getElem?] at hd
    cases hx : (Fr n f).tmps[dj]? with
    | none => rw [hx] at hd; simp [undef] at hd
    | some v => rw [hx] at hd; simp at hd; subst hd; rfl
  simp only [wpList, Region.wanted, hy, beq_self_eq_true, if_true] at h ⊢
  exact h
/-- No Bool with this value. -/
def isB (b : Bool) : Value → Bool
  | .bool c => c == b
  | _ => false
/-- A guard that says no. -/
theorem O.no {d : Nat} {op : Op} {ty : TypeId} {pos : String} {after : Array Edge} {j dj : Nat} {b : Bool}
    (hj : (ops[j]?).bind (·.dst) = some dj) (hv : isB b (ev n f (.tmp dj)) = false)
    (h : O P n ops rest N Z (upd f d undef) w) :
    O P n ops ({ dst := some d, op := op, type := ty, pos := pos, after := after, guard := some (j, b) } :: rest) N Z f w := by
  unfold O at h ⊢
  have hy : (yielded ops.toArray (Fr n f).tmps j == some b) = false := by
    have hd := getD_Fr n f dj
    unfold yielded
    have h1 : (ops.toArray[j]?).bind (·.dst) = some dj := by simpa using hj
    rw [h1]
    simp only [Option.bind_some]
    rw [Array.getD_eq_getD_getElem?] at hd
    cases hx : (Fr n f).tmps[dj]? with
    | none => rfl
    | some v =>
      rw [hx] at hd
      simp at hd
      rw [← hd] at hv
      cases v <;> first | rfl | (simp [isB] at hv; simp; exact hv)
  simp only [wpList, Region.wanted, hy]
  rw [put_Fr]
  simpa using h
theorem O.noN {op : Op} {ty : TypeId} {pos : String} {after : Array Edge} {j dj : Nat} {b : Bool}
    (hj : (ops[j]?).bind (·.dst) = some dj) (hv : isB b (ev n f (.tmp dj)) = false)
    (h : O P n ops rest N Z f w) :
    O P n ops ({ dst := .none, op := op, type := ty, pos := pos, after := after, guard := some (j, b) } :: rest) N Z f w := by
  unfold O at h ⊢
  have hy : (yielded ops.toArray (Fr n f).tmps j == some b) = false := by
    have hd := getD_Fr n f dj
    unfold yielded
    have h1 : (ops.toArray[j]?).bind (·.dst) = some dj := by simpa using hj
    rw [h1]
    simp only [Option.bind_some]
    rw [Array.getD_eq_getD_getElem?] at hd
    cases hx : (Fr n f).tmps[dj]? with
    | none => rfl
    | some v =>
      rw [hx] at hd
      simp at hd
      rw [← hd] at hv
      cases v <;> first | rfl | (simp [isB] at hv; simp; exact hv)
  simp only [wpList, Region.wanted, hy]
  simpa [put_none] using h

/-- A call of a function of the program. -/
theorem O.call {d k : Nat} {xs : List Operand} {vs : List Value} {ats : Array TypeId} {ty : TypeId} {pos : String} {after : Array Edge} {Post : Value → World → Prop}
    (hk : ∀ args w, (callFunc k args).run P w = .ok (.enter k args) w) (hxs : xs.map (ev n f) = vs)
    (hc : Ret P k vs.toArray w Post) (h : ∀ v w', Post v w' → O P n ops rest N Z (upd f d v) w') :
    O P n ops ({ dst := some d, op := .call { callee := .value (.func k), args := xs.toArray, argTypes := ats }, type := ty, pos := pos, after := after, guard := .none } :: rest) N Z f w := by
  subst hxs
  unfold O at h ⊢
  refine wpList_plain rfl fun K hK => ?_
  have hrun : (execOp (ev n f) { dst := some d, op := .call { callee := .value (.func k), args := xs.toArray, argTypes := ats }, type := ty, pos := pos, after := after, guard := .none }).run P w = .ok (.enter k (xs.map (ev n f)).toArray) w := by
    simp [execOp, resolve, Deferred.ofValue, invoke, ev, hk]
  simp only [Oper.wp, eval_Fr, hrun, Oper.upon_enter]
  refine Calls.mono hc ?_
  intro e w' he
  cases e with
  | returned v => show K ((Fr n f).put (some d) v) w'; rw [put_Fr]; exact hK _ _ (h v w' he)
  | panicked ch => exact he.elim
  | outgrown => exact he.elim
theorem O.callN {k : Nat} {xs : List Operand} {vs : List Value} {ats : Array TypeId} {ty : TypeId} {pos : String} {after : Array Edge} {Post : Value → World → Prop}
    (hk : ∀ args w, (callFunc k args).run P w = .ok (.enter k args) w) (hxs : xs.map (ev n f) = vs)
    (hc : Ret P k vs.toArray w Post) (h : ∀ v w', Post v w' → O P n ops rest N Z f w') :
    O P n ops ({ dst := .none, op := .call { callee := .value (.func k), args := xs.toArray, argTypes := ats }, type := ty, pos := pos, after := after, guard := .none } :: rest) N Z f w := by
  subst hxs
  unfold O at h ⊢
  refine wpList_plain rfl fun K hK => ?_
  have hrun : (execOp (ev n f) { dst := .none, op := .call { callee := .value (.func k), args := xs.toArray, argTypes := ats }, type := ty, pos := pos, after := after, guard := .none }).run P w = .ok (.enter k (xs.map (ev n f)).toArray) w := by
    simp [execOp, resolve, Deferred.ofValue, invoke, ev, hk]
  simp only [Oper.wp, eval_Fr, hrun, Oper.upon_enter]
  refine Calls.mono hc ?_
  intro e w' he
  cases e with
  | returned v => exact hK _ _ (h v w' he)
  | panicked ch => exact he.elim
  | outgrown => exact he.elim

theorem argsN : ([] : List Operand).map (ev n f) = [] := rfl
theorem args1 {x0 : Operand} {v0 : Value} (h0 : ev n f x0 = v0) : [x0].map (ev n f) = [v0] := by simp [h0]
theorem args2 {x0 x1 : Operand} {v0 v1 : Value} (h0 : ev n f x0 = v0) (h1 : ev n f x1 = v1) : [x0, x1].map (ev n f) = [v0, v1] := by simp [h0, h1]
theorem args3 {x0 x1 x2 : Operand} {v0 v1 v2 : Value} (h0 : ev n f x0 = v0) (h1 : ev n f x1 = v1) (h2 : ev n f x2 = v2) : [x0, x1, x2].map (ev n f) = [v0, v1, v2] := by simp [h0, h1, h2]
theorem args4 {x0 x1 x2 x3 : Operand} {v0 v1 v2 v3 : Value} (h0 : ev n f x0 = v0) (h1 : ev n f x1 = v1) (h2 : ev n f x2 = v2) (h3 : ev n f x3 = v3) : [x0, x1, x2, x3].map (ev n f) = [v0, v1, v2, v3] := by simp [h0, h1, h2, h3]
theorem args5 {x0 x1 x2 x3 x4 : Operand} {v0 v1 v2 v3 v4 : Value} (h0 : ev n f x0 = v0) (h1 : ev n f x1 = v1) (h2 : ev n f x2 = v2) (h3 : ev n f x3 = v3) (h4 : ev n f x4 = v4) : [x0, x1, x2, x3, x4].map (ev n f) = [v0, v1, v2, v3, v4] := by simp [h0, h1, h2, h3, h4]
theorem args6 {x0 x1 x2 x3 x4 x5 : Operand} {v0 v1 v2 v3 v4 v5 : Value} (h0 : ev n f x0 = v0) (h1 : ev n f x1 = v1) (h2 : ev n f x2 = v2) (h3 : ev n f x3 = v3) (h4 : ev n f x4 = v4) (h5 : ev n f x5 = v5) : [x0, x1, x2, x3, x4, x5].map (ev n f) = [v0, v1, v2, v3, v4, v5] := by simp [h0, h1, h2, h3, h4, h5]

theorem O.mv {d : Nat} {x : Operand} {ty : TypeId} {pos : String} {after : Array Edge}
    (h : O P n ops rest N Z (upd f d (ev n f x)) w) :
    O P n ops ({ dst := some d, op := .move x, type := ty, pos := pos, after := after, guard := .none } :: rest) N Z f w :=
  O.val rfl rfl rfl h
theorem O.asg {d : Nat} {x : Operand} {ty : TypeId} {pos : String} {after : Array Edge}
    (h : O P n ops rest N Z (upd f d (ev n f x)) w) :
    O P n ops ({ dst := some d, op := .assign x, type := ty, pos := pos, after := after, guard := .none } :: rest) N Z f w :=
  O.val rfl rfl rfl h
/-- pick, its condition decided. -/
theorem O.pickT {d : Nat} {c x y : Operand} {ty : TypeId} {pos : String} {after : Array Edge} (hc : ev n f c = .bool true)
    (h : O P n ops rest N Z (upd f d (ev n f x)) w) :
    O P n ops ({ dst := some d, op := .pick c x y, type := ty, pos := pos, after := after, guard := .none } :: rest) N Z f w :=
  O.val rfl rfl (by simp [execOp, hc, asBool]) h
theorem O.pickF {d : Nat} {c x y : Operand} {ty : TypeId} {pos : String} {after : Array Edge} (hc : ev n f c = .bool false)
    (h : O P n ops rest N Z (upd f d (ev n f y)) w) :
    O P n ops ({ dst := some d, op := .pick c x y, type := ty, pos := pos, after := after, guard := .none } :: rest) N Z f w :=
  O.val rfl rfl (by simp [execOp, hc, asBool]) h
theorem O.extract {d i : Nat} {x : Operand} {vs : Array Value} {v : Value} {ty : TypeId} {pos : String} {after : Array Edge} (hx : ev n f x = .tuple vs) (hv : vs[i]? = some v)
    (h : O P n ops rest N Z (upd f d v) w) :
    O P n ops ({ dst := some d, op := .extract x i, type := ty, pos := pos, after := after, guard := .none } :: rest) N Z f w :=
  O.val rfl rfl (by simp [execOp, hx, Instr.extract, hv]) h
theorem O.not {d : Nat} {x : Operand} {b : Bool} {t ty : TypeId} {pos : String} {after : Array Edge} (hx : ev n f x = .bool b)
    (h : O P n ops rest N Z (upd f d (.bool (!b))) w) :
    O P n ops ({ dst := some d, op := .unOp .not t x, type := ty, pos := pos, after := after, guard := .none } :: rest) N Z f w :=
  O.val rfl rfl (by simp [execOp, hx, Op.unary]) h
/-- A Bool that a walk parts on: both values. -/
theorem O.bools {d : Nat} {b : Bool} (h1 : b = true → O P n ops rest N Z (upd f d (.bool true)) w) (h2 : b = false → O P n ops rest N Z (upd f d (.bool false)) w) : O P n ops rest N Z (upd f d (.bool b)) w := by
  cases b
  · exact h2 rfl
  · exact h1 rfl
theorem O.boolsD {d : Nat} {p : Prop} [Decidable p] (h1 : p → O P n ops rest N Z (upd f d (.bool true)) w) (h2 : ¬ p → O P n ops rest N Z (upd f d (.bool false)) w) : O P n ops rest N Z (upd f d (.bool (decide p))) w := by
  by_cases h : p
  · rw [decide_eq_true h]; exact h1 h
  · rw [decide_eq_false h]; exact h2 h
/-- A Bool in a slot: both its values. -/
theorem O.split {b : Bool} {l : List Oper} {x : Operand} (_ : ev n f x = .bool b) (h1 : b = true → O P n ops l N Z f w) (h2 : b = false → O P n ops l N Z f w) : O P n ops l N Z f w := by
  cases b
  · exact h2 rfl
  · exact h1 rfl
theorem O.splitD {p : Prop} [Decidable p] {l : List Oper} {x : Operand} (_ : ev n f x = .bool (decide p)) (h1 : p → O P n ops l N Z f w) (h2 : ¬ p → O P n ops l N Z f w) : O P n ops l N Z f w := by
  by_cases h : p
  · exact h1 h
  · exact h2 h
theorem dAnd {A B : Prop} [Decidable A] [Decidable B] (h : A) : decide B = decide (A ∧ B) := by simp [h]
theorem dAndF {A B : Prop} [Decidable A] [Decidable B] (h : ¬ A) : false = decide (A ∧ B) := by simp [h]
theorem dOr {A B : Prop} [Decidable A] [Decidable B] (h : ¬ A) : decide B = decide (A ∨ B) := by simp [h]
theorem dOrT {A B : Prop} [Decidable A] [Decidable B] (h : A) : true = decide (A ∨ B) := by simp [h]
theorem isT {v : Value} {p : Prop} [Decidable p] (hv : v = .bool (decide p)) (h : p) : v = .bool true := by rw [hv, decide_eq_true h]
theorem isF {v : Value} {p : Prop} [Decidable p] (hv : v = .bool (decide p)) (h : ¬ p) : v = .bool false := by rw [hv, decide_eq_false h]
theorem isT' {v : Value} {b : Bool} (hv : v = .bool b) (h : b = true) : v = .bool true := by rw [hv, h]
theorem isF' {v : Value} {b : Bool} (hv : v = .bool b) (h : b = false) : v = .bool false := by rw [hv, h]
theorem noB {v : Value} {b : Bool} {c : Bool} (hv : v = .bool b) (h : (b == c) = false) : isB c v = false := by rw [hv]; exact h
theorem noU {v : Value} {c : Bool} (hv : v = undef) : isB c v = false := by rw [hv]; rfl
/-- A list of operations in two pieces, what holds between them given. -/
theorem O.cut (k : Nat) (J : Val → Val → Prop) {l : List Oper} (h1 : O P n ops (l.take k) (fun f' w' => J f f' ∧ w' = w) Z f w) (h2 : ∀ f', J f f' → O P n ops (l.drop k) N Z f' w) : O P n ops l N Z f w := by
  have key : ∀ (a b : List Oper) (M : Val → World → Prop) (x : Act) (u : World),
      wpList P ops.toArray (Ex n M (fun _ _ _ => False) (fun _ _ => False) Z) a x u → (∀ f' w', M f' w' → wpList P ops.toArray (Ex n N (fun _ _ _ => False) (fun _ _ => False) Z) b (Fr n f') w') →
      wpList P ops.toArray (Ex n N (fun _ _ _ => False) (fun _ _ => False) Z) (a ++ b) x u := by
    intro a b M
    induction a with
    | nil => intro x u h hm; obtain ⟨f', rfl, h⟩ := h; exact hm _ _ h
    | cons o a ih =>
      intro x u h hm
      simp only [wpList, List.cons_append] at h ⊢
      split at h
      · rename_i hw
        rw [if_pos hw]
        rcases h with h | ⟨_, a0, w0, h0⟩
        · left
          simp only [Oper.wp] at h ⊢
          generalize (execOp x.eval o).run P u = r at h ⊢
          cases r with
          | ok nx w' =>
            cases nx with
            | value v => exact ih _ _ h hm
            | skip => exact ih _ _ h hm
            | defer d => exact ih _ _ h hm
            | enter k args =>
              refine Calls.mono h ?_
              intro e w'' he
              cases e with
              | returned v => exact ih _ _ he hm
              | panicked ch => exact he
              | outgrown => obtain ⟨a0, w0, h0⟩ := he; exact h0.elim
            | row r args => exact Rows.mono h fun v w'' hv => ih _ _ hv hm
            | _ => exact h.elim
          | halt hh w' => cases hh <;> first | exact h | exact h.elim
        · exact h0.elim
      · rename_i hw
        rw [if_neg hw]
        exact ih _ _ h hm
  have := key (l.take k) (l.drop k) _ _ _ h1 (fun f' w' hm => by obtain ⟨hj, rfl⟩ := hm; exact h2 f' hj)
  rw [List.take_append_drop] at this
  exact this
end
end Go.Pn
