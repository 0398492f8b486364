/-
  More operations: addresses of elements as facts, guards in regions that draw, floats by their bits. No condition.
-/
import Derived.Test.YtnkcmaoaagnopaaGreatDoorFw6
import Derived.Laws.Externs
namespace Go.Pn
section
variable {P : Program} {n : Nat} {ops rest l : List Oper} {N : Val → World → Prop} {Z : List PanicEntry → World → Prop} {f : Val} {w wB : World}
  {d : Nat} {x y : Operand} {t t' e tr ty : TypeId} {pos : String} {after : Array Edge} {α : Type} {E : Enc α} {F : Nat → Prop}
/-- The address of an element, and what the operation gives in whatever world. -/
theorem Sl.at {i : Int} {s : Nat} {v : Value} {xs : List α} (ht : P.underlying t = some (.slice e)) (hsz : ∀ w, (sizeOf e).run P w = .ok s w) (hs : E.sz = s) (hv : Sl E w F v xs) (hi : 0 ≤ i ∧ i < xs.length) :
    ∃ a, At E w F a (xs[i.toNat]'(by omega)) ∧ ∀ w', (Instr.indexAt t v (i64 i)).run P w' = .ok (.pointer (some a)) w' := by
  obtain ⟨b, off, cap, rfl, hat⟩ := hv.elem (i := i.toNat) (by omega)
  refine ⟨_, hat, fun w' => ?_⟩
  simp [Instr.indexAt, asIntOf, run_underlying ht, hi.1, hi.2, hsz, Addr.add_none, hs]
theorem O.idxR {i : Int} {v : Value} {a : Addr} (hx : ev n f x = v) (hy : ev n f y = i64 i) (hr : ∀ w', (Instr.indexAt t v (i64 i)).run P w' = .ok (.pointer (some a)) w') (h : O P n ops rest N Z (upd f d (.pointer (some a))) w) :
    O P n ops ({ dst := some d, op := .indexAddr t x y, type := ty, pos := pos, after := after, guard := .none } :: rest) N Z f w := by
  refine O.val rfl rfl ?_ h
  have h3 : execOp (ev n f) { dst := some d, op := .indexAddr t x y, type := ty, pos := pos, after := after, guard := .none } = (do pure (.value (← Instr.indexAt t (ev n f x) (ev n f y)))) := rfl
  rw [h3, Sem.run_bind, hx, hy, hr]
  rfl
/-- uint64, float64 (by its bits). -/
def u64E : Enc (BitVec 64) := Enc.flat 1 (fun x => [.int .u64 (x.toNat : Int)]) (fun _ => rfl) (by simp [Value.oneCell'])
theorem u64E.inv {v : Value} {x : BitVec 64} (h : u64E.rep w F [v] x) : v = .int .u64 (x.toNat : Int) := by
  have : [v] = [Value.int .u64 (x.toNat : Int)] := h
  simpa using this
def fl (x : BitVec 64) : Value := .float .f64 x.toNat
def flE : Enc (BitVec 64) := Enc.flat 1 (fun x => [fl x]) (fun _ => rfl) (by simp [fl, Value.oneCell'])
theorem flE.inv {v : Value} {x : BitVec 64} (h : flE.rep w F [v] x) : v = fl x := by
  have : [v] = [fl x] := h
  simpa using this
def flF : Flat (BitVec 64) := ⟨1, fun x => [fl x], fun _ => rfl, by simp [fl, Value.oneCell'], by decide⟩
theorem u64F_enc : u64F.enc = u64E := rfl
theorem flF_enc : flF.enc = flE := rfl
theorem O.loadU64 {a : Addr} {z : BitVec 64} (hag : ∀ w, (isAgg t).run P w = .ok false w) (hx : ev n f x = .pointer (some a)) (ha : At u64E w F a z)
    (h : O P n ops rest N Z (upd f d (.int .u64 (z.toNat : Int))) w) :
    O P n ops ({ dst := some d, op := .load t x, type := ty, pos := pos, after := after, guard := .none } :: rest) N Z f w :=
  O.load1 hag rfl hx ha fun v hv => by rw [u64E.inv hv]; exact h
theorem O.loadF {a : Addr} {z : BitVec 64} (hag : ∀ w, (isAgg t).run P w = .ok false w) (hx : ev n f x = .pointer (some a)) (ha : At flE w F a z)
    (h : O P n ops rest N Z (upd f d (fl z)) w) :
    O P n ops ({ dst := some d, op := .load t x, type := ty, pos := pos, after := after, guard := .none } :: rest) N Z f w :=
  O.load1 hag rfl hx ha fun v hv => by rw [flE.inv hv]; exact h

/-! #### guards in a region that draws -/
theorem D.takeNo {listed : Array Bool} {fuel i : Nat} {dst : Option Nat} {op : Op} {j dj : Nat} {b : Bool} {d : Nat}
    (hi : l[i]? = some { dst := dst, op := op, type := ty, pos := pos, after := after, guard := some (j, b) }) (hd : dst = some d)
    (hk : (Region.noSelect l.toArray && Region.free .any l.toArray listed i && (Region.ready .any l.toArray listed).contains i) = true)
    (hS : Le wB w) (hj : (l[j]?).bind (·.dst) = some dj) (hv : isB b (ev n f (.tmp dj)) = false)
    (h : D P n l (listed.setIfInBounds i true) N Z wB fuel (upd f d undef) w) : D P n l listed N Z wB (fuel + 1) f w := by
  simp only [Bool.and_eq_true] at hk
  have hy0 : (yielded l.toArray (Fr n f).tmps j == some b) = false := by
    have hd := getD_Fr n f dj
    unfold yielded
    have h1 : (l.toArray[j]?).bind (·.dst) = some dj := by simpa using hj
    rw [h1]
    simp only [Option.bind_some]
    rw [Array.getD_eq_getD_getElem?] at hd
    cases hx : (Fr n f).tmps[dj]? with
    | none => rfl
    | some v =>
      rw [hx] at hd
      simp only [Option.getD_some] at hd
      rw [← hd] at hv
      cases v <;> first | rfl | (simp only [isB] at hv; simpa using hv)
  have hy : YieldsIf P l.toArray (fun w' => Le wB w') { dst := dst, op := op, type := ty, pos := pos, after := after, guard := some (j, b) } undef (Fr n f) :=
    .inr ⟨by simp only [Region.wanted]; exact hy0, rfl⟩
  refine wpAnyH_take (i := i) (v := undef) (by simpa using hi) hk.1.1 hk.1.2 hk.2 (Q0_put _ _) hy hS ?_
  simp only [hd]
  rw [put_Fr]
  exact h
theorem D.split {listed : Array Bool} {fuel : Nat} {b : Bool} (hx : ev n f x = .bool b) (h1 : b = true → D P n l listed N Z wB fuel f w) (h2 : b = false → D P n l listed N Z wB fuel f w) : D P n l listed N Z wB fuel f w := by
  cases b
  · exact h2 rfl
  · exact h1 rfl
theorem D.splitD {listed : Array Bool} {fuel : Nat} {p : Prop} [Decidable p] (_hx : ev n f x = .bool (decide p)) (h1 : p → D P n l listed N Z wB fuel f w) (h2 : ¬ p → D P n l listed N Z wB fuel f w) : D P n l listed N Z wB fuel f w := by
  by_cases h : p
  · exact h1 h
  · exact h2 h

theorem D.cast {listed : Array Bool} {fuel : Nat} {v v' : Value} (hv : v = v') (h : D P n l listed N Z wB fuel (upd f d v') w) : D P n l listed N Z wB fuel (upd f d v) w := hv ▸ h
theorem len_form : ∃ X : Sem Value, execOp (ev n f) { dst := some d, op := .call { callee := .builtin .len, args := [x].toArray, argTypes := [t].toArray }, type := ty, pos := pos, after := after, guard := .none } = (do pure (.value (← X))) := by
  refine ⟨Builtin.len_ #[t] ty #[ev n f x], ?_⟩
  simp [execOp, resolve, invoke, builtin]

theorem pick_form {c a b : Operand} {g : Option (Nat × Bool)} : ∃ X : Sem Value, execOp (ev n f) { dst := some d, op := .pick c a b, type := ty, pos := pos, after := after, guard := g } = (do pure (.value (← X))) := by
  refine ⟨do pure (if ← asBool (ev n f c) then ev n f a else ev n f b), ?_⟩
  show (do pure (.value (if ← asBool (ev n f c) then ev n f a else ev n f b)) : Sem Next) = _
  cases ev n f c <;> rfl

/-! #### floats -/
/-- A call of a function that the model gives. -/
theorem O.ext {k : Nat} {xs : List Operand} {vs : List Value} {ats : Array TypeId} {g : Array Value → Sem Value} {v : Value}
    (hk : ∀ args w, (callFunc k args).run P w = ((g args).run P w).andThen fun v w' => .ok (.value v) w') (hxs : xs.map (ev n f) = vs) (hg : (g vs.toArray).run P w = .ok v w) (h : O P n ops rest N Z (upd f d v) w) :
    O P n ops ({ dst := some d, op := .call { callee := .value (.func k), args := xs.toArray, argTypes := ats }, type := ty, pos := pos, after := after, guard := .none } :: rest) N Z f w := by
  subst hxs
  refine O.val rfl rfl ?_ h
  simp only [execOp, resolve, Deferred.ofValue, invoke, ev]
  simp [hk, hg]
abbrev bitsOf : Array Value → Sem Value := Extern.MathFloatBits.float64bits
abbrev fromBits : Array Value → Sem Value := Extern.MathFloatBits.float64frombits
theorem run_bitsOf (x : BitVec 64) : (bitsOf #[fl x]).run P w = .ok (.int .u64 (x.toNat : Int)) w := rfl
theorem run_fromBits (x : BitVec 64) : (fromBits #[.int .u64 (x.toNat : Int)]).run P w = .ok (fl x) w := rfl
/-- How two floats stand to each other. -/
def ford (a b : BitVec 64) : Option Ordering := FloatKind.f64.format.order a.toNat b.toNat
def feq (a b : BitVec 64) : Prop := ford a b = some .eq
def flt (a b : BitVec 64) : Prop := ford a b = some .lt
def fgt (a b : BitVec 64) : Prop := ford a b = some .gt
instance (a b : BitVec 64) : Decidable (feq a b) := inferInstanceAs (Decidable (ford a b = some .eq))
instance (a b : BitVec 64) : Decidable (flt a b) := inferInstanceAs (Decidable (ford a b = some .lt))
instance (a b : BitVec 64) : Decidable (fgt a b) := inferInstanceAs (Decidable (ford a b = some .gt))
variable {a b : BitVec 64}
theorem oeq (c : Option Ordering) (d : Ordering) : (c == some d) = decide (c = some d) := by
  cases c with
  | none => cases d <;> rfl
  | some x => cases x <;> cases d <;> rfl
theorem O.eqlF (hx : ev n f x = fl a) (hy : ev n f y = fl b) (h : O P n ops rest N Z (upd f d (.bool (decide (feq a b)))) w) :
    O P n ops ({ dst := some d, op := .binOp .eql t x y t', type := ty, pos := pos, after := after, guard := .none } :: rest) N Z f w :=
  O.val rfl rfl (by
    have e : (FloatKind.f64.format.order a.toNat b.toNat == some Ordering.eq) = decide (feq a b) := oeq _ _
    simp [execOp, hx, hy, fl, eqGuard, binOp, Op.floatCmp, e]) h
theorem O.neqF (hx : ev n f x = fl a) (hy : ev n f y = fl b) (h : O P n ops rest N Z (upd f d (.bool (decide (¬ feq a b)))) w) :
    O P n ops ({ dst := some d, op := .binOp .neq t x y t', type := ty, pos := pos, after := after, guard := .none } :: rest) N Z f w :=
  O.val rfl rfl (by
    have e : (FloatKind.f64.format.order a.toNat b.toNat == some Ordering.eq) = decide (feq a b) := oeq _ _
    simp [execOp, hx, hy, fl, eqGuard, binOp, Op.floatCmp, bne, e]) h
theorem O.lssF (hx : ev n f x = fl a) (hy : ev n f y = fl b) (h : O P n ops rest N Z (upd f d (.bool (decide (flt a b)))) w) :
    O P n ops ({ dst := some d, op := .binOp .lss t x y t', type := ty, pos := pos, after := after, guard := .none } :: rest) N Z f w :=
  O.val rfl rfl (by
    have e : (FloatKind.f64.format.order a.toNat b.toNat == some Ordering.lt) = decide (flt a b) := oeq _ _
    simp [execOp, hx, hy, fl, eqGuard, binOp, Op.floatCmp, e]) h
theorem O.gtrF (hx : ev n f x = fl a) (hy : ev n f y = fl b) (h : O P n ops rest N Z (upd f d (.bool (decide (fgt a b)))) w) :
    O P n ops ({ dst := some d, op := .binOp .gtr t x y t', type := ty, pos := pos, after := after, guard := .none } :: rest) N Z f w :=
  O.val rfl rfl (by
    have e : (FloatKind.f64.format.order a.toNat b.toNat == some Ordering.gt) = decide (fgt a b) := oeq _ _
    simp [execOp, hx, hy, fl, eqGuard, binOp, Op.floatCmp, e]) h
def nanB (x : BitVec 64) : Prop := x.toNat % 9223372036854775808 > 9218868437227405312
/-- What a sum of floats may be: the sum's bits, or any NaN's. -/
def FAdd (a b r : BitVec 64) : Prop := match FloatKind.f64.format.add a.toNat b.toNat with
  | some z => r.toNat = z
  | none => nanB r
theorem word_lt (neg : Bool) {r : Nat} (h : r ≤ 9218868437227405312 + 4503599627370495) : Ieee.Format.word FloatKind.f64.format neg r < 2 ^ 64 := by
  have e : Ieee.Format.signWeight FloatKind.f64.format = 9223372036854775808 := by decide
  unfold Ieee.Format.word
  split
  · rw [e]; omega
  · omega
theorem write_lt (d : Ieee.Datum) : Ieee.Format.write FloatKind.f64.format d < 2 ^ 64 := by
  have e : Ieee.Format.infRung FloatKind.f64.format = 9218868437227405312 := by decide
  have e2 : Ieee.Format.binade FloatKind.f64.format = 4503599627370496 := by decide
  cases d with
  | number neg mag place =>
    unfold Ieee.Format.write Ieee.Format.nearest
    simp only []
    split
    · exact word_lt _ (by omega)
    · refine word_lt _ ?_
      rw [e]
      omega
  | infinity neg =>
    unfold Ieee.Format.write
    simp only []
    exact word_lt _ (by rw [e]; omega)
  | nan neg fr =>
    unfold Ieee.Format.write
    simp only []
    refine word_lt _ ?_
    rw [e, e2]
    omega
theorem add_lt {x y z : Nat} (h : Ieee.Format.add FloatKind.f64.format x y = some z) : z < 2 ^ 64 := by
  unfold Ieee.Format.add at h
  obtain ⟨d, _, rfl⟩ := Option.map_eq_some_iff.1 h
  exact write_lt d
theorem nan_cut (t x y : Nat) : ∃ r : BitVec 64, r.toNat = (Question.nanBits .f64 x y).cut t ∧ nanB r := by
  have e : (Question.nanBits .f64 x y).cut t = (t % 2) * 2 ^ 63 + 0x7ff0000000000000 + 1 + (t / 2) % (2 ^ 52 - 1) := rfl
  have hp : t % 2 < 2 := Nat.mod_lt _ (by decide)
  have hq : (t / 2) % (2 ^ 52 - 1) < 2 ^ 52 - 1 := Nat.mod_lt _ (by decide)
  generalize t % 2 = p at e hp
  generalize (t / 2) % (2 ^ 52 - 1) = q at e hq
  generalize (Question.nanBits .f64 x y).cut t = c at e
  have hc : c < 2 ^ 64 := by omega
  refine ⟨BitVec.ofNat 64 c, ?_, ?_⟩
  · rw [BitVec.toNat_ofNat]
    exact Nat.mod_eq_of_lt hc
  · unfold nanB
    rw [BitVec.toNat_ofNat, Nat.mod_eq_of_lt hc]
    have : p = 0 ∨ p = 1 := by omega
    rcases this with rfl | rfl <;> omega
/-- What the model's sum gives. -/
theorem run_floatAdd {x y : Nat} : (Op.floatArith .add .f64 x y).run P w = match Ieee.Format.add FloatKind.f64.format x y with
    | some r => .ok (.float .f64 r) w
    | none => .ok (.float .f64 ((Question.nanBits .f64 x y).cut (w.tape w.drawn (.nanBits .f64 x y)))) { w with drawn := w.drawn + 1 } := by
  cases h : Ieee.Format.add FloatKind.f64.format x y with
  | some r =>
    show Sem.run P ((match Ieee.Format.add FloatKind.f64.format x y with | some r => (pure (Value.float .f64 r) : Sem Value) | none => (do pure (Value.float .f64 (← choose (.nanBits .f64 x y))) : Sem Value)) : Sem Value) w = _
    rw [h]
    rfl
  | none =>
    show Sem.run P ((match Ieee.Format.add FloatKind.f64.format x y with | some r => (pure (Value.float .f64 r) : Sem Value) | none => (do pure (Value.float .f64 (← choose (.nanBits .f64 x y))) : Sem Value)) : Sem Value) w = _
    rw [h]
    rfl
/-- A sum of floats. -/
theorem O.addF (hx : ev n f x = fl a) (hy : ev n f y = fl b) (h : ∀ r w', Le w w' → FAdd a b r → O P n ops rest N Z (upd f d (fl r)) w') :
    O P n ops ({ dst := some d, op := .binOp .add t x y t', type := ty, pos := pos, after := after, guard := .none } :: rest) N Z f w := by
  cases hadd : Ieee.Format.add FloatKind.f64.format a.toNat b.toNat with
  | some z =>
    have hz := add_lt hadd
    have hr : (BitVec.ofNat 64 z).toNat = z := by rw [BitVec.toNat_ofNat]; exact Nat.mod_eq_of_lt hz
    refine O.val rfl rfl ?_ (h (BitVec.ofNat 64 z) w (Le.refl w) (by unfold FAdd; rw [hadd]; exact hr))
    have h3 := run_floatAdd (P := P) (w := w) (x := a.toNat) (y := b.toNat)
    rw [hadd] at h3
    simp only [] at h3
    simp [execOp, hx, hy, fl, eqGuard, binOp, h3, hr]
  | none =>
    obtain ⟨r, hr, hn⟩ := nan_cut (w.tape w.drawn (.nanBits .f64 a.toNat b.toNat)) a.toNat b.toNat
    refine O.val rfl rfl ?_ (h r { w with drawn := w.drawn + 1 } ⟨rfl, rfl, rfl, Nat.le_refl _, fun _ _ _ => rfl⟩ (by unfold FAdd; rw [hadd]; exact hn))
    have h3 := run_floatAdd (P := P) (w := w) (x := a.toNat) (y := b.toNat)
    rw [hadd] at h3
    simp only [] at h3
    rw [← hr] at h3
    simp [execOp, hx, hy, fl, eqGuard, binOp, h3]
end
end Go.Pn
