/-
  Memory: how worlds grow, how data lie in memory, and the operations that read it. No condition beyond what each rule asks.
-/
import Derived.Test.YtnkcmaoaagnopaaGreatDoorFw2
namespace Go.Pn
open Go.RowKit

/-- The world w' is w with new blocks, and with changes in the blocks of M alone. -/
structure Ext (M : Nat → Prop) (w w' : World) : Prop where
  os : w'.os = w.os
  tape : w'.tape = w.tape
  output : w'.output = w.output
  size : w.heap.size ≤ w'.heap.size
  block : ∀ k, k < w.heap.size → ¬ M k → w'.heap[k]? = w.heap[k]?
/-- The world w' is w with new blocks. -/
abbrev Le (w w' : World) : Prop := Ext (fun _ => False) w w'

theorem Ext.refl (M : Nat → Prop) (w : World) : Ext M w w := ⟨rfl, rfl, rfl, Nat.le_refl _, fun _ _ _ => rfl⟩
theorem Le.refl (w : World) : Le w w := Ext.refl _ w
theorem Ext.trans {M : Nat → Prop} {a b c : World} (h : Ext M a b) (k : Ext M b c) : Ext M a c :=
  ⟨k.os.trans h.os, k.tape.trans h.tape, k.output.trans h.output, Nat.le_trans h.size k.size, fun i hi hm => (k.block i (Nat.lt_of_lt_of_le hi h.size) hm).trans (h.block i hi hm)⟩
theorem Ext.mono {M M' : Nat → Prop} {a b : World} (h : Ext M a b) (hm : ∀ k, k < a.heap.size → M k → M' k) : Ext M' a b :=
  ⟨h.os, h.tape, h.output, h.size, fun i hi hn => h.block i hi fun hk => hn (hm i hi hk)⟩
theorem Le.to {M : Nat → Prop} {a b : World} (h : Le a b) : Ext M a b := h.mono fun _ _ h => h.elim
/-- Changes in new blocks are none of the old ones. -/
theorem Ext.new {M M' : Nat → Prop} {a b c : World} (h : Ext M a b) (k : Ext M' b c) (hm : ∀ i, i < a.heap.size → M' i → M i) : Ext M a c :=
  ⟨k.os.trans h.os, k.tape.trans h.tape, k.output.trans h.output, Nat.le_trans h.size k.size, fun i hi hn => (k.block i (Nat.lt_of_lt_of_le hi h.size) fun hk => hn (hm i hi hk)).trans (h.block i hi hn)⟩
theorem Le.trans {a b c : World} (h : Le a b) (k : Le b c) : Le a c := Ext.trans h k
theorem Le.below {a b : World} (h : Le a b) : Below a.heap.size a b := ⟨h.os, h.tape, h.output, h.size, fun i hi => h.block i hi not_false⟩
theorem Le.of_below {B : Nat} {a b : World} (h : Below B a b) (hB : a.heap.size ≤ B) : Le a b := ⟨h.os, h.tape, h.output, h.size, fun i hi _ => h.block i (Nat.lt_of_lt_of_le hi hB)⟩
theorem Le.drew (w : World) : Le w w.drew := ⟨rfl, rfl, rfl, Nat.le_refl _, fun _ _ _ => rfl⟩
theorem Le.drewN (w : World) (n : Nat) : Le w { w with drawn := w.drawn + n } := ⟨rfl, rfl, rfl, Nat.le_refl _, fun _ _ _ => rfl⟩
theorem Le.alloc (w : World) (o : Obj) : Le w (w.alloc o) := ⟨rfl, rfl, rfl, by simp, fun k hk _ => Below.heap_alloc _ _ _ hk⟩
theorem Ext.set (w : World) (a : Addr) (v : Value) : Ext (fun k => k = a.block) w (w.setCell a v) :=
  ⟨rfl, rfl, rfl, by simp, fun k _ hn => Below.heap_setCell _ _ _ _ hn⟩
theorem Ext.lt {M : Nat → Prop} {a b : World} (h : Ext M a b) {k : Nat} (hk : k < a.heap.size) : k < b.heap.size := Nat.lt_of_lt_of_le hk h.size

/-- A variable of one cell holds a value. -/
def CellIs (w : World) (b : Nat) (v : Value) : Prop := w.cell? ⟨b, 0, none⟩ = some v
theorem CellIs.lt {w : World} {b : Nat} {v : Value} (h : CellIs w b v) : b < w.heap.size := World.block_lt_of_cell? w _ h
theorem CellIs.keepM {M : Nat → Prop} {w w' : World} {b : Nat} {v : Value} (h : CellIs w b v) (e : Ext M w w') (hM : ¬ M b) : CellIs w' b v := by
  have := e.block b h.lt hM
  unfold CellIs at h ⊢
  rw [← h]
  simp only [World.cell?, this]
theorem CellIs.keep {w w' : World} {b : Nat} {v : Value} (h : CellIs w b v) (e : Le w w') : CellIs w' b v := h.keepM e not_false

/-- A way in which data lie in cells: how many cells, and which. F: the blocks that may be looked into. -/
structure Enc (α : Type) where
  sz : Nat
  rep : World → (Nat → Prop) → List Value → α → Prop
  len : ∀ {w F cs x}, rep w F cs x → cs.length = sz
  one : ∀ {w F cs x}, rep w F cs x → ∀ c ∈ cs, c.oneCell' = true
  ext : ∀ {w w' F cs x}, rep w F cs x → (∀ k, F k → k < w.heap.size → w'.heap[k]? = w.heap[k]?) → rep w' F cs x
  weak : ∀ {w F F' cs x}, rep w F cs x → (∀ k, F k → F' k) → rep w F' cs x

/-- Data that lie flat. -/
def Enc.flat {α : Type} (sz : Nat) (e : α → List Value) (hl : ∀ x, (e x).length = sz) (ho : ∀ x, ∀ c ∈ e x, c.oneCell' = true) : Enc α where
  sz := sz
  rep := fun _ _ cs x => cs = e x
  len := by rintro w F cs x rfl; exact hl x
  one := by rintro w F cs x rfl; exact ho x
  ext := fun h _ => h
  weak := fun h _ => h

/-- Cells from a place on hold data. -/
def At {α : Type} (E : Enc α) (w : World) (F : Nat → Prop) (a : Addr) (x : α) : Prop :=
  ∃ b off cur ty fr, a = ⟨b, off, none⟩ ∧ F b ∧ w.heap[b]? = some (.cells cur ty fr) ∧ off + E.sz ≤ cur.size ∧ E.rep w F ((cur.toList.drop off).take E.sz) x

/-- A slice holds data. -/
def Sl {α : Type} (E : Enc α) (w : World) (F : Nat → Prop) (v : Value) (xs : List α) : Prop :=
  xs.length ≤ maxLen ∧
  ((∃ a, v = .slice a 0 0 ∧ xs = []) ∨
   ∃ b off cap cur ty fr, v = .slice (some ⟨b, off, none⟩) xs.length cap ∧ F b ∧ w.heap[b]? = some (.cells cur ty fr) ∧ xs.length ≤ cap ∧ cap ≤ maxLen ∧ (0 < xs.length → off + cap * E.sz ≤ cur.size) ∧
     ∀ i (h : i < xs.length), E.rep w F ((cur.toList.drop (off + i * E.sz)).take E.sz) xs[i])

section
variable {α : Type} {E : Enc α} {w w' : World} {F F' : Nat → Prop} {v : Value} {xs : List α} {a : Addr} {x : α}

theorem lt_of_some {w : World} {b : Nat} {o : Obj} (h : w.heap[b]? = some o) : b < w.heap.size := (Array.getElem?_eq_some_iff.1 h).1
theorem At.ext (h : At E w F a x) (hw : ∀ k, F k → k < w.heap.size → w'.heap[k]? = w.heap[k]?) : At E w' F a x := by
  obtain ⟨b, off, cur, ty, fr, rfl, hF, hb, hs, hr⟩ := h
  exact ⟨b, off, cur, ty, fr, rfl, hF, (hw b hF (lt_of_some hb)).trans hb, hs, E.ext hr hw⟩
theorem At.keep (h : At E w F a x) (e : Le w w') : At E w' F a x := h.ext fun k _ hk => e.block k hk not_false
theorem At.keepM {M : Nat → Prop} (h : At E w F a x) (e : Ext M w w') (hM : ∀ k, F k → ¬ M k) : At E w' F a x := h.ext fun k hF hk => e.block k hk (hM k hF)
theorem At.weak (h : At E w F a x) (hF' : ∀ k, F k → F' k) : At E w F' a x := by
  obtain ⟨b, off, cur, ty, fr, rfl, hF, hb, hs, hr⟩ := h
  exact ⟨b, off, cur, ty, fr, rfl, hF' _ hF, hb, hs, E.weak hr hF'⟩
theorem Sl.ext (h : Sl E w F v xs) (hw : ∀ k, F k → k < w.heap.size → w'.heap[k]? = w.heap[k]?) : Sl E w' F v xs := by
  refine ⟨h.1, ?_⟩
  rcases h.2 with h | ⟨b, off, cap, cur, ty, fr, rfl, hF, hb, h1, h2, h3, hr⟩
  · exact .inl h
  · exact .inr ⟨b, off, cap, cur, ty, fr, rfl, hF, (hw b hF (lt_of_some hb)).trans hb, h1, h2, h3, fun i hi => E.ext (hr i hi) hw⟩
theorem Sl.weak (h : Sl E w F v xs) (hF' : ∀ k, F k → F' k) : Sl E w F' v xs := by
  refine ⟨h.1, ?_⟩
  rcases h.2 with h | ⟨b, off, cap, cur, ty, fr, rfl, hF, hb, h1, h2, h3, hr⟩
  · exact .inl h
  · exact .inr ⟨b, off, cap, cur, ty, fr, rfl, hF' _ hF, hb, h1, h2, h3, fun i hi => E.weak (hr i hi) hF'⟩
theorem Sl.keep (h : Sl E w F v xs) (e : Le w w') : Sl E w' F v xs := h.ext fun k _ hk => e.block k hk not_false
theorem Sl.keepM {M : Nat → Prop} (h : Sl E w F v xs) (e : Ext M w w') (hM : ∀ k, F k → ¬ M k) : Sl E w' F v xs := h.ext fun k hF hk => e.block k hk (hM k hF)
theorem Sl.le (h : Sl E w F v xs) : xs.length ≤ 9223372036854775807 := by have := h.1; unfold maxLen at this; omega
theorem Sl.nil (E : Enc α) (w : World) (F : Nat → Prop) : Sl E w F (.slice none 0 0) [] := ⟨by simp, .inl ⟨_, rfl, rfl⟩⟩
/-- The value of a slice: its length. -/
theorem Sl.val (h : Sl E w F v xs) : ∃ l cap, v = .slice l xs.length cap ∧ xs.length ≤ cap := by
  rcases h.2 with ⟨a0, rfl, rfl⟩ | ⟨b, off, cap, cur, ty, fr, rfl, _, _, h1, _⟩
  · exact ⟨_, _, rfl, Nat.le_refl _⟩
  · exact ⟨_, _, rfl, h1⟩
theorem Addr.add_none (b off k : Nat) : (⟨b, off, none⟩ : Addr).add k = ⟨b, off + k, none⟩ := by
  unfold Addr.add; split <;> simp_all
/-- An element of a slice. -/
theorem Sl.elem (h : Sl E w F v xs) {i : Nat} (hi : i < xs.length) : ∃ b off cap, v = .slice (some ⟨b, off, none⟩) xs.length cap ∧ At E w F ⟨b, off + i * E.sz, none⟩ xs[i] := by
  rcases h.2 with ⟨a0, rfl, rfl⟩ | ⟨b, off, cap, cur, ty, fr, rfl, hF, hb, h1, _, h3, hr⟩
  · simp at hi
  · refine ⟨b, off, cap, rfl, b, off + i * E.sz, cur, ty, fr, rfl, hF, hb, ?_, hr i hi⟩
    have : (i + 1) * E.sz ≤ cap * E.sz := Nat.mul_le_mul_right _ (by omega)
    rw [Nat.add_mul, Nat.one_mul] at this
    have h3 := h3 (by omega)
    omega
/-- The cell at a place that holds one. -/
theorem At.cell1 (h : At E w F a x) (h1 : E.sz = 1) : ∃ v, w.cell? a = some v ∧ E.rep w F [v] x := by
  obtain ⟨b, off, cur, ty, fr, rfl, hF, hb, hs, hr⟩ := h
  rw [h1] at hs hr
  have hlt : off < cur.size := by omega
  refine ⟨cur[off], ?_, ?_⟩
  · simp [World.cell?, hb, hlt]
  · have : (cur.toList.drop off).take 1 = [cur[off]] := by
      rw [List.drop_eq_getElem_cons (by simpa using hlt)]
      simp
    rwa [this] at hr
end

section
variable {P : Program} {n : Nat} {ops rest : List Oper} {N : Val → World → Prop} {Z : List PanicEntry → World → Prop} {f : Val} {w : World}
  {d : Nat} {x y : Operand} {t t' ty : TypeId} {pos : String} {after : Array Edge} {α : Type} {E : Enc α} {F : Nat → Prop}

theorem run_sizeOf {e : TypeId} {i : TypeInfo} (hi : P.info? e = some i) : (sizeOf e).run P w = .ok i.size w := by
  simp [sizeOf, typeInfo, hi]

/-- The address of an element of a slice. -/
theorem O.idx {e : TypeId} {i : Int} {s : Nat} {v : Value} {xs : List α} (ht : P.underlying t = some (.slice e)) (hsz : ∀ w, (sizeOf e).run P w = .ok s w) (hs : E.sz = s) (hx : ev n f x = v) (hv : Sl E w F v xs)
    (hy : ev n f y = i64 i) (hi : 0 ≤ i ∧ i < xs.length) (h : ∀ a, At E w F a (xs[i.toNat]'(by omega)) → O P n ops rest N Z (upd f d (.pointer (some a))) w) :
    O P n ops ({ dst := some d, op := .indexAddr t x y, type := ty, pos := pos, after := after, guard := .none } :: rest) N Z f w := by
  obtain ⟨b, off, cap, hval, hat⟩ := hv.elem (i := i.toNat) (by omega)
  refine O.val rfl rfl ?_ (h _ hat)
  have h3 : execOp (ev n f) { dst := some d, op := .indexAddr t x y, type := ty, pos := pos, after := after, guard := .none } = (do pure (.value (← Instr.indexAt t (ev n f x) (ev n f y)))) := rfl
  rw [h3, Sem.run_bind, hx, hy, hval]
  have h4 : (Instr.indexAt t (.slice (some ⟨b, off, none⟩) xs.length cap) (i64 i)).run P w = .ok (.pointer (some ⟨b, off + i.toNat * E.sz, none⟩)) w := by
    simp [Instr.indexAt, asIntOf, run_underlying ht, hi.1, hi.2, hsz, Addr.add_none, hs]
  rw [h4]
  rfl
/-- A load of one cell. -/
theorem O.load1 {a : Addr} {z : α} (hag : ∀ w, (isAgg t).run P w = .ok false w) (h1 : E.sz = 1) (hx : ev n f x = .pointer (some a)) (ha : At E w F a z)
    (h : ∀ v, E.rep w F [v] z → O P n ops rest N Z (upd f d v) w) :
    O P n ops ({ dst := some d, op := .load t x, type := ty, pos := pos, after := after, guard := .none } :: rest) N Z f w := by
  obtain ⟨v, hc, hr⟩ := ha.cell1 h1
  refine O.val rfl rfl ?_ (h v hr)
  have h3 : execOp (ev n f) { dst := some d, op := .load t x, type := ty, pos := pos, after := after, guard := .none } = (do pure (.value (← Instr.loadAt t (ev n f x)))) := rfl
  rw [h3, Sem.run_bind, hx]
  have h4 : (Instr.loadAt t (.pointer (some a))).run P w = .ok v w := by
    simp [Instr.loadAt, Instr.sureAddr, loadVar, hag, hc]
  rw [h4]
  rfl
/-- The length of a slice. -/
theorem O.len {e : TypeId} {v : Value} {xs : List α} (ht : P.underlying t = some (.slice e)) (hx : ev n f x = v) (hv : Sl E w F v xs) (h : O P n ops rest N Z (upd f d (i64 xs.length)) w) :
    O P n ops ({ dst := some d, op := .call { callee := .builtin .len, args := [x].toArray, argTypes := [t].toArray }, type := ty, pos := pos, after := after, guard := .none } :: rest) N Z f w := by
  obtain ⟨l, cap, hval, _⟩ := hv.val
  exact O.lenL ht (hx.trans hval) h
end

/-- Bytes. -/
def byteE : Enc UInt8 := Enc.flat 1 (fun x => [.int .u8 (x.toNat : Int)]) (fun _ => rfl) (by simp [Value.oneCell'])
theorem byteE.inv {w : World} {F : Nat → Prop} {v : Value} {x : UInt8} (h : byteE.rep w F [v] x) : v = .int .u8 (x.toNat : Int) := by
  have : [v] = [Value.int .u8 (x.toNat : Int)] := h
  simpa using this
/-- uint32. -/
def u32E : Enc (BitVec 32) := Enc.flat 1 (fun x => [.int .u32 (x.toNat : Int)]) (fun _ => rfl) (by simp [Value.oneCell'])
theorem u32E.inv {w : World} {F : Nat → Prop} {v : Value} {x : BitVec 32} (h : u32E.rep w F [v] x) : v = .int .u32 (x.toNat : Int) := by
  have : [v] = [Value.int .u32 (x.toNat : Int)] := h
  simpa using this

section
variable {P : Program} {n : Nat} {ops rest : List Oper} {N : Val → World → Prop} {Z : List PanicEntry → World → Prop} {f : Val} {w : World}
  {d : Nat} {x y : Operand} {t t' ty : TypeId} {pos : String} {after : Array Edge} {F : Nat → Prop}
/-- A load of a byte. -/
theorem O.loadB {a : Addr} {z : UInt8} (hag : ∀ w, (isAgg t).run P w = .ok false w) (hx : ev n f x = .pointer (some a)) (ha : At byteE w F a z)
    (h : O P n ops rest N Z (upd f d (.int .u8 (z.toBitVec.toNat : Int))) w) :
    O P n ops ({ dst := some d, op := .load t x, type := ty, pos := pos, after := after, guard := .none } :: rest) N Z f w :=
  O.load1 hag rfl hx ha fun v hv => by rw [byteE.inv hv]; exact h
end
end Go.Pn
