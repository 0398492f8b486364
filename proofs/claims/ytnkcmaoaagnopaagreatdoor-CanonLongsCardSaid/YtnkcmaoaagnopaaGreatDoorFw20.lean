/-
  Rows of zeros, strings appended, slices of slices, arrays' elements; a base that fixes no block. No condition beyond what each rule asks.
-/
import Derived.Test.YtnkcmaoaagnopaaGreatDoorFw19
import Derived.Lib.AppendZeros
import Derived.Lib.AppendStr
namespace Go.Pn
open Go.RowKit
/-- A world without blocks. -/
def bare (w : World) : World := { w with heap := #[] }
theorem Ext.bare {M : Nat → Prop} {w w' : World} (h : Ext M w w') : Le (Go.Pn.bare w) w' := ⟨h.os, h.tape, h.output, Nat.zero_le _, fun _ hk _ => absurd hk (Nat.not_lt_zero _)⟩
theorem zeroCells_flat {α : Type} {G : Flat α} {z : Value} {zx : α} (hzx : z.cells.toList = G.e zx) (n : Nat) : (Builtin.zeroCells z.cells n).toList = (List.replicate n zx).flatMap G.e := by
  have hzsz : z.cells.size = G.sz := by rw [← Array.length_toList, hzx, G.len]
  apply List.ext_getElem?
  intro j
  by_cases hj : j < n * G.sz
  · have hlt : j < ((List.replicate n zx).flatMap G.e).length := by rw [G.length]; simpa using hj
    obtain ⟨hi, hu⟩ := G.get (List.replicate n zx) (List.getElem?_eq_getElem hlt)
    rw [List.getElem?_eq_getElem hlt, ← hu]
    have hjm : j % G.sz < z.cells.size := by rw [hzsz]; exact Nat.mod_lt _ G.pos
    simp only [Builtin.zeroCells, Array.toList_map, Array.toList_range, List.getElem?_map]
    rw [hzsz, List.getElem?_range hj]
    simp only [Option.map_some, List.getElem_replicate]
    rw [getElem!_pos z.cells _ hjm, ← hzx, Array.getElem?_toList, Array.getElem?_eq_getElem hjm]
  · rw [List.getElem?_eq_none (by simp [Builtin.zeroCells, hzsz]; omega), List.getElem?_eq_none (by rw [G.length]; simp; omega)]
section
variable {P : Program} {n : Nat} {ops rest : List Oper} {N : Val → World → Prop} {Z : List PanicEntry → World → Prop} {f : Val} {w : World}
  {d : Nat} {x y : Operand} {t t' tn ty tr e : TypeId} {pos : String} {after : Array Edge} {α : Type} {G : Flat α} {F : Nat → Prop}
theorem O.capL {l : Option Addr} {k c : Nat} (ht : P.underlying t = some (.slice e)) (hx : ev n f x = .slice l k c) (h : O P n ops rest N Z (upd f d (i64 c)) w) :
    O P n ops ({ dst := some d, op := .call { callee := .builtin .cap, args := [x].toArray, argTypes := [t].toArray }, type := ty, pos := pos, after := after, guard := .none } :: rest) N Z f w :=
  O.val rfl rfl (by
    simp [execOp, resolve, invoke, builtin, hx, Builtin.cap_, run_underlying ht, goInt]) h
/-- append(nil, make([]T, m)...). -/
theorem O.appZ {i : TypeInfo} {z : Value} {zx : α} {k kn : IntKind} {m B : Nat} (ht : P.underlying t = some (.slice e)) (htn : P.underlying tn = some (.int kn)) (hi : P.info? e = some i) (hz : i.zero = some z) (hsz : i.size = G.sz) (hzx : z.cells.toList = G.e zx)
    (hx : ev n f x = .slice none 0 0) (hy : ev n f y = .int k (m : Int)) (h0 : 0 < m) (hb : m * i.bytes ≤ 281474976710656) (hm : m ≤ maxLen) (hB : B ≤ w.heap.size)
    (h : ∀ b cap w', w.heap.size ≤ b → m ≤ cap → OwnF G e B w' (.slice (some ⟨b, 0, none⟩) m cap) (List.replicate m zx) → Le w w' → O P n ops rest N Z (upd f d (.slice (some ⟨b, 0, none⟩) m cap)) w') :
    O P n ops ({ dst := some d, op := .call { callee := .builtin .append, args := [x, y].toArray, argTypes := [t, tn].toArray }, type := tr, pos := pos, after := after, guard := .none } :: rest) N Z f w := by
  have hr := Go.Lib.run_append_nil_zeros (P := P) w t tn tr e i z k kn ht htn hi hz m h0 (by rw [hsz]; exact G.pos) (by unfold maxLen at hm; omega) hb
  have hge := grownCap_ge w m 0 e
  have hcm : grownCap w m 0 e ≤ maxLen := grownCap_le_maxLen w m 0 e hm
  have hzsz : z.cells.size = G.sz := by rw [← Array.length_toList, hzx, G.len]
  obtain ⟨w1, hw1⟩ : ∃ w1, w1 = w.drew.alloc (.cells (Builtin.zeroCells z.cells m ++ Builtin.zeroCells z.cells (grownCap w m 0 e - m)) e) := ⟨_, rfl⟩
  rw [← hw1] at hr
  have hblk : w1.heap[w.heap.size]? = some (.cells (Builtin.zeroCells z.cells m ++ Builtin.zeroCells z.cells (grownCap w m 0 e - m)) e (0, 0)) := by rw [hw1]; exact heap_alloc_new w.drew _
  have hle : Le w w1 := by rw [hw1]; exact (Le.drew w).trans (Le.alloc _ _)
  refine O.val rfl rfl (w' := w1) ?_ (h w.heap.size (grownCap w m 0 e) w1 (Nat.le_refl _) hge ?_ hle)
  · have h3 : (execOp (ev n f) { dst := some d, op := .call { callee := .builtin .append, args := [x, y].toArray, argTypes := [t, tn].toArray }, type := tr, pos := pos, after := after, guard := .none }).run P w = ((Builtin.append_ #[t, tn] tr #[ev n f x, ev n f y]).run P w).andThen (fun v w => .ok (.value v) w) := by
      simp [execOp, resolve, invoke, builtin]
    rw [h3, hx, hy, hr]
    rfl
  · refine ⟨⟨by rw [G.length], .inr ⟨w.heap.size, _, _, by simp, hB, hblk, by simpa using hge, hcm, ?_, ?_⟩⟩, by simpa using hm⟩
    · simp only [Array.size_append, size_zeroCells, hzsz, ← Nat.add_mul]
      congr 1
      omega
    · rw [Array.toList_append, zeroCells_flat hzx, List.take_append_of_le_length (by rw [G.length]; exact Nat.le_refl _), ← G.length, List.take_length]
/-- nil[:0]. -/
theorem O.subNil {s : Nat} {kk : IntKind} {hi : Operand} (ht : P.underlying t = some (.slice e)) (hsz : ∀ w, (sizeOf e).run P w = .ok s w) (hx : ev n f x = .slice none 0 0) (hhi : ev n f hi = .int kk 0)
    (h : O P n ops rest N Z (upd f d (.slice none 0 0)) w) :
    O P n ops ({ dst := some d, op := .slice t x .none (some hi) .none, type := tr, pos := pos, after := after, guard := .none } :: rest) N Z f w := by
  refine O.val rfl rfl ?_ h
  have h3 : execOp (ev n f) { dst := some d, op := .slice t x .none (some hi) .none, type := tr, pos := pos, after := after, guard := .none } = (do pure (.value (← Instr.sliceAt t (ev n f x) .none (some (ev n f hi)) .none))) := rfl
  have hbl : (Instr.sliceBound (.int kk 0) 0 .sliceAcap).run P w = .ok 0 w := by
    simp [Instr.sliceBound, asIntOf]
  have h4 : (Instr.sliceAt t (.slice none 0 0) .none (some (.int kk 0)) .none).run P w = .ok (.slice none 0 0) w := by
    unfold Instr.sliceAt
    rw [Sem.run_bind, run_underlying ht, Result.andThen_ok]
    simp only []
    unfold Instr.slice
    rw [Sem.run_bind, run_underlying ht, Result.andThen_ok]
    simp [Instr.sliceBounds, hsz, hbl]
  rw [h3, Sem.run_bind, hx, hhi, h4]
  rfl
end
theorem nil_form {n : Nat} {f : Val} {d : Nat} {x : Operand} {a : Addr} {ty : TypeId} {pos : String} {after : Array Edge} (hx : ev n f x = .pointer (some a)) :
    ∃ X : Sem Value, execOp (ev n f) { dst := some d, op := .nilCheck x, type := ty, pos := pos, after := after, guard := .none } = (do pure (.value (← X))) :=
  ⟨pure (.pointer (some a)), by simp [execOp, hx]⟩
open Go.Lib in
theorem strCells_flat (l : List UInt8) : strCells ⟨l.toArray⟩ = l.flatMap byteF.e := by
  rw [byteF_map]
  simp [strCells]
open Go.Lib
section
variable {P : Program} {n : Nat} {ops rest : List Oper} {N : Val → World → Prop} {Z : List PanicEntry → World → Prop} {f : Val} {w : World}
  {d : Nat} {x y : Operand} {t t' tn ty tr e : TypeId} {pos : String} {after : Array Edge} {α : Type} {F : Nat → Prop}
/-- append(b, s...), onto a slice of the call's own. -/
theorem O.appS {i : TypeInfo} {v : Value} {xs ys : List UInt8} {B : Nat} (ht : P.underlying t = some (.slice e)) (hu : P.underlying t' = some .string) (hi : P.info? e = some i) (hz : i.zero = some (.int .u8 0)) (hsz : i.size = 1) (hby : i.bytes = 1)
    (hx : ev n f x = v) (hy : ev n f y = str ys) (hown : OwnF byteF e B w v xs) (hb : xs.length + ys.length ≤ 140737488355328) (hl : xs.length + ys.length ≤ maxLen) (hB : B ≤ w.heap.size)
    (h : ∀ v' w', OwnF byteF e B w' v' (xs ++ ys) → Ext (bk v) w w' → O P n ops rest N Z (upd f d v') w') :
    O P n ops ({ dst := some d, op := .call { callee := .builtin .append, args := [x, y].toArray, argTypes := [t, t'].toArray }, type := tr, pos := pos, after := after, guard := .none } :: rest) N Z f w := by
  have hsz2 : ByteArray.size ⟨ys.toArray⟩ = ys.length := by simp [ByteArray.size]
  obtain ⟨v', w', hr, ho, hg, _⟩ := run_append_own_string (P := P) (w := w) B t t' tr e i ht hu hi hz hsz hby v xs.length _ hown.1 ⟨ys.toArray⟩ (by rw [hsz2]; exact hl) (by rw [hsz2]; exact hb) hB
  rw [strCells_flat, hsz2] at ho
  refine O.val rfl rfl ?_ (h v' w' ⟨?_, by simpa using hl⟩ ((ext_of_grown hg).mono fun k _ hk => ?_))
  · have h3 : (execOp (ev n f) { dst := some d, op := .call { callee := .builtin .append, args := [x, y].toArray, argTypes := [t, t'].toArray }, type := tr, pos := pos, after := after, guard := .none }).run P w = ((Builtin.append_ #[t, t'] tr #[ev n f x, ev n f y]).run P w).andThen (fun v w => .ok (.value v) w) := by
      simp [execOp, resolve, invoke, builtin]
    have e1 : str ys = .string ⟨ys.toArray⟩ := rfl
    rw [h3, hx, hy, e1, hr]
    rfl
  · rw [List.flatMap_append, List.length_append]; exact ho
  · cases v with
    | slice a n c =>
      cases a with
      | none => simp [Value.ownBlock] at hk
      | some a => simp only [Value.ownBlock, Option.some.injEq] at hk; exact hk.symm
    | _ => simp [Value.ownBlock] at hk
end
/-! slices of slices -/
/-- A slice, in its cell. -/
def sliE {α : Type} (E : Enc α) : Enc (List α) where
  sz := 1
  rep := fun w F cs xs => ∃ v, cs = [v] ∧ Sl E w F v xs
  len := by rintro w F cs x ⟨v, rfl, _⟩; rfl
  one := by
    rintro w F cs x ⟨v, rfl, h⟩ c hc
    obtain rfl : c = v := by simpa using hc
    exact h.oneC
  ext := by rintro w w' F cs x ⟨v, rfl, h⟩ hw; exact ⟨v, rfl, h.ext hw⟩
  weak := by rintro w F F' cs x ⟨v, rfl, h⟩ hF; exact ⟨v, rfl, h.weak hF⟩
/-- A literal of slices. -/
theorem Sl.lits {α : Type} {E : Enc α} {w : World} {F : Nat → Prop} {b : Nat} {ty : TypeId} {vs : List Value} {xss : List (List α)} (h : Own w b ty vs) (hl : vs.length = xss.length) (hm : xss.length ≤ maxLen)
    (hs : ∀ i, ∀ h1 : i < vs.length, ∀ h2 : i < xss.length, Sl E w F vs[i] xss[i]) : Sl (sliE E) w (fun k => k = b ∨ F k) (.slice (some ⟨b, 0, none⟩) xss.length xss.length) xss := by
  obtain ⟨fr, hb, _⟩ := h
  refine ⟨hm, .inr ⟨b, 0, xss.length, _, ty, fr, rfl, .inl rfl, hb, Nat.le_refl _, hm, ?_, fun i hi => ?_⟩⟩
  · intro _
    show 0 + xss.length * 1 ≤ _
    simp [hl]
  · refine ⟨vs[i]'(by omega), ?_, (hs i (by omega) hi).weak fun k hk => .inr hk⟩
    show (vs.drop (0 + i * 1)).take 1 = _
    rw [Nat.zero_add, Nat.mul_one, List.drop_eq_getElem_cons (by omega), List.take_succ_cons, List.take_zero]
theorem Sl.lits1 {α : Type} {E : Enc α} {w : World} {F : Nat → Prop} {b : Nat} {ty : TypeId} {v : Value} {xs : List α} (h : Own w b ty [v]) (hs : Sl E w F v xs) : Sl (sliE E) w (fun k => k = b ∨ F k) (.slice (some ⟨b, 0, none⟩) 1 1) [xs] :=
  Sl.lits (xss := [xs]) h rfl (by unfold maxLen; simp) fun i h1 h2 => by
    obtain rfl : i = 0 := by simp at h1; omega
    exact hs
theorem Sl.lits2 {α : Type} {E : Enc α} {w : World} {F F' : Nat → Prop} {b : Nat} {ty : TypeId} {v v' : Value} {xs xs' : List α} (h : Own w b ty [v, v']) (hs : Sl E w F v xs) (hs' : Sl E w F' v' xs') : Sl (sliE E) w (fun k => k = b ∨ (F k ∨ F' k)) (.slice (some ⟨b, 0, none⟩) 2 2) [xs, xs'] :=
  Sl.lits (xss := [xs, xs']) h rfl (by unfold maxLen; simp) fun i h1 h2 => by
    have h3 : i = 0 ∨ i = 1 := by simp at h1; omega
    rcases h3 with rfl | rfl
    · exact hs.weak fun k hk => .inl hk
    · exact hs'.weak fun k hk => .inr hk
section
variable {P : Program} {n : Nat} {ops rest : List Oper} {N : Val → World → Prop} {Z : List PanicEntry → World → Prop} {f : Val} {w : World}
  {d : Nat} {x y : Operand} {t tr e : TypeId} {pos : String} {after : Array Edge} {α : Type} {E : Enc α} {F : Nat → Prop}
/-- A load of a slice out of a slice of slices. -/
theorem O.loadSl {a : Addr} {z : List α} (hag : ∀ w, (isAgg t).run P w = .ok false w) (hx : ev n f x = .pointer (some a)) (ha : At (sliE E) w F a z)
    (h : ∀ v, Sl E w F v z → O P n ops rest N Z (upd f d v) w) :
    O P n ops ({ dst := some d, op := .load t x, type := tr, pos := pos, after := after, guard := .none } :: rest) N Z f w :=
  O.load1 hag rfl hx ha fun v hv => by
    obtain ⟨v', h1, h2⟩ := hv
    obtain rfl : v = v' := by simpa using h1
    exact h v h2
/-- An element of an array that is a value. -/
theorem O.indexA {k : IntKind} {len : Nat} {i : Int} {cs : List Value} {v : Value} (ht : P.underlying t = some (.array len e)) (hag : ∀ w, (isAgg e).run P w = .ok false w) (hsz : ∀ w, (sizeOf e).run P w = .ok 1 w) (hx : ev n f x = .agg cs.toArray) (hy : ev n f y = .int k i) (hi : 0 ≤ i ∧ i < len)
    (hv : cs[i.toNat]? = some v) (h : O P n ops rest N Z (upd f d v) w) :
    O P n ops ({ dst := some d, op := .index t x y, type := tr, pos := pos, after := after, guard := .none } :: rest) N Z f w :=
  O.val rfl rfl (by
    have h2 : (Instr.index t (.agg cs.toArray) (.int k i)).run P w = .ok v w := by
      unfold Instr.index
      rw [Sem.run_bind]
      show Result.andThen (Result.ok (k, i) w) _ = _
      rw [Result.andThen_ok, Sem.run_bind, run_underlying ht, Result.andThen_ok]
      simp [hi.1, hi.2, hsz, part, hag, hv]
    have h3 : execOp (ev n f) { dst := some d, op := .index t x y, type := tr, pos := pos, after := after, guard := .none } = (do pure (.value (← Instr.index t (ev n f x) (ev n f y)))) := rfl
    rw [h3, Sem.run_bind, hx, hy, h2]
    rfl) h
end
theorem Wr.lst {ty te : TypeId} {w : World} {bw g : Nat} {xs ys : List UInt8} (h : Wr ty te w bw g xs) (e : xs = ys) : Wr ty te w bw g ys := e ▸ h
theorem OwnF.lit1 {α : Type} {G : Flat α} {ty : TypeId} {B : Nat} {w : World} {b : Nat} {u : Value} {x : α} (hs : G.sz = 1) (h : Own0 w b ty [u]) (hu : G.e x = [u]) (hB : B ≤ b) : OwnF G ty B w (.slice (some ⟨b, 0, none⟩) 1 1) [x] := by
  refine ⟨⟨by rw [G.length], .inr ⟨b, 1, #[u], rfl, hB, h, by simp, by unfold maxLen; omega, by simp [hs], ?_⟩⟩, by unfold maxLen; simp⟩
  simp [hs, hu]
end Go.Pn
