/-
  A slice made with room, and what is appended into the room. No condition beyond what each rule asks.
-/
import Derived.Test.YtnkcmaoaagnopaaGreatDoorFw21
namespace Go.Pn
open Go.RowKit
section
variable {P : Program} {n : Nat} {ops rest : List Oper} {N : Val → World → Prop} {Z : List PanicEntry → World → Prop} {f : Val} {w : World}
  {d : Nat} {x y : Operand} {t ty tr e : TypeId} {pos : String} {after : Array Edge} {α : Type} {G : Flat α} {F : Nat → Prop}
theorem made_cells {z : Value} {zx : α} (m : Nat) (hzx : z.cells.toList = G.e zx) : (madeCells z.cells (m * G.sz)).toList = (List.replicate m zx).flatMap G.e := by
  apply List.ext_getElem?
  intro j
  have hzsz : z.cells.size = G.sz := by rw [← Array.length_toList, hzx, G.len]
  by_cases hj : j < m * G.sz
  · have h1 : ((List.replicate m zx).flatMap G.e)[j]? = (G.e zx)[j % G.sz]? := by
      have hlt : j < ((List.replicate m zx).flatMap G.e).length := by rw [G.length]; simpa using hj
      obtain ⟨hi, hu⟩ := G.get (List.replicate m zx) (List.getElem?_eq_getElem hlt)
      rw [List.getElem?_eq_getElem hlt, ← hu]
      simp
    have hjm : j % G.sz < z.cells.size := by rw [hzsz]; exact Nat.mod_lt _ G.pos
    rw [h1, ← hzx]
    simp only [madeCells, Array.toList_map, Array.toList_range, List.getElem?_map, List.getElem?_range hj, Option.map_some, Array.getElem?_toList]
    rw [hzsz, getElem!_pos z.cells _ hjm, Array.getElem?_eq_getElem hjm]
  · rw [List.getElem?_eq_none (by simp [size_madeCells]; omega), List.getElem?_eq_none (by rw [G.length]; simp; omega)]
/-- make([]T, 0, c), of data whose zero value is known. -/
theorem O.mkR {i : TypeInfo} {z : Value} {zx : α} {c : Nat} {k k' : IntKind} (ht : P.underlying t = some (.slice e)) (hi : P.info? e = some i) (hz : i.zero = some z) (hsz : i.size = G.sz) (hzx : z.cells.toList = G.e zx)
    (hx : ev n f x = .int k 0) (hy : ev n f y = .int k' (c : Int)) (hb : i.bytes * c ≤ 281474976710656) (hm : c ≤ maxLen)
    (h : ∀ b w', w.heap.size ≤ b → Own0 w' b e ((List.replicate c zx).flatMap G.e) → Le w w' → O P n ops rest N Z (upd f d (.slice (some ⟨b, 0, none⟩) 0 c)) w') :
    O P n ops ({ dst := some d, op := .makeSlice t x y, type := tr, pos := pos, after := after, guard := .none } :: rest) N Z f w := by
  have hown : Own0 (w.alloc (.cells (madeCells z.cells (c * G.sz)) e)) w.heap.size e ((List.replicate c zx).flatMap G.e) := by
    have := Own0.new w e (madeCells z.cells (c * G.sz)).toList
    rwa [Array.toArray_toList, made_cells c hzx] at this
  refine O.val rfl rfl ?_ (h w.heap.size (w.alloc (.cells (madeCells z.cells (c * G.sz)) e)) (Nat.le_refl _) hown (Le.alloc _ _))
  have h3 : execOp (ev n f) { dst := some d, op := .makeSlice t x y, type := tr, pos := pos, after := after, guard := .none } = (do pure (.value (← Instr.makeSlice t (ev n f x) (ev n f y)))) := rfl
  have h63 : (c : Int) ≤ 9223372036854775807 := by have := hm; unfold maxLen at this; omega
  have hb' : (i.bytes : Int) * (c : Int) ≤ 281474976710656 := by
    have h : ((i.bytes * c : Nat) : Int) ≤ 281474976710656 := by omega
    rwa [Int.natCast_mul] at h
  rw [h3, Sem.run_bind, hx, hy, run_make (P := P) w t e i z ht hi hz k k' 0 c (Int.le_refl _) (by omega) hb' h63]
  simp [hsz]
/-- append into the room of an empty slice: the block's cells after it. -/
theorem O.appR {i : TypeInfo} {v2 : Value} {zx : α} {ys : List α} {b c : Nat} (ht : P.underlying t = some (.slice e)) (hi : P.info? e = some i) (hsz : i.size = G.sz)
    (hx : ev n f x = .slice (some ⟨b, 0, none⟩) 0 c) (hy : ev n f y = v2) (ho : Own0 w b e ((List.replicate c zx).flatMap G.e)) (hv2 : Sl G.enc w F v2 ys) (hc : ys.length ≤ c)
    (h : ∀ w', Own0 w' b e ((ys ++ List.replicate (c - ys.length) zx).flatMap G.e) → Ext (fun k => k = b) w w' → O P n ops rest N Z (upd f d (.slice (some ⟨b, 0, none⟩) ys.length c)) w') :
    O P n ops ({ dst := some d, op := .call { callee := .builtin .append, args := [x, y].toArray, argTypes := [t, t].toArray }, type := tr, pos := pos, after := after, guard := .none } :: rest) N Z f w := by
  have h3 : (execOp (ev n f) { dst := some d, op := .call { callee := .builtin .append, args := [x, y].toArray, argTypes := [t, t].toArray }, type := tr, pos := pos, after := after, guard := .none }).run P w = ((Builtin.append_ #[t, t] tr #[ev n f x, ev n f y]).run P w).andThen (fun v w => .ok (.value v) w) := by
    simp [execOp, resolve, invoke, builtin]
  have hsome : (∃ a0, v2 = .slice a0 0 0 ∧ ys = [] ∧ a0 = none) ∨ ∃ a cap, v2 = .slice (some a) ys.length cap ∧ ∀ j u, (ys.flatMap G.e)[j]? = some u → w.cell? (a.add j) = some u := by
    rcases hv2.flat with ⟨a0, rfl, rfl⟩ | ⟨b, off, cap, hF, rfl, hc, hlt, hcell⟩
    · cases a0 with
      | none => exact .inl ⟨none, rfl, rfl, rfl⟩
      | some a => exact .inr ⟨a, 0, rfl, fun j u hu => by simp at hu⟩
    · exact .inr ⟨⟨b, off, none⟩, cap, rfl, fun j u hu => by rw [Addr.add_none]; exact hcell j u hu⟩
  rcases hsome with ⟨a0, rfl, rfl, rfl⟩ | ⟨a, cap, rfl, hcell⟩
  · refine O.val rfl rfl ?_ (h w (by simpa using ho) (Ext.refl _ _))
    rw [h3, hx, hy]
    simp [Builtin.append_, run_underlying ht, sizeOf, typeInfo, hi, Builtin.lenOf, Builtin.firstCells, storeCells]
  · refine O.val rfl rfl ?_ (h (w.setRow b (((ys ++ List.replicate (c - ys.length) zx).flatMap G.e).toArray)) (setRow_heap w b _ _ e _ ho) ⟨rfl, rfl, rfl, by simp, fun k _ hk => setRow_other w b k _ hk⟩)
    have hcur : ((List.replicate c zx).flatMap G.e).length = c * G.sz := by rw [G.length]; simp
    have hdrop : ((List.replicate c zx).flatMap G.e).drop (ys.length * G.sz) = (List.replicate (c - ys.length) zx).flatMap G.e := by
      have hsp : List.replicate c zx = List.replicate ys.length zx ++ List.replicate (c - ys.length) zx := by
        rw [List.replicate_append_replicate]; congr 1; omega
      rw [hsp, List.flatMap_append, List.drop_left' (by rw [G.length]; simp)]
    rw [h3, hx, hy, run_append_room (P := P) w t tr e i ht hi b 0 c _ ho a ys.length cap (ys.flatMap G.e) (by rw [hsz]; exact G.length ys) hcell (G.ones ys) (by omega) (by
      rw [G.length, Nat.zero_mul, Nat.zero_add, List.size_toArray, hcur]; exact Nat.mul_le_mul_right _ hc)]
    simp [G.length, hdrop, List.flatMap_append]
theorem cap_form : ∃ X : Sem Value, execOp (ev n f) { dst := some d, op := .call { callee := .builtin .cap, args := [x].toArray, argTypes := [t].toArray }, type := ty, pos := pos, after := after, guard := .none } = (do pure (.value (← X))) := by
  refine ⟨Builtin.cap_ #[t] ty #[ev n f x], ?_⟩
  simp [execOp, resolve, invoke, builtin]
/-- What was appended, as a slice; and the whole of the room. -/
theorem Own0.front {b c : Nat} {ys zs : List α} (h : Own0 w b e ((ys ++ zs).flatMap G.e)) (hc : ys.length + zs.length = c) (hm : c ≤ maxLen) : Sl G.enc w (fun k => k = b) (.slice (some ⟨b, 0, none⟩) ys.length c) ys :=
  Sl.of_own h.own (by rw [List.flatMap_append, ← G.length ys, List.take_left]) (by omega) hm (by rw [G.length, List.length_append, hc]; exact Nat.le_refl _)
theorem Own0.whole {b c : Nat} {ys zs : List α} (h : Own0 w b e ((ys ++ zs).flatMap G.e)) (hc : ys.length + zs.length = c) (hm : c ≤ maxLen) : Sl G.enc w (fun k => k = b) (.slice (some ⟨b, 0, none⟩) c c) (ys ++ zs) := by
  have hl : (ys ++ zs).length = c := by rw [List.length_append, hc]
  have := Sl.of_own (xs := ys ++ zs) (cap := c) h.own (by rw [← G.length, List.take_length]) (by omega) hm (by rw [G.length, hl]; exact Nat.le_refl _)
  rwa [hl] at this
/-- v[:k] of a slice that lies at a block's beginning, whatever its room. -/
theorem O.subC {s g m k cap : Nat} {kk : IntKind} {hi : Operand} (ht : P.underlying t = some (.slice e)) (hsz : ∀ w, (sizeOf e).run P w = .ok s w) (hx : ev n f x = .slice (some ⟨g, 0, none⟩) m cap) (hhi : ev n f hi = .int kk (k : Int)) (h1 : k ≤ cap)
    (h : O P n ops rest N Z (upd f d (.slice (some ⟨g, 0, none⟩) k cap)) w) :
    O P n ops ({ dst := some d, op := .slice t x .none (some hi) .none, type := tr, pos := pos, after := after, guard := .none } :: rest) N Z f w := by
  refine O.val rfl rfl ?_ h
  have h3 : execOp (ev n f) { dst := some d, op := .slice t x .none (some hi) .none, type := tr, pos := pos, after := after, guard := .none } = (do pure (.value (← Instr.sliceAt t (ev n f x) .none (some (ev n f hi)) .none))) := rfl
  have hbl : (Instr.sliceBound (.int kk (k : Int)) cap .sliceAcap).run P w = .ok k w := by
    have : (k : Int) ≤ cap := by omega
    simp [Instr.sliceBound, asIntOf, this]
  have h4 : (Instr.sliceAt t (.slice (some ⟨g, 0, none⟩) m cap) .none (some (.int kk (k : Int))) .none).run P w = .ok (.slice (some ⟨g, 0, none⟩) k cap) w := by
    unfold Instr.sliceAt
    rw [Sem.run_bind, run_underlying ht, Result.andThen_ok]
    simp only []
    unfold Instr.slice
    rw [Sem.run_bind, run_underlying ht, Result.andThen_ok]
    simp [Instr.sliceBounds, hsz, hbl, Addr.add_none]
  rw [h3, Sem.run_bind, hx, hhi, h4]
  rfl
end
end Go.Pn
