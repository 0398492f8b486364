/-
  nil slices compared, literals of slices, elements written in place, structs. No condition.
-/
import Derived.Test.YtnkcmaoaagnopaaGreatDoorFw9
import Derived.Laws.Cells
import Derived.Laws.Tables
namespace Go.Pn
open Go.RowKit
/-- A slice that is nil? -/
def isNilS : Value → Bool
  | .slice none _ _ => true
  | _ => false
theorem isNilS_nil {α : Type} {E : Enc α} {w : World} {F : Nat → Prop} {v : Value} {xs : List α} (hv : Sl E w F v xs) (h : isNilS v = true) : xs = [] := by
  rcases hv.2 with ⟨a0, rfl, rfl⟩ | ⟨b, off, cap, cur, ty, fr, rfl, _⟩
  · rfl
  · cases h
section
variable {P : Program} {n : Nat} {ops rest : List Oper} {N : Val → World → Prop} {Z : List PanicEntry → World → Prop} {f : Val} {w : World}
  {d : Nat} {x : Operand} {t t' e tr : TypeId} {pos : String} {after : Array Edge} {α : Type} {E : Enc α} {F : Nat → Prop}
theorem run_eql_nilS {v : Value} {xs : List α} (ht : P.underlying t = some (.slice e)) (hv : Sl E w F v xs) : (binOp .eql t v (.slice none 0 0)).run P w = .ok (.bool (isNilS v)) w := by
  rcases hv.2 with ⟨a0, rfl, rfl⟩ | ⟨b, off, cap, cur, ty, fr, rfl, _⟩
  · have h2 : binOp .eql t (.slice a0 0 0) (.slice none 0 0) = (do pure (.bool (← Op.equal t (.slice a0 0 0) (.slice none 0 0)))) := rfl
    have h1 : (Op.equal t (.slice a0 0 0) (.slice none 0 0)).run P w = .ok (isNilS (.slice a0 0 0)) w := by
      unfold Op.equal Op.maxDepth
      rw [Op.equalIn, Sem.run_bind, run_underlying ht]
      cases a0 <;> rfl
    rw [h2, Sem.run_bind, h1]
    rfl
  · have h2 : binOp .eql t (.slice (some ⟨b, off, none⟩) xs.length cap) (.slice none 0 0) = (do pure (.bool (← Op.equal t (.slice (some ⟨b, off, none⟩) xs.length cap) (.slice none 0 0)))) := rfl
    have h1 : (Op.equal t (.slice (some ⟨b, off, none⟩) xs.length cap) (.slice none 0 0)).run P w = .ok false w := by
      unfold Op.equal Op.maxDepth
      rw [Op.equalIn, Sem.run_bind, run_underlying ht]
      rfl
    rw [h2, Sem.run_bind, h1]
    rfl
theorem eqGuard_sl {op : BinOp} {y : Operand} {v : Value} {a : Option Addr} {k c : Nat} {xs : List α} (hv : Sl E w F v xs) : (eqGuard op t x y v (.slice a k c)).run P w = .ok () w := by
  rcases hv.2 with ⟨a0, rfl, rfl⟩ | ⟨b, off, cap, cur, ty, fr, rfl, _⟩ <;> cases op <;> rfl
/-- A slice, compared with nil. -/
theorem O.eqlNilS {v : Value} {xs : List α} (ht : P.underlying t = some (.slice e)) (hx : ev n f x = v) (hv : Sl E w F v xs) (h : O P n ops rest N Z (upd f d (.bool (isNilS v))) w) :
    O P n ops ({ dst := some d, op := .binOp .eql t x (.const (.slice none 0 0)) t', type := tr, pos := pos, after := after, guard := .none } :: rest) N Z f w :=
  O.val rfl rfl (run_bin hx (y := .const (.slice none 0 0)) rfl (eqGuard_sl hv) (run_eql_nilS ht hv) _ _) h
end
theorem OwnF.lit0 {α : Type} {G : Flat α} {ty : TypeId} {B : Nat} {w : World} {b : Nat} (h : Own0 w b ty []) (hB : B ≤ b) : OwnF G ty B w (.slice (some ⟨b, 0, none⟩) 0 0) [] :=
  ⟨⟨by simp, .inr ⟨b, 0, #[], rfl, hB, h, by simp, by unfold maxLen; omega, by simp, by simp⟩⟩, by simp⟩
/-! literals of some elements of one cell each -/
theorem fill_seq : ∀ (vs : List Value) (k : Nat) (cells : Array Value), cells.size = k + vs.length → (∀ v ∈ vs, v.oneCell' = true) →
    Instr.fill (fun i => some (i * 1, 1)) cells ((List.range' k vs.length).zip vs) = some (cells.toList.take k ++ vs).toArray := by
  intro vs
  induction vs with
  | nil =>
    intro k cells h _
    have e : cells.toList.take k = cells.toList := List.take_of_length_le (by simp at h; simp; omega)
    simp [Instr.fill, e]
  | cons v vs ih =>
    intro k cells h h1
    have hv := h1 v (by simp)
    have hcells : v.cells = #[v] := by cases v <;> first | rfl | simp [Value.oneCell'] at hv
    rw [List.length_cons, List.range'_succ, List.zip_cons_cons]
    unfold Instr.fill
    simp only [hcells, Nat.mul_one]
    rw [if_neg (by simp at h ⊢; omega)]
    have e : (#[v].zipIdx.foldl (fun (cs : Array Value) (x : Value × Nat) => cs.setIfInBounds (k + x.2) x.1) cells) = cells.setIfInBounds k v := by simp
    have h2 := ih (k + 1) (cells.setIfInBounds k v) (by rw [Array.size_setIfInBounds, h, List.length_cons]; omega) (fun u hu => h1 u (by simp [hu]))
    simp only [Nat.mul_one] at h2
    rw [e, h2]
    have hk : k < cells.toList.length := by simp at h ⊢; omega
    have e2 : (cells.setIfInBounds k v).toList.take (k + 1) = cells.toList.take k ++ [v] := by
      rw [Array.toList_setIfInBounds, List.take_succ_eq_append_getElem (by simpa using hk)]
      have e3 : List.take k (cells.toList.set k v) = List.take k cells.toList := by
        rw [List.take_set, List.set_eq_of_length_le (by simp; omega)]
      rw [e3]
      simp
    rw [e2, List.append_assoc]
    rfl
section
variable {P : Program} {n : Nat} {ops rest : List Oper} {N : Val → World → Prop} {Z : List PanicEntry → World → Prop} {f : Val} {w : World}
  {d : Nat} {t e tr : TypeId} {pos : String} {after : Array Edge}
theorem O.litn {len : Nat} {parts : List (Nat × Operand)} {ie : TypeInfo} {z : Value} (vs : List Value) (hu : P.underlying t = some (.slice e)) (hie : P.info? e = some ie) (hsz : ie.size = 1) (hz : ie.zero = some z) (hl : vs.length = len) (hsmall : ¬ len > 2 ^ 24) (hpos : ¬ len = 0)
    (hvs : parts.map (fun x => (x.1, ev n f x.2)) = (List.range' 0 vs.length).zip vs) (h1 : ∀ v ∈ vs, v.oneCell' = true)
    (h : ∀ b w', w.heap.size ≤ b → Own0 w' b e vs → Le w w' → O P n ops rest N Z (upd f d (.slice (some ⟨b, 0, none⟩) len len)) w') :
    O P n ops ({ dst := some d, op := .buildSlice t len parts.toArray, type := tr, pos := pos, after := after, guard := .none } :: rest) N Z f w := by
  refine O.lit (cells := vs.toArray) hu hie hz (by rw [hsz, Nat.mul_one]; exact hsmall) (by rw [hsz, Nat.mul_one]; exact hpos) hvs ?_ (by simpa using h)
  rw [hsz, fill_seq vs 0 _ (by simp [hl]) h1]
  simp
end
section
variable {P : Program} {n : Nat} {ops rest : List Oper} {N : Val → World → Prop} {Z : List PanicEntry → World → Prop} {f : Val} {w : World}
  {d : Nat} {x : Operand} {t tr : TypeId} {pos : String} {after : Array Edge}
theorem O.negI {a : Int} (hx : ev n f x = i64 a) (ha : InI (-a)) (h : O P n ops rest N Z (upd f d (i64 (-a))) w) :
    O P n ops ({ dst := some d, op := .unOp .neg t x, type := tr, pos := pos, after := after, guard := .none } :: rest) N Z f w :=
  O.val rfl rfl (by
    have e : IntKind.i64.wrap (0 - a) = -a := by rw [Int.zero_sub]; exact wrap_in ha
    simp only [execOp, hx, i64, Op.unary, Op.intArith, e]
    rfl) h
end
/-! elements of a slice of the call's own, written in place -/
theorem OwnF.ptr {α : Type} {G : Flat α} {ty : TypeId} {B : Nat} {w : World} {v : Value} {xs : List α} (h : OwnF G ty B w v xs) (hne : 0 < xs.length) : ∃ g cap, v = .slice (some ⟨g, 0, none⟩) xs.length cap := by
  obtain ⟨g, cap, _, hv, _⟩ := h.block hne
  exact ⟨g, cap, hv⟩
theorem OwnF.set {α : Type} {G : Flat α} {ty : TypeId} {B : Nat} {w : World} {g cap i : Nat} {xs : List α} {x : α} {u : Value} (hG : ∀ x, (G.e x).length = 1) (hu : G.e x = [u]) (h : OwnF G ty B w (.slice (some ⟨g, 0, none⟩) xs.length cap) xs) (hi : i < xs.length) :
    OwnF G ty B (w.setCell ⟨g, i, none⟩ u) (.slice (some ⟨g, 0, none⟩) xs.length cap) (xs.set i x) := by
  obtain ⟨h0, hm⟩ := h
  refine ⟨⟨by rw [G.length], ?_⟩, by rw [List.length_set]; exact hm⟩
  rcases h0.2 with ⟨h1, _⟩ | ⟨g', cap', cur, h1, hb, hg, hn, hc, hsz, ht⟩
  · cases h1
  · have e1 : g = g' := by cases h1; rfl
    have e2 : cap = cap' := by cases h1; rfl
    subst e1; subst e2
    have hset : ∀ (ys : List α) (j : Nat), j < ys.length → (ys.set j x).flatMap G.e = (ys.flatMap G.e).set j u := by
      intro ys
      induction ys with
      | nil => intro j hj; simp at hj
      | cons y ys ih =>
        intro j hj
        obtain ⟨c, hc⟩ : ∃ c, G.e y = [c] := by
          have := hG y
          match hq : G.e y, this with
          | [c], _ => exact ⟨c, rfl⟩
        cases j with
        | zero => simp [hu, hc]
        | succ j => simp [hc, ih j (by simpa using hj)]
    refine .inr ⟨g, cap, (cur.toList.set i u).toArray, by rw [List.length_set], hb, ?_, by rw [List.length_set]; exact hn, hc, by simpa using hsz, ?_⟩
    · have h5 := heap_set w g i u (cs := cur.toList) (ty := ty) (fr := (0, 0)) (by simpa using hg)
      exact h5
    · rw [List.length_set, hset xs i hi, ← ht]
      simp only [List.take_set]
section
variable {P : Program} {n : Nat} {ops rest : List Oper} {N : Val → World → Prop} {Z : List PanicEntry → World → Prop} {f : Val} {w : World}
  {x y : Operand} {t tr : TypeId} {pos : String} {after : Array Edge}
theorem O.storeF {α : Type} {G : Flat α} {ty : TypeId} {B g cap i : Nat} {xs : List α} (z : α) {u : Value} (hsz : ∀ w, (sizeOf t).run P w = .ok 1 w) (hs : G.sz = 1) (hG : ∀ x, (G.e x).length = 1) (hu : G.e z = [u]) (hx : ev n f x = .pointer (some ⟨g, i, none⟩)) (hy : ev n f y = u)
    (ho : OwnF G ty B w (.slice (some ⟨g, 0, none⟩) xs.length cap) xs) (hi : i < xs.length)
    (h : ∀ w', OwnF G ty B w' (.slice (some ⟨g, 0, none⟩) xs.length cap) (xs.set i z) → Ext (fun k => k = g) w w' → w'.heap.size = w.heap.size → O P n ops rest N Z f w') :
    O P n ops ({ dst := .none, op := .store t x y, type := tr, pos := pos, after := after, guard := .none } :: rest) N Z f w := by
  have h1 : u.oneCell' = true := G.one z u (by rw [hu]; simp)
  obtain ⟨g', cap', cs, hv, hown, hcs, hn, _, hc3, _⟩ := ho.block (by omega)
  have e1 : g = g' := by cases hv; rfl
  have e2 : cap = cap' := by cases hv; rfl
  subst e1; subst e2
  refine O.act rfl rfl ?_ (h (w.setCell ⟨g, i, none⟩ u) (ho.set hG hu hi) (Ext.set w ⟨g, i, none⟩ u) (by simp))
  have h3 : execOp (ev n f) { dst := .none, op := .store t x y, type := tr, pos := pos, after := after, guard := .none } = (do Instr.storeAt t (ev n f x) (ev n f y); pure .skip) := rfl
  rw [h3, Sem.run_bind, hx, hy]
  have hcells : u.cells = #[u] := by cases u <;> first | rfl | simp [Value.oneCell'] at h1
  have hlt : i < cs.length := by rw [hs, Nat.mul_one] at hc3; omega
  have hc := hown.cell (i := i) (v := cs[i]) (by simp)
  have hf := hown.free hlt
  have h4 : (Instr.storeAt t (.pointer (some ⟨g, i, none⟩)) u).run P w = .ok () (w.setCell ⟨g, i, none⟩ u) := by
    simp [Instr.storeAt, Instr.sureAddr, storeVar, hsz, hcells, storeCells, Addr.add, run_store P w ⟨g, i, none⟩ u .plain h1, hc, hf]
  rw [h4]
  rfl
end
/-! structs -/
theorem oneCell_cells {v : Value} (h : v.oneCell' = true) : v.cells = #[v] := by cases v <;> first | rfl | simp [Value.oneCell'] at h
section
variable {P : Program} {n : Nat} {ops rest : List Oper} {N : Val → World → Prop} {Z : List PanicEntry → World → Prop} {f : Val} {w : World}
  {d : Nat} {x y : Operand} {t t' tr : TypeId} {pos : String} {after : Array Edge} {α : Type} {G : Flat α} {F : Nat → Prop}
/-- A field of one cell. -/
theorem O.field1 {fields : Array Field} {fd : Field} {k : Nat} {cs : Array Value} {v : Value} (ht : P.underlying t = some (.struct fields)) (hf : fields[k]? = some fd) (ha : ∀ w, (isAgg fd.type).run P w = .ok false w) (hx : ev n f x = .agg cs) (hv : cs[fd.offset]? = some v)
    (h : O P n ops rest N Z (upd f d v) w) : O P n ops ({ dst := some d, op := .field t x k, type := tr, pos := pos, after := after, guard := .none } :: rest) N Z f w := by
  refine O.val rfl rfl ?_ h
  have h3 : execOp (ev n f) { dst := some d, op := .field t x k, type := tr, pos := pos, after := after, guard := .none } = (do pure (.value (← Instr.field t (ev n f x) k))) := rfl
  rw [h3, Sem.run_bind, hx]
  have h4 : (Instr.field t (.agg cs) k).run P w = .ok v w := by
    unfold Instr.field
    rw [Sem.run_bind, run_underlying ht, Result.andThen_ok]
    simp [hf, asAgg, part, ha, hv]
  rw [h4]
  rfl
/-- A field of some cells. -/
theorem O.fieldA {fields : Array Field} {fd : Field} {k s : Nat} {cs : Array Value} (ht : P.underlying t = some (.struct fields)) (hf : fields[k]? = some fd) (ha : ∀ w, (isAgg fd.type).run P w = .ok true w) (hs : ∀ w, (sizeOf fd.type).run P w = .ok s w) (hx : ev n f x = .agg cs)
    (h : O P n ops rest N Z (upd f d (.agg (cs.extract fd.offset (fd.offset + s)))) w) : O P n ops ({ dst := some d, op := .field t x k, type := tr, pos := pos, after := after, guard := .none } :: rest) N Z f w := by
  refine O.val rfl rfl ?_ h
  have h3 : execOp (ev n f) { dst := some d, op := .field t x k, type := tr, pos := pos, after := after, guard := .none } = (do pure (.value (← Instr.field t (ev n f x) k))) := rfl
  rw [h3, Sem.run_bind, hx]
  have h4 : (Instr.field t (.agg cs) k).run P w = .ok (.agg (cs.extract fd.offset (fd.offset + s))) w := by
    unfold Instr.field
    rw [Sem.run_bind, run_underlying ht, Result.andThen_ok]
    simp [hf, asAgg, part, ha, hs]
  rw [h4]
  rfl
/-- The address of a field. -/
theorem O.fieldAd {fields : Array Field} {fd : Field} {k s b o : Nat} (ht : P.underlying t = some (.struct fields)) (hf : fields[k]? = some fd) (hs : ∀ w, (sizeOf fd.type).run P w = .ok s w) (h0 : s ≠ 0) (hx : ev n f x = .pointer (some ⟨b, o, none⟩))
    (h : O P n ops rest N Z (upd f d (.pointer (some ⟨b, o + fd.offset, none⟩))) w) : O P n ops ({ dst := some d, op := .fieldAddr t x k, type := tr, pos := pos, after := after, guard := .none } :: rest) N Z f w := by
  refine O.val rfl rfl ?_ h
  have h3 : execOp (ev n f) { dst := some d, op := .fieldAddr t x k, type := tr, pos := pos, after := after, guard := .none } = (do pure (.value (← Instr.fieldAt t (ev n f x) k))) := rfl
  rw [h3, Sem.run_bind, hx]
  have h4 : (Instr.fieldAt t (.pointer (some ⟨b, o, none⟩)) k).run P w = .ok (.pointer (some ⟨b, o + fd.offset, none⟩)) w := by
    unfold Instr.fieldAt
    rw [Sem.run_bind, run_underlying ht, Result.andThen_ok]
    simp [hf, Instr.sureAddr, fieldPlace, hs, h0, Addr.add_none]
  rw [h4]
  rfl
theorem run_load_flat {a : Addr} {z : α} (ha : At G.enc w F a z) : (loadCells a G.sz).run P w = .ok (G.e z).toArray w := by
  obtain ⟨b, off, cur, ty, fr, rfl, hF, hb, hs, hr⟩ := ha
  have hr' : (cur.toList.drop off).take G.sz = G.e z := hr
  rw [← G.len z]
  refine run_loadCells_list w ⟨b, off, none⟩ (G.e z) fun j v hj => ?_
  rw [Addr.add_none]
  rw [← hr', List.getElem?_take] at hj
  split at hj
  · rw [List.getElem?_drop] at hj
    simp only [World.cell?, hb, Option.isSome_none, Bool.false_eq_true, if_false]
    simpa using hj
  · cases hj
/-- A load of a struct that lies flat. -/
theorem O.loadG {a : Addr} {z : α} (hag : ∀ w, (isAgg t).run P w = .ok true w) (hs : ∀ w, (sizeOf t).run P w = .ok G.sz w) (hx : ev n f x = .pointer (some a)) (ha : At G.enc w F a z)
    (h : O P n ops rest N Z (upd f d (.agg (G.e z).toArray)) w) : O P n ops ({ dst := some d, op := .load t x, type := tr, pos := pos, after := after, guard := .none } :: rest) N Z f w := by
  refine O.val rfl rfl ?_ h
  have h3 : execOp (ev n f) { dst := some d, op := .load t x, type := tr, pos := pos, after := after, guard := .none } = (do pure (.value (← Instr.loadAt t (ev n f x)))) := rfl
  rw [h3, Sem.run_bind, hx]
  have h4 : (Instr.loadAt t (.pointer (some a))).run P w = .ok (.agg (G.e z).toArray) w := by
    simp [Instr.loadAt, Instr.sureAddr, loadVar, hag, hs, run_load_flat (P := P) ha]
  rw [h4]
  rfl
/-- A load of some cells of a block of the call's own. -/
theorem O.loadOA {b o s : Nat} {ty : TypeId} {cs : List Value} (hag : ∀ w, (isAgg t).run P w = .ok true w) (hs : ∀ w, (sizeOf t).run P w = .ok s w) (hx : ev n f x = .pointer (some ⟨b, o, none⟩)) (ho : Own w b ty cs) (hlt : o + s ≤ cs.length)
    (h : O P n ops rest N Z (upd f d (.agg ((cs.drop o).take s).toArray)) w) : O P n ops ({ dst := some d, op := .load t x, type := tr, pos := pos, after := after, guard := .none } :: rest) N Z f w := by
  refine O.val rfl rfl ?_ h
  have h3 : execOp (ev n f) { dst := some d, op := .load t x, type := tr, pos := pos, after := after, guard := .none } = (do pure (.value (← Instr.loadAt t (ev n f x)))) := rfl
  rw [h3, Sem.run_bind, hx]
  have hl : ((cs.drop o).take s).length = s := by simp; omega
  have hr : (loadCells ⟨b, o, none⟩ s).run P w = .ok ((cs.drop o).take s).toArray w := by
    have h5 := run_loadCells_list (P := P) w ⟨b, o, none⟩ ((cs.drop o).take s) fun j v hj => by
      rw [Addr.add_none]
      rw [List.getElem?_take] at hj
      split at hj
      · rw [List.getElem?_drop] at hj; exact ho.cell hj
      · cases hj
    rwa [hl] at h5
  have h4 : (Instr.loadAt t (.pointer (some ⟨b, o, none⟩))).run P w = .ok (.agg ((cs.drop o).take s).toArray) w := by
    simp [Instr.loadAt, Instr.sureAddr, loadVar, hag, hs, hr]
  rw [h4]
  rfl
/-- A struct literal. -/
theorem O.build {parts : List (Nat × Operand)} {vs : List (Nat × Value)} {cells : Array Value} (hvs : parts.map (fun x => (x.1, ev n f x.2)) = vs) (hb : P.built t vs = some cells) (h : O P n ops rest N Z (upd f d (.agg cells)) w) :
    O P n ops ({ dst := some d, op := .build t parts.toArray, type := tr, pos := pos, after := after, guard := .none } :: rest) N Z f w := by
  refine O.val rfl rfl ?_ h
  have h3 : execOp (ev n f) { dst := some d, op := .build t parts.toArray, type := tr, pos := pos, after := after, guard := .none } = (do pure (.value (← Instr.build t (parts.toArray.map fun x => (x.1, ev n f x.2))))) := rfl
  rw [h3, Sem.run_bind, run_build w t _ cells (by simpa [hvs] using hb)]
  rfl
end
/-! stores of some cells -/
theorem run_storeCells_own {P : Program} {b : Nat} {ty : TypeId} : ∀ (vs : List Value) (o i : Nat) (cs : List Value) (w : World), Own w b ty cs → o + i + vs.length ≤ cs.length → (∀ v ∈ vs, v.oneCell' = true) →
    ∃ w', (storeCells ⟨b, o, none⟩ vs i).run P w = .ok () w' ∧ Own w' b ty (cs.take (o + i) ++ vs ++ cs.drop (o + i + vs.length)) ∧ Ext (fun k => k = b) w w' ∧ w'.heap.size = w.heap.size := by
  intro vs
  induction vs with
  | nil =>
    intro o i cs w ho _ _
    exact ⟨w, rfl, by simpa using ho, Ext.refl _ _, rfl⟩
  | cons v vs ih =>
    intro o i cs w ho hl h1
    have hl' : o + i < cs.length := by simp at hl; omega
    have hv := h1 v (by simp)
    have hc := ho.cell (i := o + i) (v := cs[o + i]) (by simp)
    have hf := ho.free hl'
    have ho' := ho.set (o + i) v
    obtain ⟨w', hr, ho2, he, hs⟩ := ih o (i + 1) (cs.set (o + i) v) _ ho' (by simp at hl ⊢; omega) (fun u hu => h1 u (by simp [hu]))
    refine ⟨w', ?_, ?_, (Ext.set w ⟨b, o + i, none⟩ v).trans he, by rw [hs]; simp⟩
    · have e : storeCells ⟨b, o, none⟩ (v :: vs) i = (do store ((⟨b, o, none⟩ : Addr).add i) v; storeCells ⟨b, o, none⟩ vs (i + 1)) := rfl
      rw [e, Sem.run_bind, Addr.add_none]
      have hst : (store ⟨b, o + i, none⟩ v).run P w = .ok () (w.setCell ⟨b, o + i, none⟩ v) := by
        have := run_store P w ⟨b, o + i, none⟩ v .plain hv
        simpa [hc, hf] using this
      rw [hst, Result.andThen_ok, hr]
    · have e1 : (cs.set (o + i) v).take (o + (i + 1)) = cs.take (o + i) ++ [v] := by
        rw [show o + (i + 1) = o + i + 1 by omega, List.take_succ_eq_append_getElem (by simpa using hl')]
        rw [List.take_set, List.set_eq_of_length_le (by simp; omega)]
        simp
      have e2 : (cs.set (o + i) v).drop (o + (i + 1) + vs.length) = cs.drop (o + i + (vs.length + 1)) := by
        rw [List.drop_set_of_lt (by omega)]
        congr 1
        omega
      rw [e1, e2] at ho2
      simpa using ho2
section
variable {P : Program} {n : Nat} {ops rest : List Oper} {N : Val → World → Prop} {Z : List PanicEntry → World → Prop} {f : Val} {w : World}
  {x y : Operand} {t ty tr : TypeId} {pos : String} {after : Array Edge}
/-- A store of a struct into a block of the call's own. -/
theorem O.storeA {b o s : Nat} {cs vs : List Value} (hsz : ∀ w, (sizeOf t).run P w = .ok s w) (hl : vs.length = s) (hx : ev n f x = .pointer (some ⟨b, o, none⟩)) (hy : ev n f y = .agg vs.toArray) (h1 : ∀ v ∈ vs, v.oneCell' = true) (ho : Own w b ty cs) (hlt : o + s ≤ cs.length)
    (h : ∀ w', Own w' b ty (cs.take o ++ vs ++ cs.drop (o + s)) → Ext (fun k => k = b) w w' → w'.heap.size = w.heap.size → O P n ops rest N Z f w') :
    O P n ops ({ dst := .none, op := .store t x y, type := tr, pos := pos, after := after, guard := .none } :: rest) N Z f w := by
  subst hl
  obtain ⟨w', hr, ho', he, hs⟩ := run_storeCells_own (P := P) vs o 0 cs w ho (by simpa using hlt) h1
  refine O.act rfl rfl ?_ (h w' (by simpa using ho') he hs)
  have h3 : execOp (ev n f) { dst := .none, op := .store t x y, type := tr, pos := pos, after := after, guard := .none } = (do Instr.storeAt t (ev n f x) (ev n f y); pure .skip) := rfl
  rw [h3, Sem.run_bind, hx, hy]
  have h4 : (Instr.storeAt t (.pointer (some ⟨b, o, none⟩)) (.agg vs.toArray)).run P w = .ok () w' := by
    simp [Instr.storeAt, Instr.sureAddr, storeVar, hsz, Value.cells, hr]
  rw [h4]
  rfl
end
end Go.Pn
