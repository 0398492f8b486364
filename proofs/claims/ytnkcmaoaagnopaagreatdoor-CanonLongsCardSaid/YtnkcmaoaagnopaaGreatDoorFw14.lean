/-
  Structs written in place in a slice of the call's own; parts of it; clear. No condition.
-/
import Derived.Test.YtnkcmaoaagnopaaGreatDoorFw13
namespace Go.Pn
open Go.RowKit
theorem run_storeCells_own0 {P : Program} {b : Nat} {ty : TypeId} : ∀ (vs : List Value) (o i : Nat) (cs : List Value) (w : World), Own0 w b ty cs → o + i + vs.length ≤ cs.length → (∀ v ∈ vs, v.oneCell' = true) →
    ∃ w', (storeCells ⟨b, o, none⟩ vs i).run P w = .ok () w' ∧ Own0 w' b ty (cs.take (o + i) ++ vs ++ cs.drop (o + i + vs.length)) ∧ Ext (fun k => k = b) w w' ∧ w'.heap.size = w.heap.size := by
  intro vs
  induction vs with
  | nil =>
    intro o i cs w ho _ _
    exact ⟨w, rfl, by simpa using ho, Ext.refl _ _, rfl⟩
  | cons v vs ih =>
    intro o i cs w ho hl h1
    have hl' : o + i < cs.length := by simp at hl; omega
    have hv := h1 v (by simp)
    have hc := ho.own.cell (i := o + i) (v := cs[o + i]) (by simp)
    have hf := ho.own.free hl'
    have ho' := ho.set (o + i) v
    obtain ⟨w', hr, ho2, he, hs⟩ := ih o (i + 1) (cs.set (o + i) v) _ ho' (by simp at hl ⊢; omega) (fun u hu => h1 u (by simp [hu]))
    refine ⟨w', ?_, ?_, (Ext.set w ⟨b, o + i, none⟩ v).trans he, by rw [hs]; simp⟩
    · have e : storeCells ⟨b, o, none⟩ (v :: vs) i = (do store ((⟨b, o, none⟩ : Addr).add i) v; storeCells ⟨b, o, none⟩ vs (i + 1)) := rfl
      rw [e, Sem.run_bind, Addr.add_none]
      have hst : (store ⟨b, o + i, none⟩ v).run P w = .ok () (w.setCell ⟨b, o + i, none⟩ v) := by
        have := run_store P w ⟨b, o + i, none⟩ v .plain hv
        simpa [hc, hf] using this
      rw [hst, Result.andThen_ok, hr]
    · have e1 : (cs.set (o + i) v).take (o + (i + 1)) = cs.take (o + i) ++ [v] := by
        rw [show o + (i + 1) = o + i + 1 by omega, List.take_succ_eq_append_getElem (by simpa using hl')]
        rw [List.take_set, List.set_eq_of_length_le (by simp; omega)]
        simp
      have e2 : (cs.set (o + i) v).drop (o + (i + 1) + vs.length) = cs.drop (o + i + (vs.length + 1)) := by
        rw [List.drop_set_of_lt (by omega)]
        congr 1
        omega
      rw [e1, e2] at ho2
      simpa using ho2
section
variable {α : Type} {G : Flat α} {ty : TypeId} {B : Nat} {w : World} {g cap : Nat} {xs : List α}
theorem Flat.take (G : Flat α) (xs : List α) (i : Nat) : (xs.flatMap G.e).take (i * G.sz) = (xs.take i).flatMap G.e := by
  induction xs generalizing i with
  | nil => simp
  | cons x xs ih =>
    cases i with
    | zero => simp
    | succ i =>
      rw [List.flatMap_cons, List.take_succ_cons, List.flatMap_cons, ← ih i, Nat.add_mul, Nat.one_mul, Nat.add_comm]
      rw [show G.sz + i * G.sz = (G.e x).length + i * G.sz by rw [G.len], List.take_length_add_append]
theorem Flat.drop (G : Flat α) (xs : List α) (i : Nat) : (xs.flatMap G.e).drop (i * G.sz) = (xs.drop i).flatMap G.e := by
  induction xs generalizing i with
  | nil => simp
  | cons x xs ih =>
    cases i with
    | zero => simp
    | succ i =>
      rw [List.flatMap_cons, List.drop_succ_cons, ← ih i, Nat.add_mul, Nat.one_mul, Nat.add_comm]
      rw [show G.sz + i * G.sz = (G.e x).length + i * G.sz by rw [G.len], List.drop_length_add_append]
/-- Some elements of a slice of the call's own, stored in place. -/
theorem OwnF.puts (P : Program) (ys : List α) (i : Nat) (h : OwnF G ty B w (.slice (some ⟨g, 0, none⟩) xs.length cap) xs) (hi : i + ys.length ≤ xs.length) :
    ∃ w', (storeCells ⟨g, i * G.sz, none⟩ (ys.flatMap G.e) 0).run P w = .ok () w' ∧ OwnF G ty B w' (.slice (some ⟨g, 0, none⟩) xs.length cap) (xs.take i ++ ys ++ xs.drop (i + ys.length)) ∧ Ext (fun k => k = g) w w' ∧ w'.heap.size = w.heap.size := by
  obtain ⟨h0, hm⟩ := h
  rcases h0.2 with ⟨h1, _⟩ | ⟨g', cap', cur, h1, hb, hg, hn, hc, hsz, ht⟩
  · cases h1
  · have e1 : g = g' := by cases h1; rfl
    have e2 : cap = cap' := by cases h1; rfl
    subst e1; subst e2
    have hmul : (i + ys.length) * G.sz = i * G.sz + ys.length * G.sz := by rw [Nat.add_mul]
    have hle : i * G.sz + ys.length * G.sz ≤ xs.length * G.sz := by rw [← hmul]; exact Nat.mul_le_mul_right _ hi
    have hle2 : xs.length * G.sz ≤ cap * G.sz := Nat.mul_le_mul_right _ hn
    have h00 : Own0 w g ty cur.toList := by simpa [Own0] using hg
    obtain ⟨w', hr, ho, he, hs⟩ := run_storeCells_own0 (P := P) (ys.flatMap G.e) (i * G.sz) 0 cur.toList w h00 (by rw [G.length]; simp; omega) (G.ones ys)
    rw [Nat.add_zero, G.length] at ho
    have hlen : (xs.take i ++ ys ++ xs.drop (i + ys.length)).length = xs.length := by simp; omega
    refine ⟨w', hr, ⟨⟨by rw [G.length], .inr ⟨g, cap, (cur.toList.take (i * G.sz) ++ ys.flatMap G.e ++ cur.toList.drop (i * G.sz + ys.length * G.sz)).toArray, by rw [hlen], hb, ho, by rw [hlen]; exact hn, hc, ?_, ?_⟩⟩, by rw [hlen]; exact hm⟩, he, hs⟩
    · simp [G.length]
      omega
    · rw [hlen]
      simp only []
      have q1 : (cur.toList.take (i * G.sz)) = (xs.take i).flatMap G.e := by
        rw [← G.take, ← ht, List.take_take, Nat.min_eq_left (by omega)]
      have q2 : (cur.toList.drop (i * G.sz + ys.length * G.sz)).take (xs.length * G.sz - (i * G.sz + ys.length * G.sz)) = (xs.drop (i + ys.length)).flatMap G.e := by
        rw [← G.drop, ← ht, hmul, List.drop_take]
      have hAB : (cur.toList.take (i * G.sz) ++ ys.flatMap G.e).length = i * G.sz + ys.length * G.sz := by
        rw [List.length_append, List.length_take, G.length, Array.length_toList, Nat.min_eq_left (by omega)]
      rw [List.flatMap_append, List.flatMap_append, ← q1, ← q2, List.take_append, List.take_of_length_le (by rw [hAB]; exact hle), hAB]
end
section
variable {α : Type} {G : Flat α} {ty : TypeId} {B : Nat} {w : World} {g cap : Nat} {xs : List α}
theorem OwnF.le_cap (h : OwnF G ty B w (.slice (some ⟨g, 0, none⟩) xs.length cap) xs) : xs.length ≤ cap := by
  rcases h.1.2 with ⟨h1, _⟩ | ⟨g', cap', cur, h1, hb, hg, hn, _⟩
  · cases h1
  · have e2 : cap = cap' := by cases h1; rfl
    omega
/-- A part of it, read. -/
theorem OwnF.part (h : OwnF G ty B w (.slice (some ⟨g, 0, none⟩) xs.length cap) xs) {k : Nat} (hk : k ≤ xs.length) : Sl G.enc w (fun b => b = g) (.slice (some ⟨g, k * G.sz, none⟩) (xs.length - k) (cap - k)) (xs.drop k) := by
  obtain ⟨h0, hm⟩ := h
  rcases h0.2 with ⟨h1, _⟩ | ⟨g', cap', cur, h1, hb, hg, hn, hc, hsz, ht⟩
  · cases h1
  · have e1 : g = g' := by cases h1; rfl
    have e2 : cap = cap' := by cases h1; rfl
    subst e1; subst e2
    have hl : (xs.drop k).length = xs.length - k := by simp
    have hm1 : (cap - k) * G.sz = cap * G.sz - k * G.sz := by rw [Nat.sub_mul]
    have hm2 : k * G.sz ≤ cap * G.sz := Nat.mul_le_mul_right _ (by omega)
    rw [← hl]
    have h00 : Own w g ty cur.toList := ⟨(0, 0), by simpa using hg, .inl rfl⟩
    refine Own.part (G := G) (ty := ty) h00 ?_ (by rw [hl]; omega) (by omega) (by rw [hm1]; simp; omega)
    rw [hl, ← G.drop, ← ht, List.drop_take, Nat.sub_mul]
/-- The first ones of it, still the call's own. -/
theorem OwnF.first (h : OwnF G ty B w (.slice (some ⟨g, 0, none⟩) xs.length cap) xs) {k : Nat} (hk : k ≤ xs.length) : OwnF G ty B w (.slice (some ⟨g, 0, none⟩) k cap) (xs.take k) := by
  obtain ⟨h0, hm⟩ := h
  rcases h0.2 with ⟨h1, _⟩ | ⟨g', cap', cur, h1, hb, hg, hn, hc, hsz, ht⟩
  · cases h1
  · have e1 : g = g' := by cases h1; rfl
    have e2 : cap = cap' := by cases h1; rfl
    subst e1; subst e2
    have hl : (xs.take k).length = k := by simp; omega
    refine ⟨⟨by rw [G.length], .inr ⟨g, cap, cur, by rw [hl], hb, hg, by omega, hc, hsz, ?_⟩⟩, by omega⟩
    rw [hl, ← G.take, ← ht, List.take_take, Nat.min_eq_left (Nat.mul_le_mul_right _ hk)]
end
section
variable {P : Program} {n : Nat} {ops rest : List Oper} {N : Val → World → Prop} {Z : List PanicEntry → World → Prop} {f : Val} {w : World}
  {d : Nat} {x y : Operand} {t e ty tr : TypeId} {pos : String} {after : Array Edge} {α : Type} {G : Flat α} {B g cap : Nat} {xs : List α}
/-- A struct, stored in place. -/
theorem O.storeG {i : Nat} (z : α) (hsz : ∀ w, (sizeOf t).run P w = .ok G.sz w) (hx : ev n f x = .pointer (some ⟨g, i * G.sz, none⟩)) (hy : ev n f y = .agg (G.e z).toArray) (ho : OwnF G ty B w (.slice (some ⟨g, 0, none⟩) xs.length cap) xs) (hi : i < xs.length)
    (h : ∀ w', OwnF G ty B w' (.slice (some ⟨g, 0, none⟩) xs.length cap) (xs.set i z) → Ext (fun k => k = g) w w' → w'.heap.size = w.heap.size → O P n ops rest N Z f w') :
    O P n ops ({ dst := .none, op := .store t x y, type := tr, pos := pos, after := after, guard := .none } :: rest) N Z f w := by
  obtain ⟨w', hr, ho', he, hs⟩ := ho.puts P [z] i (by simp; omega)
  have hset : xs.take i ++ [z] ++ xs.drop (i + [z].length) = xs.set i z := by
    rw [List.set_eq_take_append_cons_drop, if_pos hi]
    simp
  rw [hset] at ho'
  refine O.act rfl rfl ?_ (h w' ho' he hs)
  have h3 : execOp (ev n f) { dst := .none, op := .store t x y, type := tr, pos := pos, after := after, guard := .none } = (do Instr.storeAt t (ev n f x) (ev n f y); pure .skip) := rfl
  rw [h3, Sem.run_bind, hx, hy]
  have hr2 : (storeCells ⟨g, i * G.sz, none⟩ (G.e z) 0).run P w = .ok () w' := by simpa using hr
  have h4 : (Instr.storeAt t (.pointer (some ⟨g, i * G.sz, none⟩)) (.agg (G.e z).toArray)).run P w = .ok () w' := by
    simp [Instr.storeAt, Instr.sureAddr, storeVar, hsz, Value.cells, G.len, hr2]
  rw [h4]
  rfl
/-- clear of what is behind. -/
theorem O.clearG {k : Nat} {z : Value} {zx : α} (hu : P.underlying t = some (.slice e)) (hz : ∀ w, (zeroValue e).run P w = .ok z w) (hzx : z.cells.toList = G.e zx) (hx : ev n f x = .slice (some ⟨g, k * G.sz, none⟩) (xs.length - k) (cap - k)) (ho : OwnF G ty B w (.slice (some ⟨g, 0, none⟩) xs.length cap) xs) (hk : k < xs.length)
    (h : ∀ w', OwnF G ty B w' (.slice (some ⟨g, 0, none⟩) xs.length cap) (xs.take k ++ List.replicate (xs.length - k) zx) → Ext (fun k => k = g) w w' → w'.heap.size = w.heap.size → O P n ops rest N Z f w') :
    O P n ops ({ dst := .none, op := .call { callee := .builtin .clear, args := [x].toArray, argTypes := [t].toArray }, type := tr, pos := pos, after := after, guard := .none } :: rest) N Z f w := by
  obtain ⟨w', hr, ho', he, hs⟩ := ho.puts P (List.replicate (xs.length - k) zx) k (by simp; omega)
  have hd : xs.drop (k + (List.replicate (xs.length - k) zx).length) = [] := List.drop_eq_nil_of_le (by simp; omega)
  rw [hd, List.append_nil] at ho'
  refine O.valN rfl rfl (v := .tuple #[]) ?_ (h w' ho' he hs)
  have hcells : (Builtin.zeroCells z.cells (xs.length - k)).toList = (List.replicate (xs.length - k) zx).flatMap G.e := by
    have hzsz : z.cells.size = G.sz := by rw [← Array.length_toList, hzx, G.len]
    apply List.ext_getElem?
    intro j
    by_cases hj : j < (xs.length - k) * G.sz
    · have hlt : j < ((List.replicate (xs.length - k) zx).flatMap G.e).length := by rw [G.length]; simpa using hj
      obtain ⟨hi, hu⟩ := G.get (List.replicate (xs.length - k) zx) (List.getElem?_eq_getElem hlt)
      rw [List.getElem?_eq_getElem hlt, ← hu]
      have hjm : j % G.sz < z.cells.size := by rw [hzsz]; exact Nat.mod_lt _ G.pos
      simp only [Builtin.zeroCells, Array.toList_map, Array.toList_range, List.getElem?_map]
      rw [hzsz, List.getElem?_range hj]
      simp only [Option.map_some, List.getElem_replicate]
      rw [getElem!_pos z.cells _ hjm, ← hzx, Array.getElem?_toList, Array.getElem?_eq_getElem hjm]
    · rw [List.getElem?_eq_none (by simp [Builtin.zeroCells, hzsz]; omega), List.getElem?_eq_none (by rw [G.length]; simp; omega)]
  have h4 : (Builtin.clear_ #[t] tr #[.slice (some ⟨g, k * G.sz, none⟩) (xs.length - k) (cap - k)]).run P w = .ok (.tuple #[]) w' := by
    have hne : xs.length - k ≠ 0 := by omega
    obtain ⟨m, hm⟩ : ∃ m, xs.length - k = m + 1 := ⟨xs.length - k - 1, by omega⟩
    rw [hm] at hcells hr ⊢
    unfold Builtin.clear_
    simp [run_underlying hu, hz, hcells, hr]
  have h3 : (execOp (ev n f) { dst := .none, op := .call { callee := .builtin .clear, args := [x].toArray, argTypes := [t].toArray }, type := tr, pos := pos, after := after, guard := .none }).run P w = ((Builtin.clear_ #[t] tr #[ev n f x]).run P w).andThen (fun v w => .ok (.value v) w) := by
    simp [execOp, resolve, invoke, builtin]
  rw [h3, hx, h4]
  rfl
/-- v[k:] of a slice of the call's own. -/
theorem O.subHi {s m k : Nat} {kk : IntKind} {lo : Operand} (ht : P.underlying t = some (.slice e)) (hsz : ∀ w, (sizeOf e).run P w = .ok s w) (hx : ev n f x = .slice (some ⟨g, 0, none⟩) m cap) (hlo : ev n f lo = .int kk (k : Int)) (h1 : k < m) (h2 : m ≤ cap)
    (h : O P n ops rest N Z (upd f d (.slice (some ⟨g, k * s, none⟩) (m - k) (cap - k))) w) :
    O P n ops ({ dst := some d, op := .slice t x (some lo) .none .none, type := tr, pos := pos, after := after, guard := .none } :: rest) N Z f w := by
  refine O.val rfl rfl ?_ h
  have h3 : execOp (ev n f) { dst := some d, op := .slice t x (some lo) .none .none, type := tr, pos := pos, after := after, guard := .none } = (do pure (.value (← Instr.sliceAt t (ev n f x) (some (ev n f lo)) .none .none))) := rfl
  have hbl : (Instr.sliceBound (.int kk (k : Int)) m .sliceB).run P w = .ok k w := by
    have : (k : Int) ≤ m := by omega
    simp [Instr.sliceBound, asIntOf, this]
  have h4 : (Instr.sliceAt t (.slice (some ⟨g, 0, none⟩) m cap) (some (.int kk (k : Int))) .none .none).run P w = .ok (.slice (some ⟨g, k * s, none⟩) (m - k) (cap - k)) w := by
    unfold Instr.sliceAt
    rw [Sem.run_bind, run_underlying ht, Result.andThen_ok]
    simp only []
    unfold Instr.slice
    rw [Sem.run_bind, run_underlying ht, Result.andThen_ok]
    have hne : ¬ cap = k := by omega
    simp [Instr.sliceBounds, hsz, hbl, hne, Addr.add_none]
  rw [h3, Sem.run_bind, hx, hlo, h4]
  rfl
/-- v[:k] of a slice of the call's own. -/
theorem O.subLo {s m k : Nat} {kk : IntKind} {hi : Operand} (ht : P.underlying t = some (.slice e)) (hsz : ∀ w, (sizeOf e).run P w = .ok s w) (hx : ev n f x = .slice (some ⟨g, 0, none⟩) m cap) (hhi : ev n f hi = .int kk (k : Int)) (h1 : k ≤ cap) (h2 : cap ≠ 0)
    (h : O P n ops rest N Z (upd f d (.slice (some ⟨g, 0, none⟩) k cap)) w) :
    O P n ops ({ dst := some d, op := .slice t x .none (some hi) .none, type := tr, pos := pos, after := after, guard := .none } :: rest) N Z f w := by
  refine O.val rfl rfl ?_ h
  have h3 : execOp (ev n f) { dst := some d, op := .slice t x .none (some hi) .none, type := tr, pos := pos, after := after, guard := .none } = (do pure (.value (← Instr.sliceAt t (ev n f x) .none (some (ev n f hi)) .none))) := rfl
  have hbl : (Instr.sliceBound (.int kk (k : Int)) cap .sliceAcap).run P w = .ok k w := by
    have : (k : Int) ≤ cap := by omega
    simp [Instr.sliceBound, asIntOf, this]
  have h4 : (Instr.sliceAt t (.slice (some ⟨g, 0, none⟩) m cap) .none (some (.int kk (k : Int))) .none).run P w = .ok (.slice (some ⟨g, 0, none⟩) k cap) w := by
    unfold Instr.sliceAt
    rw [Sem.run_bind, run_underlying ht, Result.andThen_ok]
    simp only []
    unfold Instr.slice
    rw [Sem.run_bind, run_underlying ht, Result.andThen_ok]
    simp [Instr.sliceBounds, hsz, hbl, h2, Addr.add_none]
  rw [h3, Sem.run_bind, hx, hhi, h4]
  rfl
end
section
variable {P : Program} {n : Nat} {ops rest : List Oper} {N : Val → World → Prop} {Z : List PanicEntry → World → Prop} {f : Val} {w : World}
  {d : Nat} {x y : Operand} {t t' tr : TypeId} {pos : String} {after : Array Edge}
theorem O.minI {a b : Int} (hx : ev n f x = i64 a) (hy : ev n f y = i64 b) (h : O P n ops rest N Z (upd f d (i64 (min a b))) w) :
    O P n ops ({ dst := some d, op := .call { callee := .builtin .min, args := [x, y].toArray, argTypes := [t, t'].toArray }, type := tr, pos := pos, after := after, guard := .none } :: rest) N Z f w := by
  refine O.val rfl rfl ?_ h
  have e : (if b < a then b else a) = min a b := by rw [Int.min_def]; split <;> split <;> omega
  have h3 : (execOp (ev n f) { dst := some d, op := .call { callee := .builtin .min, args := [x, y].toArray, argTypes := [t, t'].toArray }, type := tr, pos := pos, after := after, guard := .none }).run P w = ((Builtin.min_ #[t, t'] tr #[ev n f x, ev n f y]).run P w).andThen (fun v w => .ok (.value v) w) := by
    simp [execOp, resolve, invoke, builtin]
  rw [h3, hx, hy]
  have h4 : (Builtin.min_ #[t, t'] tr #[i64 a, i64 b]).run P w = .ok (i64 (min a b)) w := by
    simp [Builtin.min_, Builtin.min2, i64, e]
  rw [h4]
  rfl
end
theorem Outs.three {P : Program} {fn : Func} {n : Nat} {Post : Value → World → Prop} {f : Val} {w : World} {t u s : Nat} {v v' v'' : Value} (hr : fn.results = #[.tmp t, .tmp u, .tmp s]) (hv : ev n f (.tmp t) = v) (hv' : ev n f (.tmp u) = v') (hv'' : ev n f (.tmp s) = v'') (h : Post (.tuple #[v, v', v'']) w) : Outs P fn n Post f w :=
  ⟨_, by
    have e1 : (Fr n f).tmps.getD t undef = v := (getD_Fr n f t).trans hv
    have e2 : (Fr n f).tmps.getD u undef = v' := (getD_Fr n f u).trans hv'
    have e3 : (Fr n f).tmps.getD s undef = v'' := (getD_Fr n f s).trans hv''
    simp [results, hr, -Array.getD_eq_getD_getElem?, e1, e2, e3], h⟩
end Go.Pn
