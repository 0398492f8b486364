/-
  One cell of an element of a slice: read; written in place. No condition.
-/
import Derived.Test.YtnkcmaoaagnopaaGreatDoorFw16
namespace Go.Pn
open Go.RowKit
theorem Flat.set1 {α : Type} (G : Flat α) {off : Nat} {z : α} {u : Value} : ∀ (xs : List α) (i : Nat) (h : i < xs.length), off < G.sz → G.e z = (G.e xs[i]).set off u → (xs.flatMap G.e).set (i * G.sz + off) u = (xs.set i z).flatMap G.e
  | [], i, h, _, _ => by simp at h
  | x :: xs, 0, h, ho, hz => by
    simp only [List.getElem_cons_zero] at hz
    rw [List.flatMap_cons, List.set_cons_zero, List.flatMap_cons, Nat.zero_mul, Nat.zero_add, List.set_append_left _ _ (by rw [G.len]; exact ho), hz]
  | x :: xs, i + 1, h, ho, hz => by
    simp only [List.getElem_cons_succ] at hz
    have ih := Flat.set1 G (off := off) (z := z) (u := u) xs i (by simpa using h) ho hz
    rw [List.flatMap_cons, List.set_cons_succ, List.flatMap_cons, List.set_append_right _ _ (by rw [G.len, Nat.add_mul]; omega), G.len, ← ih]
    congr 2
    rw [Nat.add_mul]
    omega
section
variable {α : Type} {G : Flat α} {ty : TypeId} {B : Nat} {w : World} {g cap : Nat} {xs : List α}
theorem OwnF.put1 {i off : Nat} {z : α} {u : Value} (h : OwnF G ty B w (.slice (some ⟨g, 0, none⟩) xs.length cap) xs) (hi : i < xs.length) (ho : off < G.sz) (hz : G.e z = (G.e xs[i]).set off u) :
    OwnF G ty B (w.setCell ⟨g, i * G.sz + off, none⟩ u) (.slice (some ⟨g, 0, none⟩) xs.length cap) (xs.set i z) := by
  obtain ⟨h0, hm⟩ := h
  refine ⟨⟨by rw [G.length], ?_⟩, by rw [List.length_set]; exact hm⟩
  rcases h0.2 with ⟨h1, _⟩ | ⟨g', cap', cur, h1, hb, hg, hn, hc, hsz, ht⟩
  · cases h1
  · have e1 : g = g' := by cases h1; rfl
    have e2 : cap = cap' := by cases h1; rfl
    subst e1; subst e2
    refine .inr ⟨g, cap, (cur.toList.set (i * G.sz + off) u).toArray, by rw [List.length_set], hb, ?_, by rw [List.length_set]; exact hn, hc, by simpa using hsz, ?_⟩
    · have h5 := heap_set w g (i * G.sz + off) u (cs := cur.toList) (ty := ty) (fr := (0, 0)) (by simpa using hg)
      exact h5
    · rw [List.length_set, ← G.set1 xs i hi ho hz, ← ht]
      simp only [List.take_set]
end
section
variable {P : Program} {n : Nat} {ops rest : List Oper} {N : Val → World → Prop} {Z : List PanicEntry → World → Prop} {f : Val} {w : World}
  {d : Nat} {x y : Operand} {t tr ty : TypeId} {pos : String} {after : Array Edge} {α : Type}
/-- A store of one cell of an element. -/
theorem O.storeC {G : Flat α} {B g cap i off k : Nat} {xs : List α} (z : α) {u : Value} (hk : k = i * G.sz + off) (hsz : ∀ w, (sizeOf t).run P w = .ok 1 w) (hx : ev n f x = .pointer (some ⟨g, k, none⟩)) (hy : ev n f y = u) (h1 : u.oneCell' = true)
    (ho : OwnF G ty B w (.slice (some ⟨g, 0, none⟩) xs.length cap) xs) (hi : i < xs.length) (hof : off < G.sz) (hz : G.e z = (G.e xs[i]).set off u)
    (h : ∀ w', OwnF G ty B w' (.slice (some ⟨g, 0, none⟩) xs.length cap) (xs.set i z) → Ext (fun k => k = g) w w' → w'.heap.size = w.heap.size → O P n ops rest N Z f w') :
    O P n ops ({ dst := .none, op := .store t x y, type := tr, pos := pos, after := after, guard := .none } :: rest) N Z f w := by
  subst hk
  obtain ⟨g', cap', cs, hv, hown, hcs, hn, _, hc3, _⟩ := ho.block (by omega)
  have e1 : g = g' := by cases hv; rfl
  have e2 : cap = cap' := by cases hv; rfl
  subst e1; subst e2
  refine O.act rfl rfl ?_ (h (w.setCell ⟨g, i * G.sz + off, none⟩ u) (ho.put1 hi hof hz) (Ext.set w ⟨g, i * G.sz + off, none⟩ u) (by simp))
  have h3 : execOp (ev n f) { dst := .none, op := .store t x y, type := tr, pos := pos, after := after, guard := .none } = (do Instr.storeAt t (ev n f x) (ev n f y); pure .skip) := rfl
  rw [h3, Sem.run_bind, hx, hy]
  have hcells : u.cells = #[u] := by cases u <;> first | rfl | simp [Value.oneCell'] at h1
  have hlt : i * G.sz + off < cs.length := by
    have q1 : (i + 1) * G.sz ≤ cap * G.sz := Nat.mul_le_mul_right _ (by omega)
    rw [Nat.add_mul] at q1
    omega
  have hc := hown.cell (i := i * G.sz + off) (v := cs[i * G.sz + off]) (by simp)
  have hf := hown.free hlt
  have h4 : (Instr.storeAt t (.pointer (some ⟨g, i * G.sz + off, none⟩)) u).run P w = .ok () (w.setCell ⟨g, i * G.sz + off, none⟩ u) := by
    simp [Instr.storeAt, Instr.sureAddr, storeVar, hsz, hcells, storeCells, Addr.add, run_store P w ⟨g, i * G.sz + off, none⟩ u .plain h1, hc, hf]
  rw [h4]
  rfl
theorem At.cellAt {E : Enc α} {w : World} {F : Nat → Prop} {a : Addr} {z : α} (ha : At E w F a z) : ∃ cs, E.rep w F cs z ∧ ∀ i v, cs[i]? = some v → w.cell? (a.add i) = some v := by
  obtain ⟨b, off, cur, ty, fr, rfl, hF, hb, hs, hr⟩ := ha
  refine ⟨_, hr, fun i v hv => ?_⟩
  rw [Addr.add_none]
  rw [List.getElem?_take] at hv
  split at hv
  · rw [List.getElem?_drop] at hv
    simp only [World.cell?, hb, Option.isSome_none, Bool.false_eq_true, if_false]
    simpa using hv
  · cases hv
/-- The address of a field of an element. -/
theorem O.fieldAt {fields : Array Field} {fd : Field} {k s : Nat} {a : Addr} (ht : P.underlying t = some (.struct fields)) (hf : fields[k]? = some fd) (hs : ∀ w, (sizeOf fd.type).run P w = .ok s w) (h0 : s ≠ 0) (hx : ev n f x = .pointer (some a))
    (h : O P n ops rest N Z (upd f d (.pointer (some (a.add fd.offset)))) w) : O P n ops ({ dst := some d, op := .fieldAddr t x k, type := tr, pos := pos, after := after, guard := .none } :: rest) N Z f w := by
  refine O.val rfl rfl ?_ h
  have h3 : execOp (ev n f) { dst := some d, op := .fieldAddr t x k, type := tr, pos := pos, after := after, guard := .none } = (do pure (.value (← Instr.fieldAt t (ev n f x) k))) := rfl
  rw [h3, Sem.run_bind, hx]
  have h4 : (Instr.fieldAt t (.pointer (some a)) k).run P w = .ok (.pointer (some (a.add fd.offset))) w := by
    unfold Instr.fieldAt
    rw [Sem.run_bind, run_underlying ht, Result.andThen_ok]
    simp [hf, Instr.sureAddr, fieldPlace, hs, h0]
  rw [h4]
  rfl
/-- A load of one cell of an element. -/
theorem O.loadAtC {E : Enc α} {F : Nat → Prop} {a : Addr} {z : α} {off : Nat} (hag : ∀ w, (isAgg t).run P w = .ok false w) (hoff : off < E.sz) (hx : ev n f x = .pointer (some (a.add off))) (ha : At E w F a z)
    (h : ∀ cs u, E.rep w F cs z → cs[off]? = some u → O P n ops rest N Z (upd f d u) w) :
    O P n ops ({ dst := some d, op := .load t x, type := tr, pos := pos, after := after, guard := .none } :: rest) N Z f w := by
  obtain ⟨cs, hr, hc⟩ := ha.cellAt
  have hl : off < cs.length := by rw [E.len hr]; exact hoff
  have hu := hc off cs[off] (by simp [hl])
  refine O.val rfl rfl ?_ (h cs cs[off] hr (by simp [hl]))
  have h3 : execOp (ev n f) { dst := some d, op := .load t x, type := tr, pos := pos, after := after, guard := .none } = (do pure (.value (← Instr.loadAt t (ev n f x)))) := rfl
  rw [h3, Sem.run_bind, hx]
  have h4 : (Instr.loadAt t (.pointer (some (a.add off)))).run P w = .ok cs[off] w := by
    simp [Instr.loadAt, Instr.sureAddr, loadVar, hag, hu]
  rw [h4]
  rfl
/-- The same where the element lies flat. -/
theorem O.loadAtF {G : Flat α} {F : Nat → Prop} {a : Addr} {z : α} {off : Nat} {u : Value} (hag : ∀ w, (isAgg t).run P w = .ok false w) (hu : (G.e z)[off]? = some u) (hx : ev n f x = .pointer (some (a.add off))) (ha : At G.enc w F a z)
    (h : O P n ops rest N Z (upd f d u) w) : O P n ops ({ dst := some d, op := .load t x, type := tr, pos := pos, after := after, guard := .none } :: rest) N Z f w := by
  have hoff : off < G.enc.sz := by
    have := (List.getElem?_eq_some_iff.1 hu).1
    rw [G.len] at this
    exact this
  refine O.loadAtC hag hoff hx ha fun cs u' hr hu' => ?_
  have e : cs = G.e z := hr
  subst e
  rw [hu] at hu'
  cases hu'
  exact h
/-- A load of one cell of an element of a slice of the call's own. -/
theorem O.loadC {G : Flat α} {B g cap i off k : Nat} {xs : List α} {u : Value} (hk : k = i * G.sz + off) (hag : ∀ w, (isAgg t).run P w = .ok false w) (hx : ev n f x = .pointer (some ⟨g, k, none⟩))
    (ho : OwnF G ty B w (.slice (some ⟨g, 0, none⟩) xs.length cap) xs) (hi : i < xs.length) (hu : (G.e xs[i])[off]? = some u)
    (h : O P n ops rest N Z (upd f d u) w) : O P n ops ({ dst := some d, op := .load t x, type := tr, pos := pos, after := after, guard := .none } :: rest) N Z f w := by
  subst hk
  have hof : off < G.sz := by
    have := (List.getElem?_eq_some_iff.1 hu).1
    rw [G.len] at this
    exact this
  obtain ⟨h0, hm⟩ := ho
  rcases h0.2 with ⟨h1, _⟩ | ⟨g', cap', cur, h1, hb, hg, hn, hc, hsz, ht⟩
  · cases h1
  · have e1 : g = g' := by cases h1; rfl
    subst e1
    have hseg := G.seg xs hi
    have hcell : w.cell? ⟨g, i * G.sz + off, none⟩ = some u := by
      have q : ((cur.toList.take (xs.length * G.sz)).drop (i * G.sz))[off]? = some u := by
        rw [← hseg, List.getElem?_take, if_pos hof] at hu
        rw [ht]
        exact hu
      rw [List.getElem?_drop, List.getElem?_take] at q
      split at q
      · simp only [World.cell?, hg, Option.isSome_none, Bool.false_eq_true, if_false]
        simpa using q
      · cases q
    refine O.val rfl rfl ?_ h
    have h3 : execOp (ev n f) { dst := some d, op := .load t x, type := tr, pos := pos, after := after, guard := .none } = (do pure (.value (← Instr.loadAt t (ev n f x)))) := rfl
    rw [h3, Sem.run_bind, hx]
    have h4 : (Instr.loadAt t (.pointer (some ⟨g, i * G.sz + off, none⟩))).run P w = .ok u w := by
      simp [Instr.loadAt, Instr.sureAddr, loadVar, hag, hcell]
    rw [h4]
    rfl
end
end Go.Pn
