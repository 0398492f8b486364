/-
  Where an appended row lies; items and their marks in memory; marks compared. No condition beyond what each rule asks.
-/
import Derived.Test.YtnkcmaoaagnopaaGreatDoorFw18
namespace Go.Pn
open Go.RowKit
section
variable {α : Type} {G : Flat α} {w w' : World} {F : Nat → Prop} {v v' y : Value} {xs ys : List α} {B : Nat} {ty : TypeId}
/-- An appended row lies where it lay, or in a new block. -/
theorem append_where {P : Program} {t tr : TypeId} {i : TypeInfo} {z : Value} (ht : P.underlying t = some (.slice ty)) (hi : P.info? ty = some i) (hz : i.zero = some z) (hsz : i.size = G.sz)
    (hown : OwnF G ty B w v xs) (hy : Sl G.enc w F y ys) (hb : (xs.length + ys.length) * i.bytes ≤ 140737488355328) (hl : xs.length + ys.length ≤ maxLen)
    (hr : (Builtin.append_ #[t, t] tr #[v, y]).run P w = .ok v' w') : ∀ k, bk v' k → bk v k ∨ w.heap.size ≤ k := by
  have h63 : xs.length + ys.length ≤ 9223372036854775807 := by unfold maxLen at hl; omega
  have hsome : (∃ a0, y = .slice a0 0 0 ∧ ys = [] ∧ a0 = none) ∨ ∃ a cap, y = .slice (some a) ys.length cap ∧ ∀ j u, (ys.flatMap G.e)[j]? = some u → w.cell? (a.add j) = some u := by
    rcases hy.flat with ⟨a0, rfl, rfl⟩ | ⟨b, off, cap, hF, rfl, hc, hlt, hcell⟩
    · cases a0 with
      | none => exact .inl ⟨none, rfl, rfl, rfl⟩
      | some a => exact .inr ⟨a, 0, rfl, fun j u hu => by simp at hu⟩
    · exact .inr ⟨⟨b, off, none⟩, cap, rfl, fun j u hu => by rw [Addr.add_none]; exact hcell j u hu⟩
  rcases hsome with ⟨a0, rfl, rfl, rfl⟩ | ⟨a, cap, rfl, hcell⟩
  · rw [run_append_owned_none (P := P) (w := w) B t tr ty i G.sz ht hi v xs.length _ hown.1] at hr
    cases hr
    exact fun k h => .inl h
  · rcases hown.1.2 with ⟨rfl, h0⟩ | ⟨g, cap', cur, rfl, hbg, hg, hnc, hcm, hcs, htake⟩
    · have hx : xs = [] := List.eq_nil_of_length_eq_zero h0
      subst hx
      by_cases hm : ys.length = 0
      · have hr2 : (Builtin.append_ #[t, t] tr #[.slice none 0 0, .slice (some a) ys.length cap]).run P w = .ok (.slice none 0 0) w := by
          simp [Builtin.append_, run_underlying ht, sizeOf, typeInfo, hi, Builtin.lenOf, Builtin.firstCells, loadCells, loadCellsFrom, hm]
        rw [hr2] at hr
        cases hr
        exact fun k h => h.elim
      · rw [run_append_nil (P := P) w t tr ty i z ht hi hz a ys.length cap (ys.flatMap G.e) (by rw [hsz]; exact G.length ys) hcell (by omega) (by omega) (by simp only [List.length_nil, Nat.zero_add] at hb; omega)] at hr
        cases hr
        intro k hk
        have hk : k = w.heap.size := hk
        exact .inr (by omega)
    · by_cases hroom : xs.length + ys.length ≤ cap'
      · have hfit : xs.length * i.size + (ys.flatMap G.e).length ≤ cur.size := by rw [G.length, hcs, hsz, ← Nat.add_mul]; exact Nat.mul_le_mul_right _ hroom
        rw [run_append_room (P := P) w t tr ty i ht hi g xs.length cap' cur hg a ys.length cap (ys.flatMap G.e) (by rw [hsz]; exact G.length ys) hcell (G.ones ys) hroom hfit] at hr
        cases hr
        exact fun k h => .inl h
      · have holds : ∀ j u, (xs.flatMap G.e)[j]? = some u → w.cell? ((⟨g, 0, none⟩ : Addr).add j) = some u := hown.1.cells (g := g) rfl
        rw [run_append_grow (P := P) w t tr ty i z ht hi hz ⟨g, 0, none⟩ xs.length cap' (xs.flatMap G.e) (by rw [hsz]; exact G.length xs) holds a ys.length cap (ys.flatMap G.e) (by rw [hsz]; exact G.length ys) hcell (by omega) (by omega) (growslice_fits (by omega) hb)] at hr
        cases hr
        intro k hk
        have hk : k = w.heap.size := hk
        exact .inr (by omega)
end
section
variable {P : Program} {n : Nat} {ops rest : List Oper} {N : Val → World → Prop} {Z : List PanicEntry → World → Prop} {f : Val} {w : World}
  {d : Nat} {x y : Operand} {t t' ty tr e : TypeId} {pos : String} {after : Array Edge} {α : Type} {G : Flat α} {F : Nat → Prop}
/-- append, onto a slice of the call's own: and where it lies. -/
theorem O.appW {i : TypeInfo} {z v v2 : Value} {xs ys : List α} {B : Nat} (ht : P.underlying t = some (.slice e)) (hi : P.info? e = some i) (hz : i.zero = some z) (hsz : i.size = G.sz) (hzs : z.cells.size = G.sz)
    (hx : ev n f x = v) (hy : ev n f y = v2) (hown : OwnF G e B w v xs) (hv2 : Sl G.enc w F v2 ys) (hb : (xs.length + ys.length) * i.bytes ≤ 140737488355328) (hl : xs.length + ys.length ≤ maxLen) (hB : B ≤ w.heap.size)
    (h : ∀ v' w', OwnF G e B w' v' (xs ++ ys) → Ext (bk v) w w' → (∀ k, bk v' k → bk v k ∨ w.heap.size ≤ k) → O P n ops rest N Z (upd f d v') w') :
    O P n ops ({ dst := some d, op := .call { callee := .builtin .append, args := [x, y].toArray, argTypes := [t, t].toArray }, type := tr, pos := pos, after := after, guard := .none } :: rest) N Z f w := by
  obtain ⟨v', w', hr, ho, he⟩ := run_append_flat (P := P) (tr := tr) ht hi hz hsz hzs hown hv2 hb hl hB
  refine O.val rfl rfl ?_ (h v' w' ho he (append_where ht hi hz hsz hown hv2 hb hl hr))
  have h3 : (execOp (ev n f) { dst := some d, op := .call { callee := .builtin .append, args := [x, y].toArray, argTypes := [t, t].toArray }, type := tr, pos := pos, after := after, guard := .none }).run P w = ((Builtin.append_ #[t, t] tr #[ev n f x, ev n f y]).run P w).andThen (fun v w => .ok (.value v) w) := by
    simp [execOp, resolve, invoke, builtin]
  rw [h3, hx, hy, hr]
  rfl
end
/-! marks, items -/
abbrev MarkT := (Int × Int) × Int × BitVec 64
abbrev ItemT := List UInt8 × List MarkT
def markF : Flat MarkT := ⟨4, fun m => [.int .i64 m.1.1, .int .i64 m.1.2, .int .i64 m.2.1, .int .u64 (m.2.2.toNat : Int)], fun _ => rfl, by simp [Value.oneCell'], by decide⟩
def mv (m : MarkT) : Value := .agg #[.int .i64 m.1.1, .int .i64 m.1.2, .int .i64 m.2.1, .int .u64 (m.2.2.toNat : Int)]
/-- An item: its name, and where its marks lie. -/
def itemE : Enc ItemT where
  sz := 2
  rep := fun w F cs x => ∃ v, cs = [str x.1, v] ∧ Sl markF.enc w F v x.2
  len := by rintro w F cs x ⟨v, rfl, _⟩; rfl
  one := by
    rintro w F cs x ⟨v, rfl, h⟩ c hc
    obtain ⟨l, cap, rfl, _⟩ := h.val
    simp only [List.mem_cons, List.not_mem_nil, or_false] at hc
    rcases hc with rfl | rfl <;> rfl
  ext := by rintro w w' F cs x ⟨v, rfl, h⟩ hw; exact ⟨v, rfl, h.ext hw⟩
  weak := by rintro w F F' cs x ⟨v, rfl, h⟩ hF; exact ⟨v, rfl, h.weak hF⟩
/-- A slice's value. -/
def slv (x : Option Addr × Nat × Nat) : Value := .slice x.1 x.2.1 x.2.2
/-- An item's cells: its name, and the value of its marks. -/
def itemF : Flat (List UInt8 × (Option Addr × Nat × Nat)) := ⟨2, fun x => [str x.1, slv x.2], fun _ => rfl, by simp [Value.oneCell', str, slv], by decide⟩
/-- The items whose cells are these. -/
def Items (w : World) (F : Nat → Prop) (raw : List (List UInt8 × (Option Addr × Nat × Nat))) (xs : List ItemT) : Prop :=
  raw.length = xs.length ∧ ∀ i, ∀ h : i < raw.length, ∀ h' : i < xs.length, raw[i].1 = xs[i].1 ∧ Sl markF.enc w F (slv raw[i].2) xs[i].2
theorem Items.nil {w : World} {F : Nat → Prop} : Items w F [] [] := ⟨rfl, fun i h => by simp at h⟩
theorem Items.keepM {M : Nat → Prop} {w w' : World} {F : Nat → Prop} {raw : List (List UInt8 × (Option Addr × Nat × Nat))} {xs : List ItemT} (h : Items w F raw xs) (e : Ext M w w') (hM : ∀ k, F k → ¬ M k) : Items w' F raw xs :=
  ⟨h.1, fun i h1 h2 => ⟨(h.2 i h1 h2).1, (h.2 i h1 h2).2.keepM e hM⟩⟩
theorem Items.keep {w w' : World} {F : Nat → Prop} {raw : List (List UInt8 × (Option Addr × Nat × Nat))} {xs : List ItemT} (h : Items w F raw xs) (e : Le w w') : Items w' F raw xs := h.keepM e fun _ _ => not_false
theorem Items.weak {w : World} {F F' : Nat → Prop} {raw : List (List UInt8 × (Option Addr × Nat × Nat))} {xs : List ItemT} (h : Items w F raw xs) (hF : ∀ k, F k → F' k) : Items w F' raw xs :=
  ⟨h.1, fun i h1 h2 => ⟨(h.2 i h1 h2).1, (h.2 i h1 h2).2.weak hF⟩⟩
theorem Items.snoc {w : World} {F : Nat → Prop} {raw : List (List UInt8 × (Option Addr × Nat × Nat))} {xs : List ItemT} {a : List UInt8 × (Option Addr × Nat × Nat)} {x : ItemT} (h : Items w F raw xs) (hn : a.1 = x.1) (hm : Sl markF.enc w F (slv a.2) x.2) : Items w F (raw ++ [a]) (xs ++ [x]) := by
  refine ⟨by simp [h.1], fun i h1 h2 => ?_⟩
  have hl := h.1
  simp only [List.length_append, List.length_cons, List.length_nil] at h1
  by_cases hi : i < raw.length
  · rw [List.getElem_append_left hi, List.getElem_append_left (by omega)]
    exact h.2 i hi (by omega)
  · have e1 : i = raw.length := by omega
    subst e1
    rw [List.getElem_append_right (by omega), List.getElem_append_right (by omega)]
    simp only [Nat.sub_self, hl, List.getElem_cons_zero]
    exact ⟨hn, hm⟩
/-- A slice of cells of items is one of items. -/
theorem Items.sl {w : World} {F : Nat → Prop} {v : Value} {raw : List (List UInt8 × (Option Addr × Nat × Nat))} {xs : List ItemT} (h : Items w F raw xs) (hv : Sl itemF.enc w F v raw) : Sl itemE w F v xs := by
  have hl := h.1
  refine ⟨by rw [← hl]; exact hv.1, ?_⟩
  rcases hv.2 with ⟨a, rfl, rfl⟩ | ⟨b, off, cap, cur, ty, fr, rfl, hF, hb, h1, h2, h3, hr⟩
  · exact .inl ⟨a, rfl, List.eq_nil_of_length_eq_zero (by rw [← hl]; rfl)⟩
  · refine .inr ⟨b, off, cap, cur, ty, fr, by rw [hl], hF, hb, by omega, h2, by rw [← hl]; exact h3, fun i hi => ?_⟩
    have h4 : (cur.toList.drop (off + i * 2)).take 2 = itemF.e (raw[i]'(by omega)) := hr i (by omega)
    obtain ⟨h5, h6⟩ := h.2 i (by omega) hi
    refine ⟨_, ?_, h6⟩
    show (cur.toList.drop (off + i * 2)).take 2 = _
    rw [h4, ← h5]
    rfl
theorem Sl.slv {α : Type} {E : Enc α} {w : World} {F : Nat → Prop} {v : Value} {xs : List α} (h : Sl E w F v xs) : ∃ a, v = Go.Pn.slv a := by
  obtain ⟨l, cap, rfl, _⟩ := h.val
  exact ⟨(l, xs.length, cap), rfl⟩
theorem Sl.oneC {α : Type} {E : Enc α} {w : World} {F : Nat → Prop} {v : Value} {xs : List α} (h : Sl E w F v xs) : v.oneCell' = true := by
  obtain ⟨l, cap, rfl, _⟩ := h.val
  rfl
section
variable {P : Program} {n : Nat} {ops rest : List Oper} {N : Val → World → Prop} {Z : List PanicEntry → World → Prop} {f : Val} {w : World}
  {d : Nat} {x : Operand} {t tr : TypeId} {pos : String} {after : Array Edge}
/-- A load of an item's name, of its marks. -/
theorem O.loadName {F : Nat → Prop} {a : Addr} {z : ItemT} (hag : ∀ w, (isAgg t).run P w = .ok false w) (hx : ev n f x = .pointer (some (a.add 0))) (ha : At itemE w F a z)
    (h : O P n ops rest N Z (upd f d (str z.1)) w) : O P n ops ({ dst := some d, op := .load t x, type := tr, pos := pos, after := after, guard := .none } :: rest) N Z f w :=
  O.loadAtC hag (by decide) hx ha fun cs u hr hu => by
    obtain ⟨v, rfl, _⟩ := hr
    cases hu
    exact h
theorem O.loadMarks {F : Nat → Prop} {a : Addr} {z : ItemT} (hag : ∀ w, (isAgg t).run P w = .ok false w) (hx : ev n f x = .pointer (some (a.add 1))) (ha : At itemE w F a z)
    (h : ∀ v, Sl markF.enc w F v z.2 → O P n ops rest N Z (upd f d v) w) : O P n ops ({ dst := some d, op := .load t x, type := tr, pos := pos, after := after, guard := .none } :: rest) N Z f w :=
  O.loadAtC hag (by decide) hx ha fun cs u hr hu => by
    obtain ⟨v, rfl, hm⟩ := hr
    cases hu
    exact h _ hm
end
theorem ones2 {n : List UInt8} {v : Value} (h : v.oneCell' = true) : ∀ u ∈ [str n, v], u.oneCell' = true := by
  intro u hu
  simp only [List.mem_cons, List.not_mem_nil, or_false] at hu
  rcases hu with rfl | rfl
  · rfl
  · exact h
/-! marks compared -/
section
variable {P : Program} {n : Nat} {ops rest : List Oper} {N : Val → World → Prop} {Z : List PanicEntry → World → Prop} {f : Val} {w : World}
  {d : Nat} {x y : Operand} {t t' tr : TypeId} {pos : String} {after : Array Edge}
theorem run_eq_mark {m0 m1 m2 f0 f1 : Field} (ht : P.underlying t = some (.struct #[m0, m1, m2])) (q0 : m0.name ≠ "_") (q1 : m1.name ≠ "_") (q2 : m2.name ≠ "_") (p0 : m0.offset = 0) (p1 : m1.offset = 2) (p2 : m2.offset = 3)
    (htd : P.underlying m0.type = some (.struct #[f0, f1])) (n0 : f0.name ≠ "_") (n1 : f1.name ≠ "_") (o0 : f0.offset = 0) (o1 : f1.offset = 1) (u0 : P.underlying f0.type = some (.int .i64)) (u1 : P.underlying f1.type = some (.int .i64))
    (v1 : P.underlying m1.type = some (.int .i64)) (v2 : P.underlying m2.type = some (.int .u64))
    (a0 : ∀ w, (isAgg f0.type).run P w = .ok false w) (a1 : ∀ w, (isAgg f1.type).run P w = .ok false w) (b0 : ∀ w, (isAgg m0.type).run P w = .ok true w) (s0 : ∀ w, (sizeOf m0.type).run P w = .ok 2 w) (b1 : ∀ w, (isAgg m1.type).run P w = .ok false w) (b2 : ∀ w, (isAgg m2.type).run P w = .ok false w)
    (hp : P.stoodInHeld t = false) (hp0 : P.stoodInHeld m0.type = false) (a b : MarkT) : (Op.equal t (mv a) (mv b)).run P w = .ok (decide (a = b)) w := by
  have hf : P.fieldsOf t = #[m0, m1, m2] := by unfold Program.fieldsOf; rw [ht]
  have hfd : P.fieldsOf m0.type = #[f0, f1] := by unfold Program.fieldsOf; rw [htd]
  unfold Op.equal Op.maxDepth mv
  rw [run_equalIn_struct w 9999 t _ _ (by rw [hf]; exact ht) hp, hf]
  have e0 : ∀ u v w, (Op.equalIn 9998 f0.type (.int .i64 u) (.int .i64 v)).run P w = .ok (u == v) w := fun u v w => run_equalIn_int w 9997 f0.type .i64 .i64 u v u0
  have e1 : ∀ u v w, (Op.equalIn 9998 f1.type (.int .i64 u) (.int .i64 v)).run P w = .ok (u == v) w := fun u v w => run_equalIn_int w 9997 f1.type .i64 .i64 u v u1
  have e2 : ∀ u v w, (Op.equalIn 9999 m1.type (.int .i64 u) (.int .i64 v)).run P w = .ok (u == v) w := fun u v w => run_equalIn_int w 9998 m1.type .i64 .i64 u v v1
  have e3 : ∀ u v w, (Op.equalIn 9999 m2.type (.int .u64 u) (.int .u64 v)).run P w = .ok (u == v) w := fun u v w => run_equalIn_int w 9998 m2.type .u64 .u64 u v v2
  have ed : ∀ w, (Op.equalIn 9999 m0.type (.agg #[.int .i64 a.1.1, .int .i64 a.1.2]) (.agg #[.int .i64 b.1.1, .int .i64 b.1.2])).run P w = .ok (decide (a.1 = b.1)) w := by
    intro w
    rw [run_equalIn_struct w 9998 m0.type _ _ (by rw [hfd]; exact htd) hp0, hfd]
    simp only [Op.eqFields, n0, n1, ne_eq, not_false_eq_true, if_true, Sem.run_bind, part, a0, Result.andThen_ok, Bool.false_eq_true, if_false, o0, o1]
    simp only [show (#[Value.int .i64 a.1.1, .int .i64 a.1.2])[0]? = some (Value.int .i64 a.1.1) from rfl, show (#[Value.int .i64 a.1.1, .int .i64 a.1.2])[1]? = some (Value.int .i64 a.1.2) from rfl,
      show (#[Value.int .i64 b.1.1, .int .i64 b.1.2])[0]? = some (Value.int .i64 b.1.1) from rfl, show (#[Value.int .i64 b.1.1, .int .i64 b.1.2])[1]? = some (Value.int .i64 b.1.2) from rfl, Sem.run_pure, Result.andThen_ok, e0, Sem.run_ite]
    by_cases h1 : a.1.1 = b.1.1
    · by_cases h2 : a.1.2 = b.1.2
      · have h : a.1 = b.1 := Prod.ext h1 h2
        simp [e1, a1, h]
      · have h : ¬ a.1 = b.1 := fun h => h2 (by rw [h])
        have h3 : (a.1.2 == b.1.2) = false := by simpa using h2
        have h4 : (a.1.1 == b.1.1) = true := by simpa using h1
        simp [e1, h, a1, h3, h4]
    · have h : ¬ a.1 = b.1 := fun h => h1 (by rw [h])
      simp [h1, h]
  have x0 : ∀ c : MarkT, (#[Value.int .i64 c.1.1, .int .i64 c.1.2, .int .i64 c.2.1, .int .u64 (c.2.2.toNat : Int)]).extract 0 2 = #[Value.int .i64 c.1.1, .int .i64 c.1.2] := fun c => rfl
  simp only [Op.eqFields, q0, q1, q2, ne_eq, not_false_eq_true, if_true, Sem.run_bind, part, b0, s0, Result.andThen_ok, p0, p1, p2]
  simp only [show ∀ c : MarkT, (#[Value.int .i64 c.1.1, .int .i64 c.1.2, .int .i64 c.2.1, .int .u64 (c.2.2.toNat : Int)])[2]? = some (Value.int .i64 c.2.1) from fun _ => rfl,
    show ∀ c : MarkT, (#[Value.int .i64 c.1.1, .int .i64 c.1.2, .int .i64 c.2.1, .int .u64 (c.2.2.toNat : Int)])[3]? = some (Value.int .u64 (c.2.2.toNat : Int)) from fun _ => rfl, Nat.zero_add, x0, Sem.run_pure, Result.andThen_ok, ed, Sem.run_ite]
  by_cases h1 : a.1 = b.1
  · by_cases h2 : a.2.1 = b.2.1
    · by_cases h3 : a.2.2 = b.2.2
      · have h : a = b := Prod.ext h1 (Prod.ext h2 h3)
        subst h
        simp [e2, e3, b1, b2]
      · have h : ¬ a = b := fun h => h3 (by rw [h])
        have h4 : ((a.2.2.toNat : Int) == (b.2.2.toNat : Int)) = false := by
          simp only [beq_eq_false_iff_ne, ne_eq]
          intro h5
          exact h3 (BitVec.eq_of_toNat_eq (by omega))
        have h6 : (a.2.1 == b.2.1) = true := by simpa using h2
        simp [h1, e2, e3, b1, b2, h4, h6, h]
    · have h : ¬ a = b := fun h => h2 (by rw [h])
      have h4 : (a.2.1 == b.2.1) = false := by simpa using h2
      simp [h1, e2, b1, b2, h4, h]
  · have h : ¬ a = b := fun h => h1 (by rw [h])
    simp [h1, h]
end
section
variable {P : Program} {n : Nat} {ops rest : List Oper} {N : Val → World → Prop} {Z : List PanicEntry → World → Prop} {f : Val} {w : World}
  {d : Nat} {x y : Operand} {t t' tr : TypeId} {pos : String} {after : Array Edge}
theorem O.neqM {a b : MarkT} (hq : ∀ a b : MarkT, ∀ {w : World}, (Op.equal t (Go.Pn.mv a) (Go.Pn.mv b)).run P w = .ok (decide (a = b)) w) (hm : P.eqGuardType P.depth t = false)
    (hx : ev n f x = Go.Pn.mv a) (hy : ev n f y = Go.Pn.mv b) (h : O P n ops rest N Z (upd f d (.bool (decide (a ≠ b)))) w) :
    O P n ops ({ dst := some d, op := .binOp .neq t x y t', type := tr, pos := pos, after := after, guard := .none } :: rest) N Z f w :=
  O.val rfl rfl (run_bin hx hy (run_eqGuard_agg w _ _ _ _ _ _ hm) (by
    have h2 : binOp .neq t (Go.Pn.mv a) (Go.Pn.mv b) = (do pure (.bool (!(← Op.equal t (Go.Pn.mv a) (Go.Pn.mv b))))) := rfl
    show (binOp .neq t (Go.Pn.mv a) (Go.Pn.mv b)).run P w = _
    rw [h2, Sem.run_bind, hq]
    simp [Result.andThen]) _ _) h
end
end Go.Pn
