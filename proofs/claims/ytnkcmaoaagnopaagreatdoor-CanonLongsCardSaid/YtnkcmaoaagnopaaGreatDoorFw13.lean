/-
  Structs of two whole numbers: compared, handed back; what is drawn never grows less. No condition.
-/
import Derived.Test.YtnkcmaoaagnopaaGreatDoorFw11
import Derived.Laws.StructEq
import Derived.Deep.Draws
import Derived.Sort.Grow
namespace Go.Pn
open Go.RowKit
section
variable {P : Program} {n : Nat} {ops rest : List Oper} {N : Val → World → Prop} {X : Nat → Val → World → Prop} {R : Val → World → Prop} {Z : List PanicEntry → World → Prop} {f : Val} {w : World}
  {d : Nat} {x y : Operand} {t t' e tr : TypeId} {pos : String} {after : Array Edge}
theorem run_eq_pair {f0 f1 : Field} (ht : P.underlying t = some (.struct #[f0, f1])) (n0 : f0.name ≠ "_") (n1 : f1.name ≠ "_") (o0 : f0.offset = 0) (o1 : f1.offset = 1) (u0 : P.underlying f0.type = some (.int .i64)) (u1 : P.underlying f1.type = some (.int .i64))
    (a0 : ∀ w, (isAgg f0.type).run P w = .ok false w) (a1 : ∀ w, (isAgg f1.type).run P w = .ok false w) (hp : P.stoodInHeld t = false) (a b : Int × Int) :
    (Op.equalIn 10000 t (.agg #[.int .i64 a.1, .int .i64 a.2]) (.agg #[.int .i64 b.1, .int .i64 b.2])).run P w = .ok (decide (a = b)) w := by
  have hf : P.fieldsOf t = #[f0, f1] := by unfold Program.fieldsOf; rw [ht]
  rw [run_equalIn_struct w 9999 t _ _ (by rw [hf]; exact ht) hp, hf]
  have e0 : ∀ v w, (Op.equalIn 9999 f0.type (.int .i64 a.1) (.int .i64 v)).run P w = .ok (a.1 == v) w := fun v w => run_equalIn_int w 9998 f0.type .i64 .i64 a.1 v u0
  have e1 : ∀ v w, (Op.equalIn 9999 f1.type (.int .i64 a.2) (.int .i64 v)).run P w = .ok (a.2 == v) w := fun v w => run_equalIn_int w 9998 f1.type .i64 .i64 a.2 v u1
  simp only [Op.eqFields, n0, n1, ne_eq, not_false_eq_true, if_true, Sem.run_bind, part, a0, Result.andThen_ok, Bool.false_eq_true, if_false, o0, o1]
  simp only [show (#[Value.int .i64 a.1, .int .i64 a.2])[0]? = some (Value.int .i64 a.1) from rfl, show (#[Value.int .i64 a.1, .int .i64 a.2])[1]? = some (Value.int .i64 a.2) from rfl,
    show (#[Value.int .i64 b.1, .int .i64 b.2])[0]? = some (Value.int .i64 b.1) from rfl, show (#[Value.int .i64 b.1, .int .i64 b.2])[1]? = some (Value.int .i64 b.2) from rfl, Sem.run_pure, Result.andThen_ok, e0, Sem.run_ite]
  by_cases h1 : a.1 = b.1
  · by_cases h2 : a.2 = b.2
    · obtain rfl : a = b := Prod.ext h1 h2
      simp [e1, a1]
    · have h : ¬ a = b := fun h => h2 (by rw [h])
      have h3 : (a.2 == b.2) = false := by simpa using h2
      have h4 : (a.1 == b.1) = true := by simpa using h1
      simp [e1, h, a1, h3, h4]
  · have h : ¬ a = b := fun h => h1 (by rw [h])
    simp [h1, h]
theorem O.eqlP {f0 f1 : Field} {a b : Int × Int} (ht : P.underlying t = some (.struct #[f0, f1])) (n0 : f0.name ≠ "_") (n1 : f1.name ≠ "_") (o0 : f0.offset = 0) (o1 : f1.offset = 1) (u0 : P.underlying f0.type = some (.int .i64)) (u1 : P.underlying f1.type = some (.int .i64))
    (a0 : ∀ w, (isAgg f0.type).run P w = .ok false w) (a1 : ∀ w, (isAgg f1.type).run P w = .ok false w) (hp : P.stoodInHeld t = false) (hm : P.eqGuardType P.depth t = false)
    (hx : ev n f x = .agg #[.int .i64 a.1, .int .i64 a.2]) (hy : ev n f y = .agg #[.int .i64 b.1, .int .i64 b.2]) (h : O P n ops rest N Z (upd f d (.bool (decide (a = b)))) w) :
    O P n ops ({ dst := some d, op := .binOp .eql t x y t', type := tr, pos := pos, after := after, guard := .none } :: rest) N Z f w :=
  O.val rfl rfl (run_bin hx hy (run_eqGuard_agg w _ _ _ _ _ _ hm) (by rw [run_eql_struct, run_eq_pair ht n0 n1 o0 o1 u0 u1 a0 a1 hp]; rfl) _ _) h
theorem O.neqP {f0 f1 : Field} {a b : Int × Int} (ht : P.underlying t = some (.struct #[f0, f1])) (n0 : f0.name ≠ "_") (n1 : f1.name ≠ "_") (o0 : f0.offset = 0) (o1 : f1.offset = 1) (u0 : P.underlying f0.type = some (.int .i64)) (u1 : P.underlying f1.type = some (.int .i64))
    (a0 : ∀ w, (isAgg f0.type).run P w = .ok false w) (a1 : ∀ w, (isAgg f1.type).run P w = .ok false w) (hp : P.stoodInHeld t = false) (hm : P.eqGuardType P.depth t = false)
    (hx : ev n f x = .agg #[.int .i64 a.1, .int .i64 a.2]) (hy : ev n f y = .agg #[.int .i64 b.1, .int .i64 b.2]) (h : O P n ops rest N Z (upd f d (.bool (decide (a ≠ b)))) w) :
    O P n ops ({ dst := some d, op := .binOp .neq t x y t', type := tr, pos := pos, after := after, guard := .none } :: rest) N Z f w :=
  O.val rfl rfl (run_bin hx hy (run_eqGuard_agg w _ _ _ _ _ _ hm) (by rw [run_neq_struct, run_eq_pair ht n0 n1 o0 o1 u0 u1 a0 a1 hp]; simp [Result.andThen]) _ _) h
/-- A new variable with a value; nothing is drawn. -/
theorem O.boxD {v : Value} (hx : ev n f x = v)
    (h : ∀ b w', w.heap.size ≤ b → Own0 w' b e v.cells.toList → Le w w' → w'.drawn = w.drawn → O P n ops rest N Z (upd f d (.pointer (some ⟨b, 0, none⟩))) w') :
    O P n ops ({ dst := some d, op := .box e x, type := tr, pos := pos, after := after, guard := .none } :: rest) N Z f w := by
  refine O.val rfl rfl ?_ (h w.heap.size (w.alloc (.cells v.cells e)) (Nat.le_refl _) (by simpa using Own0.new w e v.cells.toList) (Le.alloc _ _) rfl)
  have h3 : execOp (ev n f) { dst := some d, op := .box e x, type := tr, pos := pos, after := after, guard := .none } = (do pure (.value (← Instr.box e (ev n f x)))) := rfl
  rw [h3, Sem.run_bind, hx]
  rfl
/-- A literal of some elements; nothing is drawn. -/
theorem O.litnD {len : Nat} {parts : List (Nat × Operand)} {ie : TypeInfo} {z : Value} (vs : List Value) (hu : P.underlying t = some (.slice e)) (hie : P.info? e = some ie) (hsz : ie.size = 1) (hz : ie.zero = some z) (hl : vs.length = len) (hsmall : ¬ len > 2 ^ 24) (hpos : ¬ len = 0)
    (hvs : parts.map (fun x => (x.1, ev n f x.2)) = (List.range' 0 vs.length).zip vs) (h1 : ∀ v ∈ vs, v.oneCell' = true)
    (h : ∀ b w', w.heap.size ≤ b → Own0 w' b e vs → Le w w' → w'.drawn = w.drawn → O P n ops rest N Z (upd f d (.slice (some ⟨b, 0, none⟩) len len)) w') :
    O P n ops ({ dst := some d, op := .buildSlice t len parts.toArray, type := tr, pos := pos, after := after, guard := .none } :: rest) N Z f w := by
  refine O.val rfl rfl ?_ (h w.heap.size (w.alloc (.cells vs.toArray e)) (Nat.le_refl _) (by simpa using Own0.new w e vs) (Le.alloc _ _) rfl)
  have h3 : execOp (ev n f) { dst := some d, op := .buildSlice t len parts.toArray, type := tr, pos := pos, after := after, guard := .none } = (do pure (.value (← Instr.buildSlice t len (parts.toArray.map fun x => (x.1, ev n f x.2))))) := rfl
  have hf : Instr.fill (fun i => some (i * ie.size, ie.size)) ((Array.range (len * ie.size)).map (z.cells[· % z.cells.size]!)) (parts.map fun x => (x.1, ev n f x.2)) = some vs.toArray := by
    rw [hvs, hsz, fill_seq vs 0 _ (by simp [hl]) h1]
    simp
  rw [h3, Sem.run_bind, run_buildSlice w t e len _ vs.toArray ie z hu hie hz (by rw [hsz, Nat.mul_one]; exact hsmall) (by rw [hsz, Nat.mul_one]; exact hpos) (by simpa using hf)]
  rfl
/-- A region that draws its order: one draw. -/
theorem C.drawD {l : List Oper} {id : Nat} (hm : P.follows .mixedOrders = true) (h : ∀ w1, Le w w1 → w1.drawn = w.drawn + 1 → D P n l (Array.replicate l.toArray.size false) N Z w1 l.toArray.size f w1) : C P n (.region id l.toArray true) N X R Z f w := by
  refine wp_mono (wp_region_held (S := fun w' => Le { w with drawn := w.drawn + 1 } w') hm (h { w with drawn := w.drawn + 1 } ⟨rfl, rfl, rfl, Nat.le_refl _, fun _ _ _ => rfl⟩ rfl)) ?_
  intro e a w he
  cases e with
  | normal => exact he
  | exit i => obtain ⟨_, _, h⟩ := he; exact h.elim
  | goto l => exact he
  | ret => obtain ⟨_, _, h⟩ := he; exact h.elim
  | panic ch => exact he
  | outgrown => exact he
end
/-- A result that lies in a block of the call's own. -/
theorem Outs.cellA {P : Program} {fn : Func} {n : Nat} {Post : Value → World → Prop} {f : Val} {w : World} {t s b : Nat} {ty ty' : TypeId} {cs : List Value} (hr : fn.results = #[.cell t ty]) (hag : ∀ w, (isAgg ty).run P w = .ok true w) (hs : ∀ w, (sizeOf ty).run P w = .ok s w)
    (hv : ev n f (.tmp t) = .pointer (some ⟨b, 0, Option.none⟩)) (ho : Own w b ty' cs) (hl : cs.length = s) (h : Post (.agg cs.toArray) w) : Outs P fn n Post f w := by
  refine ⟨_, ?_, h⟩
  have hc : (loadCells ⟨b, 0, Option.none⟩ s).run P w = .ok cs.toArray w := by
    have := run_loadCells_list (P := P) w ⟨b, 0, Option.none⟩ cs fun j v hj => by rw [Addr.add_none, Nat.zero_add]; exact ho.cell hj
    rwa [hl] at this
  have hg : (Fr n f).tmps.getD t undef = .pointer (some ⟨b, 0, Option.none⟩) := (getD_Fr n f t).trans hv
  simp [results, hr, -Array.getD_eq_getD_getElem?, hg, asAddr, loadVar, hag, hs, hc]
/-- The same, with a second result beside it. -/
theorem Outs.cellA2 {P : Program} {fn : Func} {n : Nat} {Post : Value → World → Prop} {f : Val} {w : World} {t u s b : Nat} {ty ty' : TypeId} {cs : List Value} {v' : Value} (hr : fn.results = #[.cell t ty, .tmp u]) (hag : ∀ w, (isAgg ty).run P w = .ok true w) (hs : ∀ w, (sizeOf ty).run P w = .ok s w)
    (hv : ev n f (.tmp t) = .pointer (some ⟨b, 0, Option.none⟩)) (hv' : ev n f (.tmp u) = v') (ho : Own w b ty' cs) (hl : cs.length = s) (h : Post (.tuple #[.agg cs.toArray, v']) w) : Outs P fn n Post f w := by
  refine ⟨_, ?_, h⟩
  have hc : (loadCells ⟨b, 0, Option.none⟩ s).run P w = .ok cs.toArray w := by
    have := run_loadCells_list (P := P) w ⟨b, 0, Option.none⟩ cs fun j v hj => by rw [Addr.add_none, Nat.zero_add]; exact ho.cell hj
    rwa [hl] at this
  have hg : (Fr n f).tmps.getD t undef = .pointer (some ⟨b, 0, Option.none⟩) := (getD_Fr n f t).trans hv
  have hg' : (Fr n f).tmps.getD u undef = v' := (getD_Fr n f u).trans hv'
  simp [results, hr, -Array.getD_eq_getD_getElem?, hg, hg', asAddr, loadVar, hag, hs, hc]
/-- A world with new blocks alone, and with no fewer draws, is the old one grown. -/
theorem grow_of_le {w w' : World} (e : Le w w') (hd : w.drawn ≤ w'.drawn) : ∃ q os, w' = Go.Sort.grow (w.drewN q) os := by
  refine ⟨w'.drawn - w.drawn, w'.heap.extract w.heap.size w'.heap.size, ?_⟩
  have hheap : w'.heap = w.heap ++ w'.heap.extract w.heap.size w'.heap.size := by
    apply Array.ext_getElem?
    intro i
    by_cases hi : i < w.heap.size
    · rw [Array.getElem?_append_left hi]
      exact e.block i hi not_false
    · rw [Array.getElem?_append_right (by omega), Array.getElem?_extract]
      have hs := e.size
      split
      · congr 1
        omega
      · rw [Array.getElem?_eq_none (by omega)]
  have hdr : w'.drawn = w.drawn + (w'.drawn - w.drawn) := by omega
  have e1 := e.os
  have e2 := e.tape
  have e3 := e.output
  cases w with
  | mk h t d o u =>
    cases w' with
    | mk h' t' d' o' u' =>
      simp only at hheap hdr e1 e2 e3
      subst e1 e2 e3
      unfold Go.Sort.grow World.drewN
      simp only [World.mk.injEq, true_and, and_true]
      exact ⟨hheap, hdr⟩
/-! literals of structs -/
theorem foldl_sets (off : Nat) : ∀ (vs : List Value) (i : Nat) (cs : Array Value), off + i + vs.length ≤ cs.size →
    ((vs.zipIdx i).foldl (fun (cs : Array Value) (x : Value × Nat) => cs.setIfInBounds (off + x.2) x.1) cs).toList = cs.toList.take (off + i) ++ vs ++ cs.toList.drop (off + i + vs.length) := by
  intro vs
  induction vs with
  | nil => intro i cs _; simp
  | cons v vs ih =>
    intro i cs h
    rw [List.zipIdx_cons, List.foldl_cons, ih (i + 1) _ (by simp at h ⊢; omega)]
    have hl : off + i < cs.toList.length := by simp at h ⊢; omega
    simp only [Array.toList_setIfInBounds]
    have e1 : (cs.toList.set (off + i) v).take (off + (i + 1)) = cs.toList.take (off + i) ++ [v] := by
      rw [show off + (i + 1) = off + i + 1 by omega, List.take_succ_eq_append_getElem (by simpa using hl), List.take_set, List.set_eq_of_length_le (by simp; omega)]
      simp
    have e2 : (cs.toList.set (off + i) v).drop (off + (i + 1) + vs.length) = cs.toList.drop (off + i + (vs.length + 1)) := by
      rw [List.drop_set_of_lt (by omega)]
      congr 1
      omega
    rw [e1, e2]
    simp
theorem fill_flat {α : Type} (G : Flat α) : ∀ (vs : List α) (k : Nat) (cells : Array Value), cells.size = k * G.sz + vs.length * G.sz →
    Instr.fill (fun i => some (i * G.sz, G.sz)) cells ((List.range' k vs.length).zip (vs.map fun x => .agg (G.e x).toArray)) = some (cells.toList.take (k * G.sz) ++ vs.flatMap G.e).toArray := by
  intro vs
  induction vs with
  | nil =>
    intro k cells h
    have e : cells.toList.take (k * G.sz) = cells.toList := List.take_of_length_le (by simp at h; simp; omega)
    simp [Instr.fill, e]
  | cons v vs ih =>
    intro k cells h
    have hk : (k + 1) * G.sz = k * G.sz + G.sz := by rw [Nat.add_mul, Nat.one_mul]
    have hv : (vs.length + 1) * G.sz = vs.length * G.sz + G.sz := by rw [Nat.add_mul, Nat.one_mul]
    rw [List.length_cons, hv] at h
    rw [List.length_cons, List.map_cons, List.range'_succ, List.zip_cons_cons]
    unfold Instr.fill
    have hc : (Value.agg (G.e v).toArray).cells = (G.e v).toArray := rfl
    have hs : (G.e v).toArray.size = G.sz := by simp [G.len]
    simp only [hc]
    have hn : ¬ (decide ((G.e v).toArray.size ≠ G.sz) || decide (k * G.sz + (G.e v).toArray.size > cells.size)) = true := by
      rw [Bool.or_eq_true, decide_eq_true_eq, decide_eq_true_eq]
      rintro (h1 | h1)
      · exact h1 hs
      · omega
    rw [if_neg hn]
    have e := foldl_sets (k * G.sz) (G.e v) 0 cells (by rw [G.len]; omega)
    have e0 : (G.e v).toArray.zipIdx.foldl (fun (cs : Array Value) (x : Value × Nat) => cs.setIfInBounds (k * G.sz + x.2) x.1) cells = ((G.e v).zipIdx 0).foldl (fun (cs : Array Value) (x : Value × Nat) => cs.setIfInBounds (k * G.sz + x.2) x.1) cells := by
      rw [← Array.foldl_toList]
      simp
    rw [e0]
    generalize ((G.e v).zipIdx 0).foldl (fun (cs : Array Value) (x : Value × Nat) => cs.setIfInBounds (k * G.sz + x.2) x.1) cells = cs' at e ⊢
    have hsz : cs'.size = cells.size := by
      rw [← Array.length_toList, e]
      simp [G.len]
      omega
    rw [ih (k + 1) cs' (by rw [hsz, h, hk]; omega), e, hk]
    have e3 : (cells.toList.take (k * G.sz + 0) ++ G.e v ++ cells.toList.drop (k * G.sz + 0 + (G.e v).length)).take (k * G.sz + G.sz) = cells.toList.take (k * G.sz) ++ G.e v := by
      rw [List.take_append_of_le_length (by simp [G.len]; omega), List.take_of_length_le (by simp [G.len]; omega), Nat.add_zero]
    rw [e3, List.append_assoc, List.flatMap_cons]
section
variable {P : Program} {n : Nat} {ops rest : List Oper} {N : Val → World → Prop} {Z : List PanicEntry → World → Prop} {f : Val} {w : World}
  {d : Nat} {t e tr : TypeId} {pos : String} {after : Array Edge} {α : Type} {G : Flat α}
/-- A literal of some structs. -/
theorem O.litG {len : Nat} {parts : List (Nat × Operand)} {ie : TypeInfo} {z : Value} (vs : List α) (hu : P.underlying t = some (.slice e)) (hie : P.info? e = some ie) (hsz : ie.size = G.sz) (hz : ie.zero = some z) (hl : vs.length = len) (hsmall : ¬ len * G.sz > 2 ^ 24) (hpos : ¬ len * G.sz = 0)
    (hvs : parts.map (fun x => (x.1, ev n f x.2)) = (List.range' 0 vs.length).zip (vs.map fun x => .agg (G.e x).toArray))
    (h : ∀ b w', w.heap.size ≤ b → Own0 w' b e (vs.flatMap G.e) → Le w w' → O P n ops rest N Z (upd f d (.slice (some ⟨b, 0, none⟩) len len)) w') :
    O P n ops ({ dst := some d, op := .buildSlice t len parts.toArray, type := tr, pos := pos, after := after, guard := .none } :: rest) N Z f w := by
  refine O.lit (cells := (vs.flatMap G.e).toArray) hu hie hz (by rw [hsz]; exact hsmall) (by rw [hsz]; exact hpos) hvs ?_ (by simpa using h)
  rw [hsz, fill_flat G vs 0 _ (by simp [hl])]
  simp
end
theorem Sl.litG {α : Type} {G : Flat α} {w : World} {b n : Nat} {ty : TypeId} {vs : List α} (h : Own w b ty (vs.flatMap G.e)) (hn : vs.length = n) (hm : n ≤ maxLen) : Sl G.enc w (fun k => k = b) (.slice (some ⟨b, 0, none⟩) n n) vs := by
  subst hn
  exact Sl.of_own h (by rw [← G.length, List.take_length]) (Nat.le_refl _) hm (by rw [G.length]; exact Nat.le_refl _)
end Go.Pn
