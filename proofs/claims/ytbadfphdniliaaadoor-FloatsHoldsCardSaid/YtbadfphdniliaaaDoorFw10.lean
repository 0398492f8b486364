/-
  nil slices compared, an empty literal as a slice of the call's own, and rows that are sorted in place. No condition.
-/
import Derived.Test.YtbadfphdniliaaaDoorFw9
import Derived.Shelf.SlSortCmp.Whole1
namespace Go.Pn
open Go.RowKit Go.Sort
/-- A slice that is nil? -/
def isNilS : Value → Bool
  | .slice none _ _ => true
  | _ => false
theorem isNilS_nil {α : Type} {E : Enc α} {w : World} {F : Nat → Prop} {v : Value} {xs : List α} (hv : Sl E w F v xs) (h : isNilS v = true) : xs = [] := by
  rcases hv.2 with ⟨rfl, rfl⟩ | ⟨b, off, cap, cur, ty, fr, rfl, _⟩
  · rfl
  · cases h
section
variable {P : Program} {n : Nat} {ops rest : List Oper} {N : Val → World → Prop} {Z : List PanicEntry → World → Prop} {f : Val} {w : World}
  {d : Nat} {x : Operand} {t t' e tr : TypeId} {pos : String} {after : Array Edge} {α : Type} {E : Enc α} {F : Nat → Prop}
theorem run_eql_nilS {v : Value} {xs : List α} (ht : P.underlying t = some (.slice e)) (hv : Sl E w F v xs) : (binOp .eql t v (.slice none 0 0)).run P w = .ok (.bool (isNilS v)) w := by
  rcases hv.2 with ⟨rfl, rfl⟩ | ⟨b, off, cap, cur, ty, fr, rfl, _⟩
  · have h2 : binOp .eql t (.slice none 0 0) (.slice none 0 0) = (do pure (.bool (← Op.equal t (.slice none 0 0) (.slice none 0 0)))) := rfl
    have h1 : (Op.equal t (.slice none 0 0) (.slice none 0 0)).run P w = .ok true w := by
      unfold Op.equal Op.maxDepth
      rw [Op.equalIn, Sem.run_bind, run_underlying ht]
      rfl
    rw [h2, Sem.run_bind, h1]
    rfl
  · have h2 : binOp .eql t (.slice (some ⟨b, off, none⟩) xs.length cap) (.slice none 0 0) = (do pure (.bool (← Op.equal t (.slice (some ⟨b, off, none⟩) xs.length cap) (.slice none 0 0)))) := rfl
    have h1 : (Op.equal t (.slice (some ⟨b, off, none⟩) xs.length cap) (.slice none 0 0)).run P w = .ok false w := by
      unfold Op.equal Op.maxDepth
      rw [Op.equalIn, Sem.run_bind, run_underlying ht]
      rfl
    rw [h2, Sem.run_bind, h1]
    rfl
theorem eqGuard_sl {op : BinOp} {y : Operand} {v : Value} {a : Option Addr} {k c : Nat} {xs : List α} (hv : Sl E w F v xs) : (eqGuard op t x y v (.slice a k c)).run P w = .ok () w := by
  rcases hv.2 with ⟨rfl, rfl⟩ | ⟨b, off, cap, cur, ty, fr, rfl, _⟩ <;> cases op <;> rfl
/-- A slice, compared with nil. -/
theorem O.eqlNilS {v : Value} {xs : List α} (ht : P.underlying t = some (.slice e)) (hx : ev n f x = v) (hv : Sl E w F v xs) (h : O P n ops rest N Z (upd f d (.bool (isNilS v))) w) :
    O P n ops ({ dst := some d, op := .binOp .eql t x (.const (.slice none 0 0)) t', type := tr, pos := pos, after := after, guard := .none } :: rest) N Z f w :=
  O.val rfl rfl (run_bin hx (y := .const (.slice none 0 0)) rfl (eqGuard_sl hv) (run_eql_nilS ht hv) _ _) h
end
theorem OwnF.lit0 {α : Type} {G : Flat α} {ty : TypeId} {B : Nat} {w : World} {b : Nat} (h : Own0 w b ty []) (hB : B ≤ b) : OwnF G ty B w (.slice (some ⟨b, 0, none⟩) 0 0) [] :=
  ⟨⟨by simp, .inr ⟨b, 0, #[], rfl, hB, h, by simp, by unfold maxLen; omega, by simp, by simp⟩⟩, by simp⟩
/-! literals of some elements of one cell each -/
theorem fill_seq : ∀ (vs : List Value) (k : Nat) (cells : Array Value), cells.size = k + vs.length → (∀ v ∈ vs, v.oneCell' = true) →
    Instr.fill (fun i => some (i * 1, 1)) cells ((List.range' k vs.length).zip vs) = some (cells.toList.take k ++ vs).toArray := by
  intro vs
  induction vs with
  | nil =>
    intro k cells h _
    have e : cells.toList.take k = cells.toList := List.take_of_length_le (by simp at h; simp; omega)
    simp [Instr.fill, e]
  | cons v vs ih =>
    intro k cells h h1
    have hv := h1 v (by simp)
    have hcells : v.cells = #[v] := by cases v <;> first | rfl | simp [Value.oneCell'] at hv
    rw [List.length_cons, List.range'_succ, List.zip_cons_cons]
    unfold Instr.fill
    simp only [hcells, Nat.mul_one]
    rw [if_neg (by simp at h ⊢; omega)]
    have e : (#[v].zipIdx.foldl (fun (cs : Array Value) (x : Value × Nat) => cs.setIfInBounds (k + x.2) x.1) cells) = cells.setIfInBounds k v := by simp
    have h2 := ih (k + 1) (cells.setIfInBounds k v) (by rw [Array.size_setIfInBounds, h, List.length_cons]; omega) (fun u hu => h1 u (by simp [hu]))
    simp only [Nat.mul_one] at h2
    rw [e, h2]
    have hk : k < cells.toList.length := by simp at h ⊢; omega
    have e2 : (cells.setIfInBounds k v).toList.take (k + 1) = cells.toList.take k ++ [v] := by
      rw [Array.toList_setIfInBounds, List.take_succ_eq_append_getElem (by simpa using hk)]
      have e3 : List.take k (cells.toList.set k v) = List.take k cells.toList := by
        rw [List.take_set, List.set_eq_of_length_le (by simp; omega)]
      rw [e3]
      simp
    rw [e2, List.append_assoc]
    rfl
section
variable {P : Program} {n : Nat} {ops rest : List Oper} {N : Val → World → Prop} {Z : List PanicEntry → World → Prop} {f : Val} {w : World}
  {d : Nat} {t e tr : TypeId} {pos : String} {after : Array Edge}
theorem O.litn {len : Nat} {parts : List (Nat × Operand)} {ie : TypeInfo} {z : Value} (vs : List Value) (hu : P.underlying t = some (.slice e)) (hie : P.info? e = some ie) (hsz : ie.size = 1) (hz : ie.zero = some z) (hl : vs.length = len) (hsmall : ¬ len > 2 ^ 24) (hpos : ¬ len = 0)
    (hvs : parts.map (fun x => (x.1, ev n f x.2)) = (List.range' 0 vs.length).zip vs) (h1 : ∀ v ∈ vs, v.oneCell' = true)
    (h : ∀ b w', w.heap.size ≤ b → Own0 w' b e vs → Le w w' → O P n ops rest N Z (upd f d (.slice (some ⟨b, 0, none⟩) len len)) w') :
    O P n ops ({ dst := some d, op := .buildSlice t len parts.toArray, type := tr, pos := pos, after := after, guard := .none } :: rest) N Z f w := by
  refine O.lit (cells := vs.toArray) hu hie hz (by rw [hsz, Nat.mul_one]; exact hsmall) (by rw [hsz, Nat.mul_one]; exact hpos) hvs ?_ (by simpa using h)
  rw [hsz, fill_seq vs 0 _ (by simp [hl]) h1]
  simp
end
section
variable {P : Program} {n : Nat} {ops rest : List Oper} {N : Val → World → Prop} {Z : List PanicEntry → World → Prop} {f : Val} {w : World}
  {d : Nat} {x : Operand} {t tr : TypeId} {pos : String} {after : Array Edge}
theorem O.negI {a : Int} (hx : ev n f x = i64 a) (ha : InI (-a)) (h : O P n ops rest N Z (upd f d (i64 (-a))) w) :
    O P n ops ({ dst := some d, op := .unOp .neg t x, type := tr, pos := pos, after := after, guard := .none } :: rest) N Z f w :=
  O.val rfl rfl (by
    have e : IntKind.i64.wrap (0 - a) = -a := by rw [Int.zero_sub]; exact wrap_in ha
    simp only [execOp, hx, i64, Op.unary, Op.intArith, e]
    rfl) h
end
/-! elements of a slice of the call's own, written in place -/
theorem OwnF.ptr {α : Type} {G : Flat α} {ty : TypeId} {B : Nat} {w : World} {v : Value} {xs : List α} (h : OwnF G ty B w v xs) (hne : 0 < xs.length) : ∃ g cap, v = .slice (some ⟨g, 0, none⟩) xs.length cap := by
  obtain ⟨g, cap, _, hv, _⟩ := h.block hne
  exact ⟨g, cap, hv⟩
theorem OwnF.set {α : Type} {G : Flat α} {ty : TypeId} {B : Nat} {w : World} {g cap i : Nat} {xs : List α} {x : α} {u : Value} (hG : ∀ x, (G.e x).length = 1) (hu : G.e x = [u]) (h : OwnF G ty B w (.slice (some ⟨g, 0, none⟩) xs.length cap) xs) (hi : i < xs.length) :
    OwnF G ty B (w.setCell ⟨g, i, none⟩ u) (.slice (some ⟨g, 0, none⟩) xs.length cap) (xs.set i x) := by
  obtain ⟨h0, hm⟩ := h
  refine ⟨⟨by rw [G.length], ?_⟩, by rw [List.length_set]; exact hm⟩
  rcases h0.2 with ⟨h1, _⟩ | ⟨g', cap', cur, h1, hb, hg, hn, hc, hsz, ht⟩
  · cases h1
  · have e1 : g = g' := by cases h1; rfl
    have e2 : cap = cap' := by cases h1; rfl
    subst e1; subst e2
    have hset : ∀ (ys : List α) (j : Nat), j < ys.length → (ys.set j x).flatMap G.e = (ys.flatMap G.e).set j u := by
      intro ys
      induction ys with
      | nil => intro j hj; simp at hj
      | cons y ys ih =>
        intro j hj
        obtain ⟨c, hc⟩ : ∃ c, G.e y = [c] := by
          have := hG y
          match hq : G.e y, this with
          | [c], _ => exact ⟨c, rfl⟩
        cases j with
        | zero => simp [hu, hc]
        | succ j => simp [hc, ih j (by simpa using hj)]
    refine .inr ⟨g, cap, (cur.toList.set i u).toArray, by rw [List.length_set], hb, ?_, by rw [List.length_set]; exact hn, hc, by simpa using hsz, ?_⟩
    · have h5 := heap_set w g i u (cs := cur.toList) (ty := ty) (fr := (0, 0)) (by simpa using hg)
      exact h5
    · rw [List.length_set, hset xs i hi, ← ht]
      simp only [List.take_set]
section
variable {P : Program} {n : Nat} {ops rest : List Oper} {N : Val → World → Prop} {Z : List PanicEntry → World → Prop} {f : Val} {w : World}
  {x y : Operand} {t tr : TypeId} {pos : String} {after : Array Edge}
theorem O.storeF {α : Type} {G : Flat α} {ty : TypeId} {B g cap i : Nat} {xs : List α} (z : α) {u : Value} (hsz : ∀ w, (sizeOf t).run P w = .ok 1 w) (hs : G.sz = 1) (hG : ∀ x, (G.e x).length = 1) (hu : G.e z = [u]) (hx : ev n f x = .pointer (some ⟨g, i, none⟩)) (hy : ev n f y = u)
    (ho : OwnF G ty B w (.slice (some ⟨g, 0, none⟩) xs.length cap) xs) (hi : i < xs.length)
    (h : ∀ w', OwnF G ty B w' (.slice (some ⟨g, 0, none⟩) xs.length cap) (xs.set i z) → Ext (fun k => k = g) w w' → w'.heap.size = w.heap.size → O P n ops rest N Z f w') :
    O P n ops ({ dst := .none, op := .store t x y, type := tr, pos := pos, after := after, guard := .none } :: rest) N Z f w := by
  have h1 : u.oneCell' = true := G.one z u (by rw [hu]; simp)
  obtain ⟨g', cap', cs, hv, hown, hcs, hn, _, hc3, _⟩ := ho.block (by omega)
  have e1 : g = g' := by cases hv; rfl
  have e2 : cap = cap' := by cases hv; rfl
  subst e1; subst e2
  refine O.act rfl rfl ?_ (h (w.setCell ⟨g, i, none⟩ u) (ho.set hG hu hi) (Ext.set w ⟨g, i, none⟩ u) (by simp))
  have h3 : execOp (ev n f) { dst := .none, op := .store t x y, type := tr, pos := pos, after := after, guard := .none } = (do Instr.storeAt t (ev n f x) (ev n f y); pure .skip) := rfl
  rw [h3, Sem.run_bind, hx, hy]
  have hcells : u.cells = #[u] := by cases u <;> first | rfl | simp [Value.oneCell'] at h1
  have hlt : i < cs.length := by rw [hs, Nat.mul_one] at hc3; omega
  have hc := hown.cell (i := i) (v := cs[i]) (by simp)
  have hf := hown.free hlt
  have h4 : (Instr.storeAt t (.pointer (some ⟨g, i, none⟩)) u).run P w = .ok () (w.setCell ⟨g, i, none⟩ u) := by
    simp [Instr.storeAt, Instr.sureAddr, storeVar, hsz, hcells, storeCells, Addr.add, run_store P w ⟨g, i, none⟩ u .plain h1, hc, hf]
  rw [h4]
  rfl
end
/-! rows of one cell an element that are sorted in place -/
section
open Go.Proofs
variable {α : Type} [Inhabited α] {enc : α → Value} {G : Flat α} {ty : TypeId} {B : Nat} {w : World} {l : List α} {g cap : Nat}
theorem getElem!_list (l : List α) {i : Nat} (h : i < l.length) : l.toArray[i]! = l[i] := by
  rw [getElem!_pos l.toArray i (by simpa using h)]
  simp
omit [Inhabited α] in
theorem flat1_get (hG : ∀ x, G.e x = [enc x]) (l : List α) : l.flatMap G.e = l.map enc := by
  induction l with
  | nil => rfl
  | cons a l ih => rw [List.flatMap_cons, ih, hG]; rfl
theorem OwnF.holds (hs : G.sz = 1) (hG : ∀ x, G.e x = [enc x]) (h : OwnF G ty B w (.slice (some ⟨g, 0, none⟩) l.length cap) l) : Holds enc w g 0 l.toArray ∧ g < w.heap.size := by
  obtain ⟨h0, hm⟩ := h
  rcases h0.2 with ⟨h1, _⟩ | ⟨g', cap', cur, h1, hb, hg, hn, hc, hsz, ht⟩
  · cases h1
  · have e1 : g = g' := by cases h1; rfl
    subst e1
    refine ⟨?_, lt_of_some hg⟩
    intro j hj
    have hj2 : j < l.length := by simpa using hj
    rw [hs, Nat.mul_one] at ht hsz
    have hjc : j < cur.size := by omega
    have hcell : cur[j]? = some (enc l.toArray[j]!) := by
      rw [getElem!_list l hj2]
      have h3 : (cur.toList.take l.length)[j]? = some (enc l[j]) := by
        rw [ht, flat1_get hG, List.getElem?_map, List.getElem?_eq_getElem hj2]
        rfl
      rw [List.getElem?_take, if_pos hj2] at h3
      simpa using h3
    constructor
    · simp only [World.cell?, hg, Nat.zero_add]
      simpa using hcell
    · simp [World.frozen?, hg]
/-- Behind the sort. -/
theorem OwnF.sorted (hs : G.sz = 1) (hG : ∀ x, G.e x = [enc x]) (h : OwnF G ty B w (.slice (some ⟨g, 0, none⟩) l.length cap) l) {d : Array α} (hd : d.size = l.length) (m : Nat) (os : Array Obj) :
    OwnF G ty B (sortWorld enc w g 0 m d os) (.slice (some ⟨g, 0, none⟩) l.length cap) d.toList ∧ Ext (fun k => k = g) w (sortWorld enc w g 0 m d os) := by
  obtain ⟨h0, hm⟩ := h
  have hsize : (sortWorld enc w g 0 m d os).heap.size = w.heap.size + os.size := by
    show (w.heap.modify g _ ++ os).size = _
    rw [Array.size_append, Array.size_modify]
  rcases h0.2 with ⟨h1, _⟩ | ⟨g', cap', cur, h1, hb, hg, hn, hc, hsz, ht⟩
  · cases h1
  · have e1 : g = g' := by cases h1; rfl
    have e2 : cap = cap' := by cases h1; rfl
    subst e1; subst e2
    have hlt : g < w.heap.size := lt_of_some hg
    rw [hs, Nat.mul_one] at ht hsz
    constructor
    · have hd2 : d.toList.length = l.length := by simpa using hd
      refine ⟨⟨?_, .inr ⟨g, cap, putCells enc 0 d cur, by rw [hd2], hb, ?_, by rw [hd2]; exact hn, hc, ?_, ?_⟩⟩, by rw [hd2]; exact hm⟩
      · rw [G.length]
      · show (w.heap.modify g _ ++ os)[g]? = _
        rw [Array.getElem?_append_left (by rw [Array.size_modify]; exact hlt), Array.getElem?_modify, if_pos rfl, hg]
        rfl
      · rw [hs, Nat.mul_one]
        unfold putCells
        rw [Array.size_mapIdx]
        exact hsz
      · rw [hs, Nat.mul_one, flat1_get hG, hd2]
        apply List.ext_getElem?
        intro j
        unfold putCells
        by_cases hj : j < l.length
        · have hjd : j < d.size := by omega
          rw [List.getElem?_take, if_pos hj, List.getElem?_map, Array.getElem?_toList, Array.getElem?_mapIdx, Array.getElem?_eq_getElem (show j < cur.size by omega)]
          simp only [Option.map_some, Nat.zero_le, true_and, Nat.zero_add, if_pos hjd, Nat.sub_zero, Array.getElem?_toList, Array.getElem?_eq_getElem hjd]
          rw [getElem!_pos d j hjd]
        · rw [List.getElem?_eq_none (by simp; omega), List.getElem?_eq_none (by simp; omega)]
    · refine ⟨rfl, rfl, rfl, by rw [hsize]; omega, fun k hk hn => ?_⟩
      show (w.heap.modify g _ ++ os)[k]? = _
      rw [Array.getElem?_append_left (by rw [Array.size_modify]; exact hk), Array.getElem?_modify, if_neg (fun h => hn h.symm)]
end
end Go.Pn
