/-
  FROM A WALK TO A ROW: what the row's condition gives a walk, and what a walk that changes no old block gives the row. Of no program.
-/
import Derived.Test.YtnkcmaoaagnopaaGreatDoorFw4
import Derived.WalkKit
import Derived.ProofKit
import Derived.OpenShut
import Derived.WideKeyArgs
import Derived.LaidLaws
import Derived.Deep.DeepHandedRow
import Derived.Deep.DeepWitnessRowRef
import Derived.Lib.LaidTab
namespace Go.Pn
open Go.ChangeShapes Go.WideShapes Go.ChangeAt Go.RowKit
section
variable {H : Type} {enc : TypeId × Value → H} {P : Program} {W W' : World}
theorem kept_of_le (e : Le W W') (may : MemPlace → Prop) : W.keptBut W' may := by
  refine ⟨e.os, e.output, fun i hi => ?_⟩
  rw [e.block i hi not_false]
  cases h : W.heap[i]? with
  | none => rfl
  | some o => cases o <;> first | exact ⟨rfl, rfl, rfl, fun _ _ => rfl⟩ | exact .inr ⟨rfl, rfl⟩ | rfl
theorem frozen_of_le (e : Le W W') {a : Addr} (h : a.block < W.heap.size) : W'.frozen? a = W.frozen? a := by
  unfold World.frozen?
  rw [e.block _ h not_false]
theorem same_of_le (e : Le W W') {p : MemPlace} (h : p.block < W.heap.size) : W.sameAt W' p := by
  cases p with
  | cell b off => show W'.cell? _ = W.cell? _; unfold World.cell?; rw [e.block b h not_false]
  | map b => exact e.block b h not_false
theorem args_of_le (hl : laidOutB P = true) (e : Le W W') {sp : Nat → Bool} : ∀ {ts : List TypeId} {vs : List Value} {ds : List (DataW H)} {ps : List MemPlace},
    (ts.all fun t => P.readableRec t && decide (t < P.types.size)) = true → DataW.TrodAll enc P W 0 (fun _ => true) true ts vs ds ps → (∀ p ∈ ps, p.block < W.heap.size ∧ sp p.block = true) → DataW.TrodAll enc P W' 0 sp true ts vs ds ps
  | [], [], [], _, _, h, _ => h
  | [], [], _ :: _, _, _, h, _ => h.elim
  | [], _ :: _, [], _, _, h, _ => h.elim
  | [], _ :: _, _ :: _, _, _, h, _ => h.elim
  | _ :: _, [], [], _, _, h, _ => h.elim
  | _ :: _, [], _ :: _, _, _, h, _ => h.elim
  | _ :: _, _ :: _, [], _, _, h, _ => h.elim
  | _ :: _, _ :: _, _ :: _, _, ht, ⟨p, q, h1, h2, e1⟩, hs => by
    simp only [List.all_cons, Bool.and_eq_true, decide_eq_true_eq] at ht
    subst e1
    refine ⟨p, q, WideElems.Trod_stays hl ht.1.1 ht.1.2 h1 (fun x hx => same_of_le e (hs x (List.mem_append_left _ hx)).1) (fun x hx => (hs x (List.mem_append_left _ hx)).2), args_of_le hl e ?_ h2 (fun x hx => hs x (List.mem_append_right _ hx)), rfl⟩
    simpa using ht.2
/-- WHAT A WALK GIVES A ROW 'it returns true; its arguments read as they did'. -/
theorem post_of_le {f : Func} {s : ChangeSpec} {fresh handsOn again : Bool} {args : Array Value} {ds gs : List (DataW H)} {before : List MemPlace} {tb : TypeId}
    (hl : laidOutB P = true) (hp : (f.params.toList.all fun t => P.readableRec t && decide (t < P.types.size)) = true) (hv : s.vars = []) (hr : f.resultTypes = #[tb]) (hb : P.underlying tb = some .bool)
    (hW : DataW.Whole enc P f.params.toList s.vars false W args.toList ds gs before) (e : Le W W')
    (hs : s.fn H (ds ++ gs) = { results := [.lit (.bool true)], args := ds }) : s.post enc P f false fresh handsOn again W args (.bool true) W' := by
  have hlt := hW.lt
  have hW0 := hW
  obtain ⟨p, q, hA, hV, rfl, hz, _⟩ := hW
  rw [hv] at hV
  obtain ⟨rfl, rfl⟩ := trodVars_none hV
  have hres : ∀ (b : Nat) (sp : Nat → Bool) (hd : Bool), DataW.TrodAll enc P W' b sp hd f.resultTypes.toList ((Value.bool true).resultList f.resultTypes.size) (s.fn H (ds ++ [])).results [] := by
    intro b sp hd
    rw [hs, hr]
    exact trodAll_cons_mk (shut_bool hb _) trodAll_mk0
  have hargs : ∀ sp : Nat → Bool, (∀ x ∈ p, sp x.block = true) → DataW.TrodAll enc P W' 0 sp true f.params.toList args.toList (s.fn H (ds ++ [])).args p := by
    intro sp hsp
    rw [hs]
    exact args_of_le hl e hp hA fun x hx => ⟨hlt x (by simpa using hx), hsp x hx⟩
  have hvars : ∀ sp : Nat → Bool, DataW.TrodVars enc P W' sp s.vars (s.fn H (ds ++ [])).vars [] := by
    intro sp
    rw [hs, hv]
    rfl
  have hold : ∀ x ∈ p, (fun b => decide (b < W.heap.size)) x.block = true := fun x hx => by simpa using hlt x (by simpa using hx)
  refine ⟨ds, [], p ++ [], [], p, [], hW0, hres _ _ _, hargs _ hold, hvars _, World.keptBut_mono (fun x hx => ⟨hx, .inr (by simpa using hx)⟩) (kept_of_le e _), fun _ => ?_⟩
  refine ⟨ok_one hr rfl (okWide_bool_mk hb _), _, _, ([] ++ p) ++ [], ⟨[] ++ p, [], trodAll_append (hargs _ (fun _ _ => rfl)) (hres _ _ _), hvars _, rfl, ?_, ?_⟩, ?_⟩
  · intro b off hx
    have hx2 : MemPlace.cell b off ∈ p := by simpa using hx
    rw [frozen_of_le e (hlt _ (by simpa using hx2))]
    exact hz b off (by simpa using hx2)
  · intro ha; cases ha
  · intro x hx _
    simpa using hx

/-! #### what the row's condition gives -/
/-- An argument of type []byte. -/
theorem sl_bytes {t e : TypeId} {base : Nat} {v : Value} {d : DataW H} {p : List MemPlace} (ht : P.underlying t = some (.slice e)) (he : P.underlying e = some (.int .u8)) (hc : P.cellsOf e = 1)
    (hval : Value.okWide P W .any base t v) (h : DataW.Trod enc P W 0 (fun _ => true) true t v d p) : ∃ l : List UInt8, Sl byteE W (fun k => k < W.heap.size) v l := by
  obtain ⟨a1, len1, cap1, rfl⟩ := okWide_slice ht hval
  obtain ⟨fuel, hf⟩ := h
  rcases open_ints ht he hc hf with ⟨hcs, _⟩ | ⟨a, len, cap, zs, hcs, _, hl, hm, hz, _, hcell, hw⟩
  · simp [Value.cells] at hcs
    obtain ⟨rfl, rfl, rfl⟩ := hcs
    exact ⟨[], Sl.nil _ _ _⟩
  · simp [Value.cells] at hcs
    obtain ⟨rfl, rfl, rfl⟩ := hcs
    simp only [Value.okWide, ht, Cell.okWide, Cell.ok] at hval
    obtain ⟨_, _, _, hsp, row, cells, hsh, _⟩ := hval
    obtain ⟨b, off, spot⟩ := a
    simp only at hsp
    subst hsp
    simp only [if_true] at hz
    have hblk : ∃ cur ty fr, W.heap[b]? = some (.cells cur ty fr) := by
      unfold World.shape? at hsh
      split at hsh
      · rename_i c el fr hh; exact ⟨c, el, fr, hh⟩
      · cases hsh
    obtain ⟨cur, ty, fr, hb⟩ := hblk
    have hcur : ∀ i, i < zs.length → cur[off + i]? = some (.int .u8 (zs.getD i 0)) := by
      intro i hi
      have := hcell i hi
      rw [Addr.add_none] at this
      unfold World.cell? at this
      simpa [hb] using this
    refine ⟨(zs.take len1).map fun z => UInt8.ofNat z.toNat, ?_⟩
    have hlen : ((zs.take len1).map fun z => UInt8.ofNat z.toNat).length = len1 := by simp; omega
    refine ⟨by omega, .inr ⟨b, off, cap1, cur, ty, fr, by rw [hlen], lt_of_some hb, hb, by omega, hm, ?_, ?_⟩⟩
    · intro h0
      have h1 := hcur (cap1 - 1) (by omega)
      have h2 : off + (cap1 - 1) < cur.size := by
        rcases Nat.lt_or_ge (off + (cap1 - 1)) cur.size with h | h
        · exact h
        · rw [Array.getElem?_eq_none h] at h1; cases h1
      show off + cap1 * 1 ≤ _
      omega
    · intro i hi
      have hi2 : i < len1 := by omega
      have h1 := hcur i (by omega)
      have h3 := hw (zs.getD i 0) (by rw [List.getD_eq_getElem?_getD, List.getElem?_eq_getElem (by omega)]; exact List.getElem_mem _)
      have h4 : (0 : Int) ≤ zs.getD i 0 ∧ zs.getD i 0 < 256 := by
        simp only [Lit.wf, Bool.and_eq_true, decide_eq_true_eq] at h3
        have e1 : IntKind.u8.min = 0 := rfl
        have e2 : IntKind.u8.max = 255 := rfl
        omega
      show (cur.toList.drop (off + i * 1)).take 1 = [Value.int .u8 _]
      have hlt : off + i < cur.toList.length := by
        rcases Nat.lt_or_ge (off + i) cur.size with h | h
        · simpa using h
        · rw [Array.getElem?_eq_none h] at h1; cases h1
      rw [Nat.mul_one, List.drop_eq_getElem_cons hlt, List.take_succ_cons, List.take_zero]
      have h5 : cur.toList[off + i] = .int .u8 (zs.getD i 0) := by
        have : cur.toList[off + i]? = some (.int .u8 (zs.getD i 0)) := by simpa using h1
        rw [List.getElem?_eq_getElem hlt] at this
        exact Option.some.inj this
      rw [h5]
      congr 2
      have h6 : zs.getD i 0 = zs[i]'(by omega) := by simp [List.getD_eq_getElem?_getD, show i < zs.length from by omega]
      simp only [List.getElem_map, List.getElem_take]
      rw [← h6]
      generalize zs.getD i 0 = z at h4 ⊢
      obtain ⟨n, rfl⟩ := Int.eq_ofNat_of_zero_le h4.1
      have h7 : n < 256 := by omega
      simp
      omega
/-- An argument of type string. -/
theorem str_of {t : TypeId} {base : Nat} {v : Value} {d : DataW H} {p : List MemPlace} (ht : P.underlying t = some .string) (hval : Value.okWide P W .any base t v) (h : DataW.Trod enc P W 0 (fun _ => true) true t v d p) :
    ∃ l : List UInt8, v = str l ∧ l.length ≤ maxLen := by
  obtain ⟨s, rfl⟩ := okWide_string ht hval
  obtain ⟨fuel, hf⟩ := h
  obtain ⟨s', h1, _, hs⟩ := DataW.trod_string ht hf
  simp [Value.cells] at h1
  subst h1
  refine ⟨s.data.toList, ?_, by rw [Array.length_toList]; exact hs⟩
  unfold str
  simp
theorem u_of {t : TypeId} {base m : Nat} {k : IntKind} {v : Value} {d : DataW H} {p : List MemPlace} (ht : P.underlying t = some (.int k)) (hk : k.min = 0) (hk2 : k.max = 2 ^ m - 1) (hval : Value.okWide P W .any base t v) (h : DataW.Trod enc P W 0 (fun _ => true) true t v d p) :
    ∃ x : BitVec m, v = .int k (x.toNat : Int) := by
  obtain ⟨z, rfl, _, _, hw⟩ := open_int ht hval h
  simp only [Lit.wf, Bool.and_eq_true, decide_eq_true_eq] at hw
  refine ⟨BitVec.ofInt m z, ?_⟩
  congr 1
  rw [BitVec.toNat_ofInt]
  have h1 : (2 ^ m : Int) = ((2 ^ m : Nat) : Int) := by norm_cast
  have hp : 0 < 2 ^ m := Nat.pow_pos (by decide)
  rw [Int.emod_eq_of_lt (by omega) (by omega)]
  omega
theorem i_of {t : TypeId} {base : Nat} {v : Value} {d : DataW H} {p : List MemPlace} (ht : P.underlying t = some (.int .i64)) (hval : Value.okWide P W .any base t v) (h : DataW.Trod enc P W 0 (fun _ => true) true t v d p) :
    ∃ z : Int, v = .int .i64 z ∧ InI z := by
  obtain ⟨z, rfl, _, _, hw⟩ := open_int ht hval h
  simp only [Lit.wf, Bool.and_eq_true, decide_eq_true_eq] at hw
  refine ⟨z, rfl, ?_⟩
  unfold InI
  have e1 : IntKind.i64.min = -9223372036854775808 := rfl
  have e2 : IntKind.i64.max = 9223372036854775807 := rfl
  omega
/-- A variable that the row lists. -/
theorem laid_mem {l : List (String × DataW Unit)} (h : laidMet P l W) {n : String} {d : DataW Unit} (hm : (n, d) ∈ l) :
    ∃ g t cs fuel p, P.globalNamed n = some g ∧ (P.globals[g]?).map (·.type) = some t ∧ W.var? P n = some cs ∧ DataW.trod (fun _ => ()) P W 0 (fun _ => true) false fuel t cs.toList = some (d, p) := by
  obtain ⟨ps, hv, h0⟩ := h
  clear h0
  induction l generalizing ps with
  | nil => cases hm
  | cons x l ih =>
    obtain ⟨n', d'⟩ := x
    obtain ⟨g, t, cs, fuel, p, q, h1, h2, h3, h4, h5, _⟩ := hv
    rcases List.mem_cons.1 hm with e | hm
    · cases e; exact ⟨g, t, cs, fuel, p, h1, h2, h3, h4⟩
    · exact ih hm _ h5
theorem laidH {l : List (String × DataW Unit)} (h : laidMetH P l W) (hn : (l.filter fun x => x.2.handleName?.isSome) = []) : laidMet P l W := by
  unfold laidMetH at h
  rw [hn] at h
  exact h
/-- A table of bytes. -/
theorem row_tab {l : List (String × DataW Unit)} (h : laidMet P l W) {name : String} {zs : List UInt8} {g n : Nat} {t e : TypeId} {dd : DataW Unit} (hm : (name, dd) ∈ l) (hd : dd = Lib.tabData .u8 (zs.map fun x => (x.toNat : Int)))
    (hg : P.globalNamed name = some g) (hty : (P.globals[g]?).map (·.type) = some t) (ht : P.underlying t = some (.array n e)) (he : P.underlying e = some (.int .u8)) (hce : P.cellsOf e = 1) (hct : P.cellsOf t = n) :
    Row byteE W (fun k => k = g) g 0 zs := by
  obtain ⟨g', t', cs, fuel, p, h1, h2, h3, h4⟩ := laid_mem h hm
  obtain rfl := Option.some.inj (hg.symm.trans h1)
  obtain rfl := Option.some.inj (hty.symm.trans h2)
  rw [hd] at h4
  have h5 := Lib.cells_of_tab ht he hce hct h4
  unfold World.var? at h3
  rw [hg] at h3
  simp only [Option.bind_some] at h3
  split at h3
  · rename_i c ty fr hh
    cases h3
    refine ⟨cs, ty, fr, rfl, hh, ?_, fun i hi => ?_⟩
    · show 0 + zs.length * 1 ≤ cs.size
      have := congrArg List.length h5
      simp at this
      omega
    · show (cs.toList.drop (0 + i * 1)).take 1 = [Value.int .u8 (zs[i].toNat : Int)]
      rw [h5, Nat.zero_add, Nat.mul_one, List.drop_eq_getElem_cons (by simpa using hi), List.take_succ_cons, List.take_zero]
      simp
  · cases h3
/-- A variable that holds an error. -/
theorem cell_err {l : List (String × DataW Unit)} (h : laidMet P l W) {name nm : String} {g : Nat} {t : TypeId} {ms : Array (String × TypeId)} {d : DataW Unit} (hm : (name, .iface nm d) ∈ l)
    (hg : P.globalNamed name = some g) (hty : (P.globals[g]?).map (·.type) = some t) (ht : P.underlying t = some (.interface ms)) : ∃ te pe, CellIs W g (.iface te pe) := by
  obtain ⟨g', t', cs, fuel, p, h1, h2, h3, h4⟩ := laid_mem h hm
  obtain rfl := Option.some.inj (hg.symm.trans h1)
  obtain rfl := Option.some.inj (hty.symm.trans h2)
  obtain ⟨_, u, v, h5, _⟩ := iface_of_trod ht h4
  refine ⟨u, v, ?_⟩
  unfold CellIs
  rw [World.var?_cell hg h3]
  have : cs.toList[0]? = some (.iface u v) := by rw [h5]; rfl
  simpa using this
end
/-- A walk, as the row wants it. -/
theorem calls_of {P : Program} {k : FuncId} {args : Array Value} {W : World} {Q : Value → World → Prop} (h : Ret P k args W fun v w' => v = .bool true ∧ Le W w') (hq : ∀ w', Le W w' → Q (.bool true) w') :
    Calls P k args W fun e W' => ∃ v, e = .returned v ∧ Q v W' := by
  refine Calls.mono h fun e W' hh => ?_
  cases e with
  | returned v => obtain ⟨rfl, e⟩ := hh; exact ⟨_, rfl, hq _ e⟩
  | _ => exact hh.elim
end Go.Pn
