/-
  The walks of the laws' helpers, and of what is known. Conditions: slices as they lie in memory; the library's table and its errors.
-/
import Derived.Test.YtbmbaajfkmejgaaGreatDoorVectorTextsM3
import Derived.Test.YtbmbaajfkmejgaaGreatDoorVectorTextsM1
import Derived.Test.YtbmbaajfkmejgaaGreatDoorCards
import Derived.Test.YtbmbaajfkmejgaaGreatDoorTie
section
namespace Go.Proofs.YtbmbaajfkmejgaaGreatDoor
open Go.Pn Go.RowKit Go.Proofs
attribute [local irreducible] O C D


theorem vtext2_spec (v0 : Value) (l : List Dt.Dot) (F : Nat → Prop) (w : World) (hl : Sl Dt.dotF.enc w F v0 l) (hn : l.length ≤ 1000) (htb : Tb w) : Ret Tryz.prog 32 #[v0] w (fun v w' => v = .tuple #[str (if Cn.vecValid l then Vc.vtext l else []), .int .i64 (if Cn.vecValid l then 0 else 2)] ∧ Le w w') :=
  (vtext_spec v0 l F w hl hn htb).mono fun _ _ h => ⟨h.1.trans (by cases Cn.vecValid l <;> rfl), h.2⟩

theorem of_spec (r c : Int) (w : World) :
    Ret Tryz.prog 33 #[.int .i64 (r), .int .i64 (c)] w (fun v w' => v = Dt.dv (r, c) ∧ Le w w') := by
  refine enter (args := [.int .i64 (r), .int .i64 (c)]) (n := 8) Tryz.func33 rfl rfl (Nat.le_of_ble_eq_true rfl) ?_
  refine C.seqK fun K1 hK1 => ?_
  refine C.region ?_
  refine O.alloc Tryz.zeroValue25 (fun b4 w1 hb4 hz4 e1 => ?_)
  have z1 := e1.size
  have h4 := hz4.own
  have hl4 := h4.lt
  refine O.nil ?_
  refine hK1 _ _ ?_
  refine C.seqK fun K2 hK2 => ?_
  refine C.region ?_
  refine O.mv ?_
  refine O.mv ?_
  refine O.build (cells := #[.int .i64 r, .int .i64 c]) rfl (by kernel_rfl) ?_
  refine O.storeA (vs := [.int .i64 r, .int .i64 c]) Tryz.sizeOf25 rfl rfl rfl (by simp [Value.oneCell']) h4 (Nat.le_of_ble_eq_true rfl) (fun w2 hs2 e2 z2 => ?_)
  refine O.nil ?_
  refine hK2 _ _ ?_
  refine C.ret ?_
  refine Outs.cellA rfl Tryz.isAgg25 Tryz.sizeOf25 rfl hs2 rfl ?_
  exact ⟨rfl, (Ext.new e1 e2 (by rintro i hi rfl; omega))⟩

theorem gives_spec (v0 : Value) (a : List Dt.Dot) (e : Int) (v1 : Value) (b : List Dt.Dot) (e2 : Int) (F F2 : Nat → Prop) (w : World) (ha : Sl Dt.dotF.enc w F v0 a) (hb : Sl Dt.dotF.enc w F2 v1 b) (hab : a = b) (hee : e = e2) :
    Ret Tryz.prog 24 #[v0, .int .i64 (e), v1, .int .i64 (e2)] w (fun v w' => v = .bool true ∧ Le w w') := by
  refine enter (args := [v0, .int .i64 (e), v1, .int .i64 (e2)]) (n := 17) Tryz.func24 rfl rfl (Nat.le_of_ble_eq_true rfl) ?_
  refine C.seqK fun K1 hK1 => ?_
  refine C.region ?_
  refine O.asg ?_
  refine O.nil ?_
  refine hK1 _ _ ?_
  refine C.seqK fun K2 hK2 => ?_
  refine C.region ?_
  refine O.mv ?_
  refine O.mv ?_
  refine O.call Tryz.call17 (args2 rfl rfl) (same_spec _ _ _ _ _ _ _ ha hb) ?_
  rintro v_11 w1 ⟨rfl, e1⟩
  have z1 := e1.size
  refine O.cast (v' := .bool true) (congrArg Value.bool (by exact decide_eq_true hab)) ?_
  refine O.mv ?_
  refine O.yes rfl rfl ?_
  refine O.mv ?_
  refine O.yes rfl rfl ?_
  refine O.mv ?_
  refine O.yes rfl rfl ?_
  refine O.eqlI rfl rfl ?_
  refine O.cast (v' := .bool true) (congrArg Value.bool (by exact decide_eq_true hee)) ?_
  refine O.pickT rfl ?_
  refine O.asg ?_
  refine O.nil ?_
  refine hK2 _ _ ?_
  refine C.ret ?_
  refine Outs.one rfl rfl ?_
  exact ⟨rfl, e1⟩

theorem orders_spec (v0 : Value) (a : List Dt.Dot) (v1 : Value) (b : List Dt.Dot) (F F2 : Nat → Prop) (n e : Int) (w : World) (ha : Sl Dt.dotF.enc w F v0 a) (hb : Sl Dt.dotF.enc w F2 v1 b) (hF : ∀ k, F k → k < w.heap.size) (hF2 : ∀ k, F2 k → k < w.heap.size) (hn : a.length ≤ 1000000) (hm : b.length ≤ 1000000) (h1 : (if Cn.vecValid a && Cn.vecValid b then Vc.order a b else 0) = n) (h2 : (if Cn.vecValid a && Cn.vecValid b then (0 : Int) else 2) = e) :
    Ret Tryz.prog 22 #[v0, v1, .int .i64 (n), .int .i64 (e)] w (fun v w' => v = .bool true ∧ Le w w') := by
  refine enter (args := [v0, v1, .int .i64 (n), .int .i64 (e)]) (n := 25) Tryz.func22 rfl rfl (Nat.le_of_ble_eq_true rfl) ?_
  refine C.seqK fun K1 hK1 => ?_
  refine C.region ?_
  refine O.asg ?_
  refine O.nil ?_
  refine hK1 _ _ ?_
  refine C.seqK fun K2 hK2 => ?_
  refine C.region ?_
  refine O.mv ?_
  refine O.mv ?_
  refine O.call Tryz.call31 (args2 rfl rfl) (vorder_spec v0 a v1 b F F2 _ ha hb (fun j hj => by have q1 := hF j hj; omega) (fun j hj => by have q1 := hF2 j hj; omega) hn hm) ?_
  rintro v_14 w1 ⟨rfl, e1⟩
  have z1 := e1.size
  refine O.mv ?_
  refine O.extract rfl rfl ?_
  refine O.extract rfl rfl ?_
  refine O.asg ?_
  refine O.asg ?_
  refine O.nil ?_
  refine hK2 _ _ ?_
  refine C.seqK fun K3 hK3 => ?_
  refine C.region ?_
  refine O.mv ?_
  refine O.mv ?_
  refine O.eqlI rfl rfl ?_
  refine O.cast (v' := .bool true) (congrArg Value.bool (by exact decide_eq_true h1)) ?_
  refine O.mv ?_
  refine O.yes rfl rfl ?_
  refine O.mv ?_
  refine O.yes rfl rfl ?_
  refine O.mv ?_
  refine O.yes rfl rfl ?_
  refine O.eqlI rfl rfl ?_
  refine O.cast (v' := .bool true) (congrArg Value.bool (by exact decide_eq_true h2)) ?_
  refine O.pickT rfl ?_
  refine O.asg ?_
  refine O.nil ?_
  refine hK3 _ _ ?_
  refine C.ret ?_
  refine Outs.one rfl rfl ?_
  exact ⟨rfl, e1⟩

theorem texts_spec (v0 : Value) (l : List Dt.Dot) (F : Nat → Prop) (s : List UInt8) (e : Int) (w : World) (hl : Sl Dt.dotF.enc w F v0 l) (hn : l.length ≤ 1000) (htb : Tb w) (h1 : (if Cn.vecValid l then Vc.vtext l else []) = s) (h2 : (if Cn.vecValid l then (0 : Int) else 2) = e) :
    Ret Tryz.prog 27 #[v0, str (s), .int .i64 (e)] w (fun v w' => v = .bool true ∧ Le w w') := by
  refine enter (args := [v0, str (s), .int .i64 (e)]) (n := 22) Tryz.func27 rfl rfl (Nat.le_of_ble_eq_true rfl) ?_
  refine C.seqK fun K1 hK1 => ?_
  refine C.region ?_
  refine O.asg ?_
  refine O.nil ?_
  refine hK1 _ _ ?_
  refine C.seqK fun K2 hK2 => ?_
  refine C.region ?_
  refine O.mv ?_
  refine O.call Tryz.call32 (args1 rfl) (vtext2_spec v0 l F _ hl hn htb) ?_
  rintro v_11 w1 ⟨rfl, e1⟩
  have z1 := e1.size
  refine O.mv ?_
  refine O.extract rfl rfl ?_
  refine O.extract rfl rfl ?_
  refine O.asg ?_
  refine O.asg ?_
  refine O.nil ?_
  refine hK2 _ _ ?_
  refine C.seqK fun K3 hK3 => ?_
  refine C.region ?_
  refine O.mv ?_
  refine O.mv ?_
  refine O.eqlS rfl rfl ?_
  refine O.cast (v' := .bool true) (congrArg Value.bool (by exact decide_eq_true h1)) ?_
  refine O.mv ?_
  refine O.yes rfl rfl ?_
  refine O.mv ?_
  refine O.yes rfl rfl ?_
  refine O.mv ?_
  refine O.yes rfl rfl ?_
  refine O.eqlI rfl rfl ?_
  refine O.cast (v' := .bool true) (congrArg Value.bool (by exact decide_eq_true h2)) ?_
  refine O.pickT rfl ?_
  refine O.asg ?_
  refine O.nil ?_
  refine hK3 _ _ ?_
  refine C.ret ?_
  refine Outs.one rfl rfl ?_
  exact ⟨rfl, e1⟩

theorem parses_spec (s : List UInt8) (vw : Value) (c : List Dt.Dot) (e : Int) (Fw : Nat → Prop) (es er : Value) (w : World) (hl : s.length ≤ 1000000000000) (hw : Sl Dt.dotF.enc w Fw vw c) (htb : Tb w) (hes : CellIs w 3 es) (her : CellIs w 4 er) (g1 : ∃ te pe, es = .iface te pe) (g2 : ∃ te pe, er = .iface te pe) (h1 : (Vc.vparse s).getD [] = c) (h2 : (if (Vc.vparse s).isSome then (0 : Int) else 6) = e) :
    Ret Tryz.prog 30 #[str (s), vw, .int .i64 (e)] w (fun v w' => v = .bool true ∧ Le w w') := by
  refine enter (args := [str (s), vw, .int .i64 (e)]) (n := 19) Tryz.func30 rfl rfl (Nat.le_of_ble_eq_true rfl) ?_
  refine C.seqK fun K1 hK1 => ?_
  refine C.region ?_
  refine O.asg ?_
  refine O.nil ?_
  refine hK1 _ _ ?_
  refine C.seqK fun K2 hK2 => ?_
  refine C.region ?_
  refine O.mv ?_
  refine O.call Tryz.call46 (args1 rfl) (vparse_spec s es er _ hl htb hes her g1 g2) ?_
  rintro v_11 w1 ⟨e1, uv11, rfl, h11⟩
  have z1 := e1.size
  refine O.mv ?_
  refine O.extract rfl rfl ?_
  refine O.extract rfl rfl ?_
  refine O.asg ?_
  refine O.asg ?_
  refine O.nil ?_
  refine hK2 _ _ ?_
  refine C.seqK fun K3 hK3 => ?_
  refine C.region ?_
  refine O.mv ?_
  refine O.mv ?_
  refine O.mv ?_
  refine O.mv ?_
  refine O.call Tryz.call24 (args4 rfl rfl rfl rfl) (gives_spec uv11 _ _ _ c _ _ _ _ h11 (hw.keep e1) h1 h2) ?_
  rintro v_18 w2 ⟨rfl, e2⟩
  have z2 := e2.size
  refine O.asg ?_
  refine O.nil ?_
  refine hK3 _ _ ?_
  refine C.ret ?_
  refine Outs.one rfl rfl ?_
  exact ⟨rfl, (Ext.trans e1 e2)⟩

theorem lmade_spec (v0 : Value) (l : List Dt.Dot) (F : Nat → Prop) (vw : Value) (c : List Dt.Dot) (e : Int) (Fw : Nat → Prop) (w : World) (hl : Sl Dt.dotF.enc w F v0 l) (hn : l.length ≤ 1000000) (hw : Sl Dt.dotF.enc w Fw vw c) (h1 : Vc.ofV l = c) (h2 : Vc.ofE l = e) :
    Ret Tryz.prog 16 #[v0, vw, .int .i64 (e)] w (fun v w' => v = .bool true ∧ Le w w') := by
  refine enter (args := [v0, vw, .int .i64 (e)]) (n := 19) Tryz.func16 rfl rfl (Nat.le_of_ble_eq_true rfl) ?_
  refine C.seqK fun K1 hK1 => ?_
  refine C.region ?_
  refine O.asg ?_
  refine O.nil ?_
  refine hK1 _ _ ?_
  refine C.seqK fun K2 hK2 => ?_
  refine C.region ?_
  refine O.mv ?_
  refine O.call Tryz.call39 (args1 rfl) (vof_spec v0 l F _ hl (by omega)) ?_
  rintro v_11 w1 ⟨e1, uv11, rfl, h11⟩
  have z1 := e1.size
  refine O.mv ?_
  refine O.extract rfl rfl ?_
  refine O.extract rfl rfl ?_
  refine O.asg ?_
  refine O.asg ?_
  refine O.nil ?_
  refine hK2 _ _ ?_
  refine C.seqK fun K3 hK3 => ?_
  refine C.region ?_
  refine O.mv ?_
  refine O.mv ?_
  refine O.mv ?_
  refine O.mv ?_
  refine O.call Tryz.call24 (args4 rfl rfl rfl rfl) (gives_spec uv11 _ _ _ c _ _ _ _ h11.sl (hw.keep e1) h1 h2) ?_
  rintro v_18 w2 ⟨rfl, e2⟩
  have z2 := e2.size
  refine O.asg ?_
  refine O.nil ?_
  refine hK3 _ _ ?_
  refine C.ret ?_
  refine Outs.one rfl rfl ?_
  exact ⟨rfl, (Ext.trans e1 e2)⟩

theorem raised_spec (v0 : Value) (l : List Dt.Dot) (F : Nat → Prop) (d : Dt.Dot) (vw : Value) (c : List Dt.Dot) (e : Int) (Fw : Nat → Prop) (w : World) (hl : Sl Dt.dotF.enc w F v0 l) (hF : ∀ k, F k → k < w.heap.size) (hn : l.length ≤ 1000000) (hw : Sl Dt.dotF.enc w Fw vw c) (h1 : (if Cn.vecValid l && Cn.vecValid [d] then Vc.mrg l [d] else []) = c) (h2 : (if Cn.vecValid l && Cn.vecValid [d] then (0 : Int) else 2) = e) :
    Ret Tryz.prog 19 #[v0, Dt.dv (d), vw, .int .i64 (e)] w (fun v w' => v = .bool true ∧ Le w w') := by
  refine enter (args := [v0, Dt.dv (d), vw, .int .i64 (e)]) (n := 22) Tryz.func19 rfl rfl (Nat.le_of_ble_eq_true rfl) ?_
  refine C.seqK fun K1 hK1 => ?_
  refine C.region ?_
  refine O.box (v := Dt.dv (d)) rfl (fun b5 w1 hb5 hz5 e1 => ?_)
  have z1 := e1.size
  have h5 := hz5.own
  have hl5 := h5.lt
  refine O.asg ?_
  refine O.nil ?_
  refine hK1 _ _ ?_
  refine C.seqK fun K2 hK2 => ?_
  refine C.region ?_
  refine O.mv ?_
  refine O.loadOA Tryz.isAgg25 Tryz.sizeOf25 rfl h5 (Nat.le_of_ble_eq_true rfl) ?_
  refine O.call Tryz.call40 (args2 rfl rfl) (vraise_spec v0 l F d _ (hl.keep e1) (fun j hj => by have q1 := hF j hj; omega) hn) ?_
  rintro v_14 w2 ⟨e2, uv14, rfl, h14⟩
  have z2 := e2.size
  refine O.mv ?_
  refine O.extract rfl rfl ?_
  refine O.extract rfl rfl ?_
  refine O.asg ?_
  refine O.asg ?_
  refine O.nil ?_
  refine hK2 _ _ ?_
  refine C.seqK fun K3 hK3 => ?_
  refine C.region ?_
  refine O.mv ?_
  refine O.mv ?_
  refine O.mv ?_
  refine O.mv ?_
  refine O.call Tryz.call24 (args4 rfl rfl rfl rfl) (gives_spec uv14 _ _ _ c _ _ _ _ h14.sl ((hw.keep e1).keep e2) h1 h2) ?_
  rintro v_21 w3 ⟨rfl, e3⟩
  have z3 := e3.size
  refine O.asg ?_
  refine O.nil ?_
  refine hK3 _ _ ?_
  refine C.ret ?_
  refine Outs.one rfl rfl ?_
  exact ⟨rfl, (Ext.trans (Ext.trans e1 e2) e3)⟩

theorem merged_spec (v0 : Value) (a : List Dt.Dot) (v1 : Value) (b : List Dt.Dot) (F F2 : Nat → Prop) (vw : Value) (c : List Dt.Dot) (e : Int) (Fw : Nat → Prop) (w : World) (ha : Sl Dt.dotF.enc w F v0 a) (hb : Sl Dt.dotF.enc w F2 v1 b) (hF : ∀ k, F k → k < w.heap.size) (hF2 : ∀ k, F2 k → k < w.heap.size) (hn : a.length ≤ 1000000) (hm : b.length ≤ 1000000) (hw : Sl Dt.dotF.enc w Fw vw c) (h1 : (if Cn.vecValid a && Cn.vecValid b then Vc.mrg a b else []) = c) (h2 : (if Cn.vecValid a && Cn.vecValid b then (0 : Int) else 2) = e) :
    Ret Tryz.prog 21 #[v0, v1, vw, .int .i64 (e)] w (fun v w' => v = .bool true ∧ Le w w') := by
  refine enter (args := [v0, v1, vw, .int .i64 (e)]) (n := 22) Tryz.func21 rfl rfl (Nat.le_of_ble_eq_true rfl) ?_
  refine C.seqK fun K1 hK1 => ?_
  refine C.region ?_
  refine O.asg ?_
  refine O.nil ?_
  refine hK1 _ _ ?_
  refine C.seqK fun K2 hK2 => ?_
  refine C.region ?_
  refine O.mv ?_
  refine O.mv ?_
  refine O.call Tryz.call23 (args2 rfl rfl) (vmerge_spec v0 a v1 b F F2 _ ha hb (fun j hj => by have q1 := hF j hj; omega) (fun j hj => by have q1 := hF2 j hj; omega) hn hm) ?_
  rintro v_14 w1 ⟨e1, uv14, rfl, h14⟩
  have z1 := e1.size
  refine O.mv ?_
  refine O.extract rfl rfl ?_
  refine O.extract rfl rfl ?_
  refine O.asg ?_
  refine O.asg ?_
  refine O.nil ?_
  refine hK2 _ _ ?_
  refine C.seqK fun K3 hK3 => ?_
  refine C.region ?_
  refine O.mv ?_
  refine O.mv ?_
  refine O.mv ?_
  refine O.mv ?_
  refine O.call Tryz.call24 (args4 rfl rfl rfl rfl) (gives_spec uv14 _ _ _ c _ _ _ _ h14.sl (hw.keep e1) h1 h2) ?_
  rintro v_21 w2 ⟨rfl, e2⟩
  have z2 := e2.size
  refine O.asg ?_
  refine O.nil ?_
  refine hK3 _ _ ?_
  refine C.ret ?_
  refine Outs.one rfl rfl ?_
  exact ⟨rfl, (Ext.trans e1 e2)⟩

set_option maxHeartbeats 8000000 in
theorem known_spec (es er : Value) (w : World) (htb : Tb w) (hes : CellIs w 3 es) (her : CellIs w 4 er) (g1 : ∃ te pe, es = .iface te pe) (g2 : ∃ te pe, er = .iface te pe) :
    Ret Tryz.prog 8 #[] w (fun v w' => v = .bool true ∧ Le w w') := by
  obtain ⟨ie25, ti25, ts25, tb25, tz25⟩ := inf25
  refine enter (args := []) (n := 120) Tryz.func8 rfl rfl (Nat.le_of_ble_eq_true rfl) ?_
  refine C.seqK fun K1 hK1 => ?_
  refine C.region ?_
  refine O.asg ?_
  refine O.nil ?_
  refine hK1 _ _ ?_
  refine C.seqK fun K2 hK2 => ?_
  refine C.region ?_
  refine O.call Tryz.call33 (args2 rfl rfl) (of_spec 1 2 _) ?_
  rintro v_4 w1 ⟨rfl, e1⟩
  have z1 := e1.size
  refine O.call Tryz.call33 (args2 rfl rfl) (of_spec 3 7 _) ?_
  rintro v_5 w2 ⟨rfl, e2⟩
  have z2 := e2.size
  refine O.litG (G := Dt.dotF) [(1, 2), (3, 7)] Tryz.underlying23 ti25 ts25 tz25 rfl (by decide) (by decide) rfl (fun b6 w3 hb6 hz6 e3 => ?_)
  have z3 := e3.size
  have h6 := hz6.own
  have hq6 := Sl.litG (n := 2) h6 rfl (by unfold maxLen; omega)
  refine O.asg ?_
  refine O.nil ?_
  refine hK2 _ _ ?_
  refine C.seqK fun K3 hK3 => ?_
  refine C.region ?_
  refine O.call Tryz.call33 (args2 rfl rfl) (of_spec 1 2 _) ?_
  rintro v_7 w4 ⟨rfl, e4⟩
  have z4 := e4.size
  refine O.litG (G := Dt.dotF) [(1, 2)] Tryz.underlying23 ti25 ts25 tz25 rfl (by decide) (by decide) rfl (fun b8 w5 hb8 hz8 e5 => ?_)
  have z5 := e5.size
  have h8 := hz8.own
  have hq8 := Sl.litG (n := 1) h8 rfl (by unfold maxLen; omega)
  refine O.call Tryz.call33 (args2 rfl rfl) (of_spec 3 7 _) ?_
  rintro v_9 w6 ⟨rfl, e6⟩
  have z6 := e6.size
  refine O.litG (G := Dt.dotF) [(3, 7)] Tryz.underlying23 ti25 ts25 tz25 rfl (by decide) (by decide) rfl (fun b10 w7 hb10 hz10 e7 => ?_)
  have z7 := e7.size
  have h10 := hz10.own
  have hq10 := Sl.litG (n := 1) h10 rfl (by unfold maxLen; omega)
  refine O.asg ?_
  refine O.asg ?_
  refine O.nil ?_
  refine hK3 _ _ ?_
  refine C.seqK fun K4 hK4 => ?_
  refine C.seqK fun K5 hK5 => ?_
  refine C.region ?_
  refine O.call Tryz.call33 (args2 rfl rfl) (of_spec 3 7 _) ?_
  rintro v_11 w8 ⟨rfl, e8⟩
  have z8 := e8.size
  refine O.call Tryz.call33 (args2 rfl rfl) (of_spec 1 2 _) ?_
  rintro v_12 w9 ⟨rfl, e9⟩
  have z9 := e9.size
  refine O.call Tryz.call33 (args2 rfl rfl) (of_spec 3 4 _) ?_
  rintro v_13 w10 ⟨rfl, e10⟩
  have z10 := e10.size
  refine O.litG (G := Dt.dotF) [(3, 7), (1, 2), (3, 4)] Tryz.underlying22 ti25 ts25 tz25 rfl (by decide) (by decide) rfl (fun b14 w11 hb14 hz14 e11 => ?_)
  have z11 := e11.size
  have h14 := hz14.own
  have hq14 := Sl.litG (n := 3) h14 rfl (by unfold maxLen; omega)
  refine O.mv ?_
  refine O.call Tryz.call16 (args3 rfl rfl rfl) (lmade_spec (.slice (some ⟨b14, 0, none⟩) 3 3) [(3, 7), (1, 2), (3, 4)] (fun j => j = b14) (.slice (some ⟨b6, 0, none⟩) 2 2) [(1, 2), (3, 7)] 0 (fun j => j = b6) _ hq14 (by simp) ((((((((hq6.keep e4).keep e5).keep e6).keep e7).keep e8).keep e9).keep e10).keep e11) (by decide +kernel) (by decide +kernel)) ?_
  rintro v_16 w12 ⟨rfl, e12⟩
  have z12 := e12.size
  refine O.not rfl ?_
  refine O.cast (v' := .bool false) rfl ?_
  refine O.mv ?_
  refine O.yes rfl rfl ?_
  refine O.call Tryz.call16 (args3 rfl rfl rfl) (lmade_spec (.slice none 0 0) [] (fun _ => False) (.slice none 0 0) [] 0 (fun _ => False) _ (Sl.nil _ _ _) (by simp) (Sl.nil _ _ _) (by decide +kernel) (by decide +kernel)) ?_
  rintro v_19 w13 ⟨rfl, e13⟩
  have z13 := e13.size
  refine O.yes rfl rfl ?_
  refine O.not rfl ?_
  refine O.cast (v' := .bool false) rfl ?_
  refine O.pickF rfl ?_
  refine O.mv ?_
  refine O.yes rfl rfl ?_
  refine O.call Tryz.call33 (args2 rfl rfl) (of_spec 0 1 _) ?_
  rintro v_23 w14 ⟨rfl, e14⟩
  have z14 := e14.size
  refine O.yes rfl rfl ?_
  refine O.litG (G := Dt.dotF) [(0, 1)] Tryz.underlying22 ti25 ts25 tz25 rfl (by decide) (by decide) rfl (fun b24 w15 hb24 hz24 e15 => ?_)
  have z15 := e15.size
  have h24 := hz24.own
  have hq24 := Sl.litG (n := 1) h24 rfl (by unfold maxLen; omega)
  refine O.yes rfl rfl ?_
  refine O.call Tryz.call16 (args3 rfl rfl rfl) (lmade_spec (.slice (some ⟨b24, 0, none⟩) 1 1) [(0, 1)] (fun j => j = b24) (.slice none 0 0) [] 2 (fun _ => False) _ hq24 (by simp) (Sl.nil _ _ _) (by decide +kernel) (by decide +kernel)) ?_
  rintro v_25 w16 ⟨rfl, e16⟩
  have z16 := e16.size
  refine O.yes rfl rfl ?_
  refine O.not rfl ?_
  refine O.cast (v' := .bool false) rfl ?_
  refine O.pickF rfl ?_
  refine O.mv ?_
  refine O.yes rfl rfl ?_
  refine O.mv ?_
  refine O.yes rfl rfl ?_
  refine O.call Tryz.call11 (args2 rfl rfl) (get_spec (.slice (some ⟨b6, 0, none⟩) 2 2) [(1, 2), (3, 7)] (fun j => j = b6) 3 _ (((((((((((((hq6.keep e4).keep e5).keep e6).keep e7).keep e8).keep e9).keep e10).keep e11).keep e12).keep e13).keep e14).keep e15).keep e16)) ?_
  rintro v_30 w17 ⟨rfl, e17⟩
  have z17 := e17.size
  refine O.yes rfl rfl ?_
  refine O.neqI rfl rfl ?_
  refine O.cast (v' := .bool false) (congrArg Value.bool (by decide +kernel)) ?_
  refine O.pickF rfl ?_
  refine O.mv ?_
  refine O.yes rfl rfl ?_
  refine O.mv ?_
  refine O.yes rfl rfl ?_
  refine O.call Tryz.call11 (args2 rfl rfl) (get_spec (.slice (some ⟨b6, 0, none⟩) 2 2) [(1, 2), (3, 7)] (fun j => j = b6) 2 _ ((((((((((((((hq6.keep e4).keep e5).keep e6).keep e7).keep e8).keep e9).keep e10).keep e11).keep e12).keep e13).keep e14).keep e15).keep e16).keep e17)) ?_
  rintro v_35 w18 ⟨rfl, e18⟩
  have z18 := e18.size
  refine O.yes rfl rfl ?_
  refine O.neqI rfl rfl ?_
  refine O.cast (v' := .bool false) (congrArg Value.bool (by decide +kernel)) ?_
  refine O.pickF rfl ?_
  refine O.mv ?_
  refine O.yes rfl rfl ?_
  refine O.mv ?_
  refine O.yes rfl rfl ?_
  refine O.call Tryz.call33 (args2 rfl rfl) (of_spec 3 7 _) ?_
  rintro v_40 w19 ⟨rfl, e19⟩
  have z19 := e19.size
  refine O.yes rfl rfl ?_
  refine O.call Tryz.call13 (args2 rfl rfl) (vecHas_spec (.slice (some ⟨b6, 0, none⟩) 2 2) [(1, 2), (3, 7)] (fun j => j = b6) (3, 7) _ ((((((((((((((((hq6.keep e4).keep e5).keep e6).keep e7).keep e8).keep e9).keep e10).keep e11).keep e12).keep e13).keep e14).keep e15).keep e16).keep e17).keep e18).keep e19)) ?_
  rintro v_41 w20 ⟨rfl, e20⟩
  have z20 := e20.size
  refine O.cast (v' := .bool true) (congrArg Value.bool (by decide +kernel)) ?_
  refine O.yes rfl rfl ?_
  refine O.not rfl ?_
  refine O.cast (v' := .bool false) rfl ?_
  refine O.pickF rfl ?_
  refine O.mv ?_
  refine O.yes rfl rfl ?_
  refine O.mv ?_
  refine O.yes rfl rfl ?_
  refine O.call Tryz.call33 (args2 rfl rfl) (of_spec 3 8 _) ?_
  rintro v_46 w21 ⟨rfl, e21⟩
  have z21 := e21.size
  refine O.yes rfl rfl ?_
  refine O.call Tryz.call13 (args2 rfl rfl) (vecHas_spec (.slice (some ⟨b6, 0, none⟩) 2 2) [(1, 2), (3, 7)] (fun j => j = b6) (3, 8) _ ((((((((((((((((((hq6.keep e4).keep e5).keep e6).keep e7).keep e8).keep e9).keep e10).keep e11).keep e12).keep e13).keep e14).keep e15).keep e16).keep e17).keep e18).keep e19).keep e20).keep e21)) ?_
  rintro v_47 w22 ⟨rfl, e22⟩
  have z22 := e22.size
  refine O.cast (v' := .bool false) (congrArg Value.bool (by decide +kernel)) ?_
  refine O.pickF rfl ?_
  refine O.mv ?_
  refine O.yes rfl rfl ?_
  refine O.mv ?_
  refine O.yes rfl rfl ?_
  refine O.call Tryz.call33 (args2 rfl rfl) (of_spec 1 0 _) ?_
  rintro v_51 w23 ⟨rfl, e23⟩
  have z23 := e23.size
  refine O.yes rfl rfl ?_
  refine O.call Tryz.call13 (args2 rfl rfl) (vecHas_spec (.slice (some ⟨b6, 0, none⟩) 2 2) [(1, 2), (3, 7)] (fun j => j = b6) (1, 0) _ ((((((((((((((((((((hq6.keep e4).keep e5).keep e6).keep e7).keep e8).keep e9).keep e10).keep e11).keep e12).keep e13).keep e14).keep e15).keep e16).keep e17).keep e18).keep e19).keep e20).keep e21).keep e22).keep e23)) ?_
  rintro v_52 w24 ⟨rfl, e24⟩
  have z24 := e24.size
  refine O.cast (v' := .bool false) (congrArg Value.bool (by decide +kernel)) ?_
  refine O.pickF rfl ?_
  refine O.nil ?_
  refine hK5 _ _ ?_
  refine C.condF rfl ?_
  refine C.skip ?_
  refine hK4 _ _ ?_
  refine C.seqK fun K6 hK6 => ?_
  refine C.seqK fun K7 hK7 => ?_
  refine C.region ?_
  refine O.mv ?_
  refine O.call Tryz.call33 (args2 rfl rfl) (of_spec 2 5 _) ?_
  rintro v_55 w25 ⟨rfl, e25⟩
  have z25 := e25.size
  refine O.call Tryz.call33 (args2 rfl rfl) (of_spec 1 2 _) ?_
  rintro v_56 w26 ⟨rfl, e26⟩
  have z26 := e26.size
  refine O.call Tryz.call33 (args2 rfl rfl) (of_spec 2 5 _) ?_
  rintro v_57 w27 ⟨rfl, e27⟩
  have z27 := e27.size
  refine O.call Tryz.call33 (args2 rfl rfl) (of_spec 3 7 _) ?_
  rintro v_58 w28 ⟨rfl, e28⟩
  have z28 := e28.size
  refine O.litG (G := Dt.dotF) [(1, 2), (2, 5), (3, 7)] Tryz.underlying23 ti25 ts25 tz25 rfl (by decide) (by decide) rfl (fun b59 w29 hb59 hz59 e29 => ?_)
  have z29 := e29.size
  have h59 := hz59.own
  have hq59 := Sl.litG (n := 3) h59 rfl (by unfold maxLen; omega)
  refine O.call Tryz.call19 (args4 rfl rfl rfl rfl) (raised_spec (.slice (some ⟨b6, 0, none⟩) 2 2) [(1, 2), (3, 7)] (fun j => j = b6) (2, 5) (.slice (some ⟨b59, 0, none⟩) 3 3) [(1, 2), (2, 5), (3, 7)] 0 (fun j => j = b59) _ ((((((((((((((((((((((((((hq6.keep e4).keep e5).keep e6).keep e7).keep e8).keep e9).keep e10).keep e11).keep e12).keep e13).keep e14).keep e15).keep e16).keep e17).keep e18).keep e19).keep e20).keep e21).keep e22).keep e23).keep e24).keep e25).keep e26).keep e27).keep e28).keep e29) (fun j hj => by have hj : j = b6 := hj; have := (((((((((((((((((((((((((((h6.keep e4).keep e5).keep e6).keep e7).keep e8).keep e9).keep e10).keep e11).keep e12).keep e13).keep e14).keep e15).keep e16).keep e17).keep e18).keep e19).keep e20).keep e21).keep e22).keep e23).keep e24).keep e25).keep e26).keep e27).keep e28).keep e29)).lt; omega) (by simp) hq59 (by decide +kernel) (by decide +kernel)) ?_
  rintro v_60 w30 ⟨rfl, e30⟩
  have z30 := e30.size
  refine O.not rfl ?_
  refine O.cast (v' := .bool false) rfl ?_
  refine O.mv ?_
  refine O.yes rfl rfl ?_
  refine O.mv ?_
  refine O.yes rfl rfl ?_
  refine O.call Tryz.call33 (args2 rfl rfl) (of_spec 3 5 _) ?_
  rintro v_64 w31 ⟨rfl, e31⟩
  have z31 := e31.size
  refine O.yes rfl rfl ?_
  refine O.mv ?_
  refine O.yes rfl rfl ?_
  refine O.call Tryz.call19 (args4 rfl rfl rfl rfl) (raised_spec (.slice (some ⟨b6, 0, none⟩) 2 2) [(1, 2), (3, 7)] (fun j => j = b6) (3, 5) (.slice (some ⟨b6, 0, none⟩) 2 2) [(1, 2), (3, 7)] 0 (fun j => j = b6) _ ((((((((((((((((((((((((((((hq6.keep e4).keep e5).keep e6).keep e7).keep e8).keep e9).keep e10).keep e11).keep e12).keep e13).keep e14).keep e15).keep e16).keep e17).keep e18).keep e19).keep e20).keep e21).keep e22).keep e23).keep e24).keep e25).keep e26).keep e27).keep e28).keep e29).keep e30).keep e31) (fun j hj => by have hj : j = b6 := hj; have := (((((((((((((((((((((((((((((h6.keep e4).keep e5).keep e6).keep e7).keep e8).keep e9).keep e10).keep e11).keep e12).keep e13).keep e14).keep e15).keep e16).keep e17).keep e18).keep e19).keep e20).keep e21).keep e22).keep e23).keep e24).keep e25).keep e26).keep e27).keep e28).keep e29).keep e30).keep e31)).lt; omega) (by simp) ((((((((((((((((((((((((((((hq6.keep e4).keep e5).keep e6).keep e7).keep e8).keep e9).keep e10).keep e11).keep e12).keep e13).keep e14).keep e15).keep e16).keep e17).keep e18).keep e19).keep e20).keep e21).keep e22).keep e23).keep e24).keep e25).keep e26).keep e27).keep e28).keep e29).keep e30).keep e31) (by decide +kernel) (by decide +kernel)) ?_
  rintro v_66 w32 ⟨rfl, e32⟩
  have z32 := e32.size
  refine O.yes rfl rfl ?_
  refine O.not rfl ?_
  refine O.cast (v' := .bool false) rfl ?_
  refine O.pickF rfl ?_
  refine O.mv ?_
  refine O.yes rfl rfl ?_
  refine O.mv ?_
  refine O.yes rfl rfl ?_
  refine O.call Tryz.call33 (args2 rfl rfl) (of_spec 1 4 _) ?_
  rintro v_71 w33 ⟨rfl, e33⟩
  have z33 := e33.size
  refine O.yes rfl rfl ?_
  refine O.call Tryz.call33 (args2 rfl rfl) (of_spec 2 1 _) ?_
  rintro v_72 w34 ⟨rfl, e34⟩
  have z34 := e34.size
  refine O.yes rfl rfl ?_
  refine O.litG (G := Dt.dotF) [(1, 4), (2, 1)] Tryz.underlying23 ti25 ts25 tz25 rfl (by decide) (by decide) rfl (fun b73 w35 hb73 hz73 e35 => ?_)
  have z35 := e35.size
  have h73 := hz73.own
  have hq73 := Sl.litG (n := 2) h73 rfl (by unfold maxLen; omega)
  refine O.yes rfl rfl ?_
  refine O.call Tryz.call33 (args2 rfl rfl) (of_spec 1 4 _) ?_
  rintro v_74 w36 ⟨rfl, e36⟩
  have z36 := e36.size
  refine O.yes rfl rfl ?_
  refine O.call Tryz.call33 (args2 rfl rfl) (of_spec 2 1 _) ?_
  rintro v_75 w37 ⟨rfl, e37⟩
  have z37 := e37.size
  refine O.yes rfl rfl ?_
  refine O.call Tryz.call33 (args2 rfl rfl) (of_spec 3 7 _) ?_
  rintro v_76 w38 ⟨rfl, e38⟩
  have z38 := e38.size
  refine O.yes rfl rfl ?_
  refine O.litG (G := Dt.dotF) [(1, 4), (2, 1), (3, 7)] Tryz.underlying23 ti25 ts25 tz25 rfl (by decide) (by decide) rfl (fun b77 w39 hb77 hz77 e39 => ?_)
  have z39 := e39.size
  have h77 := hz77.own
  have hq77 := Sl.litG (n := 3) h77 rfl (by unfold maxLen; omega)
  refine O.yes rfl rfl ?_
  refine O.call Tryz.call21 (args4 rfl rfl rfl rfl) (merged_spec (.slice (some ⟨b6, 0, none⟩) 2 2) [(1, 2), (3, 7)] (.slice (some ⟨b73, 0, none⟩) 2 2) [(1, 4), (2, 1)] (fun j => j = b6) (fun j => j = b73) (.slice (some ⟨b77, 0, none⟩) 3 3) [(1, 4), (2, 1), (3, 7)] 0 (fun j => j = b77) _ ((((((((((((((((((((((((((((((((((((hq6.keep e4).keep e5).keep e6).keep e7).keep e8).keep e9).keep e10).keep e11).keep e12).keep e13).keep e14).keep e15).keep e16).keep e17).keep e18).keep e19).keep e20).keep e21).keep e22).keep e23).keep e24).keep e25).keep e26).keep e27).keep e28).keep e29).keep e30).keep e31).keep e32).keep e33).keep e34).keep e35).keep e36).keep e37).keep e38).keep e39) ((((hq73.keep e36).keep e37).keep e38).keep e39) (fun j hj => by have hj : j = b6 := hj; have := (((((((((((((((((((((((((((((((((((((h6.keep e4).keep e5).keep e6).keep e7).keep e8).keep e9).keep e10).keep e11).keep e12).keep e13).keep e14).keep e15).keep e16).keep e17).keep e18).keep e19).keep e20).keep e21).keep e22).keep e23).keep e24).keep e25).keep e26).keep e27).keep e28).keep e29).keep e30).keep e31).keep e32).keep e33).keep e34).keep e35).keep e36).keep e37).keep e38).keep e39)).lt; omega) (fun j hj => by have hj : j = b73 := hj; have := (((((h73.keep e36).keep e37).keep e38).keep e39)).lt; omega) (by simp) (by simp) hq77 (by decide +kernel) (by decide +kernel)) ?_
  rintro v_78 w40 ⟨rfl, e40⟩
  have z40 := e40.size
  refine O.yes rfl rfl ?_
  refine O.not rfl ?_
  refine O.cast (v' := .bool false) rfl ?_
  refine O.pickF rfl ?_
  refine O.mv ?_
  refine O.yes rfl rfl ?_
  refine O.call Tryz.call33 (args2 rfl rfl) (of_spec 3 7 _) ?_
  rintro v_82 w41 ⟨rfl, e41⟩
  have z41 := e41.size
  refine O.yes rfl rfl ?_
  refine O.call Tryz.call33 (args2 rfl rfl) (of_spec 1 2 _) ?_
  rintro v_83 w42 ⟨rfl, e42⟩
  have z42 := e42.size
  refine O.yes rfl rfl ?_
  refine O.litG (G := Dt.dotF) [(3, 7), (1, 2)] Tryz.underlying23 ti25 ts25 tz25 rfl (by decide) (by decide) rfl (fun b84 w43 hb84 hz84 e43 => ?_)
  have z43 := e43.size
  have h84 := hz84.own
  have hq84 := Sl.litG (n := 2) h84 rfl (by unfold maxLen; omega)
  refine O.yes rfl rfl ?_
  refine O.call Tryz.call21 (args4 rfl rfl rfl rfl) (merged_spec (.slice (some ⟨b84, 0, none⟩) 2 2) [(3, 7), (1, 2)] (.slice none 0 0) [] (fun j => j = b84) (fun _ => False) (.slice none 0 0) [] 2 (fun _ => False) _ hq84 (Sl.nil _ _ _) (fun j hj => by have hj : j = b84 := hj; have := (h84).lt; omega) (fun _ h => h.elim) (by simp) (by simp) (Sl.nil _ _ _) (by decide +kernel) (by decide +kernel)) ?_
  rintro v_85 w44 ⟨rfl, e44⟩
  have z44 := e44.size
  refine O.yes rfl rfl ?_
  refine O.not rfl ?_
  refine O.cast (v' := .bool false) rfl ?_
  refine O.pickF rfl ?_
  refine O.nil ?_
  refine hK7 _ _ ?_
  refine C.condF rfl ?_
  refine C.skip ?_
  refine hK6 _ _ ?_
  refine C.seqK fun K8 hK8 => ?_
  refine C.seqK fun K9 hK9 => ?_
  refine C.region ?_
  refine O.mv ?_
  refine O.mv ?_
  refine O.call Tryz.call22 (args4 rfl rfl rfl rfl) (orders_spec (.slice (some ⟨b8, 0, none⟩) 1 1) [(1, 2)] (.slice (some ⟨b6, 0, none⟩) 2 2) [(1, 2), (3, 7)] (fun j => j = b8) (fun j => j = b6) (-1) 0 _ (((((((((((((((((((((((((((((((((((((((hq8.keep e6).keep e7).keep e8).keep e9).keep e10).keep e11).keep e12).keep e13).keep e14).keep e15).keep e16).keep e17).keep e18).keep e19).keep e20).keep e21).keep e22).keep e23).keep e24).keep e25).keep e26).keep e27).keep e28).keep e29).keep e30).keep e31).keep e32).keep e33).keep e34).keep e35).keep e36).keep e37).keep e38).keep e39).keep e40).keep e41).keep e42).keep e43).keep e44) (((((((((((((((((((((((((((((((((((((((((hq6.keep e4).keep e5).keep e6).keep e7).keep e8).keep e9).keep e10).keep e11).keep e12).keep e13).keep e14).keep e15).keep e16).keep e17).keep e18).keep e19).keep e20).keep e21).keep e22).keep e23).keep e24).keep e25).keep e26).keep e27).keep e28).keep e29).keep e30).keep e31).keep e32).keep e33).keep e34).keep e35).keep e36).keep e37).keep e38).keep e39).keep e40).keep e41).keep e42).keep e43).keep e44) (fun j hj => by have hj : j = b8 := hj; have := ((((((((((((((((((((((((((((((((((((((((h8.keep e6).keep e7).keep e8).keep e9).keep e10).keep e11).keep e12).keep e13).keep e14).keep e15).keep e16).keep e17).keep e18).keep e19).keep e20).keep e21).keep e22).keep e23).keep e24).keep e25).keep e26).keep e27).keep e28).keep e29).keep e30).keep e31).keep e32).keep e33).keep e34).keep e35).keep e36).keep e37).keep e38).keep e39).keep e40).keep e41).keep e42).keep e43).keep e44)).lt; omega) (fun j hj => by have hj : j = b6 := hj; have := ((((((((((((((((((((((((((((((((((((((((((h6.keep e4).keep e5).keep e6).keep e7).keep e8).keep e9).keep e10).keep e11).keep e12).keep e13).keep e14).keep e15).keep e16).keep e17).keep e18).keep e19).keep e20).keep e21).keep e22).keep e23).keep e24).keep e25).keep e26).keep e27).keep e28).keep e29).keep e30).keep e31).keep e32).keep e33).keep e34).keep e35).keep e36).keep e37).keep e38).keep e39).keep e40).keep e41).keep e42).keep e43).keep e44)).lt; omega) (by simp) (by simp) (by decide +kernel) (by decide +kernel)) ?_
  rintro v_90 w45 ⟨rfl, e45⟩
  have z45 := e45.size
  refine O.not rfl ?_
  refine O.cast (v' := .bool false) rfl ?_
  refine O.mv ?_
  refine O.yes rfl rfl ?_
  refine O.mv ?_
  refine O.yes rfl rfl ?_
  refine O.mv ?_
  refine O.yes rfl rfl ?_
  refine O.call Tryz.call22 (args4 rfl rfl rfl rfl) (orders_spec (.slice (some ⟨b6, 0, none⟩) 2 2) [(1, 2), (3, 7)] (.slice (some ⟨b8, 0, none⟩) 1 1) [(1, 2)] (fun j => j = b6) (fun j => j = b8) 1 0 _ ((((((((((((((((((((((((((((((((((((((((((hq6.keep e4).keep e5).keep e6).keep e7).keep e8).keep e9).keep e10).keep e11).keep e12).keep e13).keep e14).keep e15).keep e16).keep e17).keep e18).keep e19).keep e20).keep e21).keep e22).keep e23).keep e24).keep e25).keep e26).keep e27).keep e28).keep e29).keep e30).keep e31).keep e32).keep e33).keep e34).keep e35).keep e36).keep e37).keep e38).keep e39).keep e40).keep e41).keep e42).keep e43).keep e44).keep e45) ((((((((((((((((((((((((((((((((((((((((hq8.keep e6).keep e7).keep e8).keep e9).keep e10).keep e11).keep e12).keep e13).keep e14).keep e15).keep e16).keep e17).keep e18).keep e19).keep e20).keep e21).keep e22).keep e23).keep e24).keep e25).keep e26).keep e27).keep e28).keep e29).keep e30).keep e31).keep e32).keep e33).keep e34).keep e35).keep e36).keep e37).keep e38).keep e39).keep e40).keep e41).keep e42).keep e43).keep e44).keep e45) (fun j hj => by have hj : j = b6 := hj; have := (((((((((((((((((((((((((((((((((((((((((((h6.keep e4).keep e5).keep e6).keep e7).keep e8).keep e9).keep e10).keep e11).keep e12).keep e13).keep e14).keep e15).keep e16).keep e17).keep e18).keep e19).keep e20).keep e21).keep e22).keep e23).keep e24).keep e25).keep e26).keep e27).keep e28).keep e29).keep e30).keep e31).keep e32).keep e33).keep e34).keep e35).keep e36).keep e37).keep e38).keep e39).keep e40).keep e41).keep e42).keep e43).keep e44).keep e45)).lt; omega) (fun j hj => by have hj : j = b8 := hj; have := (((((((((((((((((((((((((((((((((((((((((h8.keep e6).keep e7).keep e8).keep e9).keep e10).keep e11).keep e12).keep e13).keep e14).keep e15).keep e16).keep e17).keep e18).keep e19).keep e20).keep e21).keep e22).keep e23).keep e24).keep e25).keep e26).keep e27).keep e28).keep e29).keep e30).keep e31).keep e32).keep e33).keep e34).keep e35).keep e36).keep e37).keep e38).keep e39).keep e40).keep e41).keep e42).keep e43).keep e44).keep e45)).lt; omega) (by simp) (by simp) (by decide +kernel) (by decide +kernel)) ?_
  rintro v_95 w46 ⟨rfl, e46⟩
  have z46 := e46.size
  refine O.yes rfl rfl ?_
  refine O.not rfl ?_
  refine O.cast (v' := .bool false) rfl ?_
  refine O.pickF rfl ?_
  refine O.mv ?_
  refine O.yes rfl rfl ?_
  refine O.mv ?_
  refine O.yes rfl rfl ?_
  refine O.mv ?_
  refine O.yes rfl rfl ?_
  refine O.call Tryz.call22 (args4 rfl rfl rfl rfl) (orders_spec (.slice (some ⟨b8, 0, none⟩) 1 1) [(1, 2)] (.slice (some ⟨b10, 0, none⟩) 1 1) [(3, 7)] (fun j => j = b8) (fun j => j = b10) 2 0 _ (((((((((((((((((((((((((((((((((((((((((hq8.keep e6).keep e7).keep e8).keep e9).keep e10).keep e11).keep e12).keep e13).keep e14).keep e15).keep e16).keep e17).keep e18).keep e19).keep e20).keep e21).keep e22).keep e23).keep e24).keep e25).keep e26).keep e27).keep e28).keep e29).keep e30).keep e31).keep e32).keep e33).keep e34).keep e35).keep e36).keep e37).keep e38).keep e39).keep e40).keep e41).keep e42).keep e43).keep e44).keep e45).keep e46) (((((((((((((((((((((((((((((((((((((((hq10.keep e8).keep e9).keep e10).keep e11).keep e12).keep e13).keep e14).keep e15).keep e16).keep e17).keep e18).keep e19).keep e20).keep e21).keep e22).keep e23).keep e24).keep e25).keep e26).keep e27).keep e28).keep e29).keep e30).keep e31).keep e32).keep e33).keep e34).keep e35).keep e36).keep e37).keep e38).keep e39).keep e40).keep e41).keep e42).keep e43).keep e44).keep e45).keep e46) (fun j hj => by have hj : j = b8 := hj; have := ((((((((((((((((((((((((((((((((((((((((((h8.keep e6).keep e7).keep e8).keep e9).keep e10).keep e11).keep e12).keep e13).keep e14).keep e15).keep e16).keep e17).keep e18).keep e19).keep e20).keep e21).keep e22).keep e23).keep e24).keep e25).keep e26).keep e27).keep e28).keep e29).keep e30).keep e31).keep e32).keep e33).keep e34).keep e35).keep e36).keep e37).keep e38).keep e39).keep e40).keep e41).keep e42).keep e43).keep e44).keep e45).keep e46)).lt; omega) (fun j hj => by have hj : j = b10 := hj; have := ((((((((((((((((((((((((((((((((((((((((h10.keep e8).keep e9).keep e10).keep e11).keep e12).keep e13).keep e14).keep e15).keep e16).keep e17).keep e18).keep e19).keep e20).keep e21).keep e22).keep e23).keep e24).keep e25).keep e26).keep e27).keep e28).keep e29).keep e30).keep e31).keep e32).keep e33).keep e34).keep e35).keep e36).keep e37).keep e38).keep e39).keep e40).keep e41).keep e42).keep e43).keep e44).keep e45).keep e46)).lt; omega) (by simp) (by simp) (by decide +kernel) (by decide +kernel)) ?_
  rintro v_101 w47 ⟨rfl, e47⟩
  have z47 := e47.size
  refine O.yes rfl rfl ?_
  refine O.not rfl ?_
  refine O.cast (v' := .bool false) rfl ?_
  refine O.pickF rfl ?_
  refine O.mv ?_
  refine O.yes rfl rfl ?_
  refine O.call Tryz.call22 (args4 rfl rfl rfl rfl) (orders_spec (.slice none 0 0) [] (.slice none 0 0) [] (fun _ => False) (fun _ => False) 0 0 _ (Sl.nil _ _ _) (Sl.nil _ _ _) (fun _ h => h.elim) (fun _ h => h.elim) (by simp) (by simp) (by decide +kernel) (by decide +kernel)) ?_
  rintro v_105 w48 ⟨rfl, e48⟩
  have z48 := e48.size
  refine O.yes rfl rfl ?_
  refine O.not rfl ?_
  refine O.cast (v' := .bool false) rfl ?_
  refine O.pickF rfl ?_
  refine O.mv ?_
  refine O.yes rfl rfl ?_
  refine O.call Tryz.call27 (args3 rfl rfl rfl) (texts_spec (.slice none 0 0) [] (fun _ => False) [45] 0 _ (Sl.nil _ _ _) (by simp) ((((((((((((((((((((((((((((((((((((((((((((((((htb.keep e1).keep e2).keep e3).keep e4).keep e5).keep e6).keep e7).keep e8).keep e9).keep e10).keep e11).keep e12).keep e13).keep e14).keep e15).keep e16).keep e17).keep e18).keep e19).keep e20).keep e21).keep e22).keep e23).keep e24).keep e25).keep e26).keep e27).keep e28).keep e29).keep e30).keep e31).keep e32).keep e33).keep e34).keep e35).keep e36).keep e37).keep e38).keep e39).keep e40).keep e41).keep e42).keep e43).keep e44).keep e45).keep e46).keep e47).keep e48) (by decide +kernel) (by decide +kernel)) ?_
  rintro v_109 w49 ⟨rfl, e49⟩
  have z49 := e49.size
  refine O.yes rfl rfl ?_
  refine O.not rfl ?_
  refine O.cast (v' := .bool false) rfl ?_
  refine O.pickF rfl ?_
  refine O.nil ?_
  refine hK9 _ _ ?_
  refine C.condF rfl ?_
  refine C.skip ?_
  refine hK8 _ _ ?_
  refine C.seqK fun K10 hK10 => ?_
  refine C.region ?_
  refine O.mv ?_
  refine O.call Tryz.call30 (args3 rfl rfl rfl) (parses_spec [49, 46, 50, 32, 51, 46, 55] (.slice (some ⟨b6, 0, none⟩) 2 2) [(1, 2), (3, 7)] 0 (fun j => j = b6) es er _ (by decide) ((((((((((((((((((((((((((((((((((((((((((((((hq6.keep e4).keep e5).keep e6).keep e7).keep e8).keep e9).keep e10).keep e11).keep e12).keep e13).keep e14).keep e15).keep e16).keep e17).keep e18).keep e19).keep e20).keep e21).keep e22).keep e23).keep e24).keep e25).keep e26).keep e27).keep e28).keep e29).keep e30).keep e31).keep e32).keep e33).keep e34).keep e35).keep e36).keep e37).keep e38).keep e39).keep e40).keep e41).keep e42).keep e43).keep e44).keep e45).keep e46).keep e47).keep e48).keep e49) (((((((((((((((((((((((((((((((((((((((((((((((((htb.keep e1).keep e2).keep e3).keep e4).keep e5).keep e6).keep e7).keep e8).keep e9).keep e10).keep e11).keep e12).keep e13).keep e14).keep e15).keep e16).keep e17).keep e18).keep e19).keep e20).keep e21).keep e22).keep e23).keep e24).keep e25).keep e26).keep e27).keep e28).keep e29).keep e30).keep e31).keep e32).keep e33).keep e34).keep e35).keep e36).keep e37).keep e38).keep e39).keep e40).keep e41).keep e42).keep e43).keep e44).keep e45).keep e46).keep e47).keep e48).keep e49) (((((((((((((((((((((((((((((((((((((((((((((((((hes.keep e1).keep e2).keep e3).keep e4).keep e5).keep e6).keep e7).keep e8).keep e9).keep e10).keep e11).keep e12).keep e13).keep e14).keep e15).keep e16).keep e17).keep e18).keep e19).keep e20).keep e21).keep e22).keep e23).keep e24).keep e25).keep e26).keep e27).keep e28).keep e29).keep e30).keep e31).keep e32).keep e33).keep e34).keep e35).keep e36).keep e37).keep e38).keep e39).keep e40).keep e41).keep e42).keep e43).keep e44).keep e45).keep e46).keep e47).keep e48).keep e49) (((((((((((((((((((((((((((((((((((((((((((((((((her.keep e1).keep e2).keep e3).keep e4).keep e5).keep e6).keep e7).keep e8).keep e9).keep e10).keep e11).keep e12).keep e13).keep e14).keep e15).keep e16).keep e17).keep e18).keep e19).keep e20).keep e21).keep e22).keep e23).keep e24).keep e25).keep e26).keep e27).keep e28).keep e29).keep e30).keep e31).keep e32).keep e33).keep e34).keep e35).keep e36).keep e37).keep e38).keep e39).keep e40).keep e41).keep e42).keep e43).keep e44).keep e45).keep e46).keep e47).keep e48).keep e49) g1 g2 (by decide +kernel) (by decide +kernel)) ?_
  rintro v_113 w50 ⟨rfl, e50⟩
  have z50 := e50.size
  refine O.mv ?_
  refine O.yes rfl rfl ?_
  refine O.call Tryz.call30 (args3 rfl rfl rfl) (parses_spec [51, 46, 55, 32, 49, 46, 50] (.slice none 0 0) [] 6 (fun _ => False) es er _ (by decide) (Sl.nil _ _ _) ((((((((((((((((((((((((((((((((((((((((((((((((((htb.keep e1).keep e2).keep e3).keep e4).keep e5).keep e6).keep e7).keep e8).keep e9).keep e10).keep e11).keep e12).keep e13).keep e14).keep e15).keep e16).keep e17).keep e18).keep e19).keep e20).keep e21).keep e22).keep e23).keep e24).keep e25).keep e26).keep e27).keep e28).keep e29).keep e30).keep e31).keep e32).keep e33).keep e34).keep e35).keep e36).keep e37).keep e38).keep e39).keep e40).keep e41).keep e42).keep e43).keep e44).keep e45).keep e46).keep e47).keep e48).keep e49).keep e50) ((((((((((((((((((((((((((((((((((((((((((((((((((hes.keep e1).keep e2).keep e3).keep e4).keep e5).keep e6).keep e7).keep e8).keep e9).keep e10).keep e11).keep e12).keep e13).keep e14).keep e15).keep e16).keep e17).keep e18).keep e19).keep e20).keep e21).keep e22).keep e23).keep e24).keep e25).keep e26).keep e27).keep e28).keep e29).keep e30).keep e31).keep e32).keep e33).keep e34).keep e35).keep e36).keep e37).keep e38).keep e39).keep e40).keep e41).keep e42).keep e43).keep e44).keep e45).keep e46).keep e47).keep e48).keep e49).keep e50) ((((((((((((((((((((((((((((((((((((((((((((((((((her.keep e1).keep e2).keep e3).keep e4).keep e5).keep e6).keep e7).keep e8).keep e9).keep e10).keep e11).keep e12).keep e13).keep e14).keep e15).keep e16).keep e17).keep e18).keep e19).keep e20).keep e21).keep e22).keep e23).keep e24).keep e25).keep e26).keep e27).keep e28).keep e29).keep e30).keep e31).keep e32).keep e33).keep e34).keep e35).keep e36).keep e37).keep e38).keep e39).keep e40).keep e41).keep e42).keep e43).keep e44).keep e45).keep e46).keep e47).keep e48).keep e49).keep e50) g1 g2 (by decide +kernel) (by decide +kernel)) ?_
  rintro v_115 w51 ⟨rfl, e51⟩
  have z51 := e51.size
  refine O.pickT rfl ?_
  refine O.mv ?_
  refine O.yes rfl rfl ?_
  refine O.call Tryz.call30 (args3 rfl rfl rfl) (parses_spec [] (.slice none 0 0) [] 6 (fun _ => False) es er _ (by decide) (Sl.nil _ _ _) (((((((((((((((((((((((((((((((((((((((((((((((((((htb.keep e1).keep e2).keep e3).keep e4).keep e5).keep e6).keep e7).keep e8).keep e9).keep e10).keep e11).keep e12).keep e13).keep e14).keep e15).keep e16).keep e17).keep e18).keep e19).keep e20).keep e21).keep e22).keep e23).keep e24).keep e25).keep e26).keep e27).keep e28).keep e29).keep e30).keep e31).keep e32).keep e33).keep e34).keep e35).keep e36).keep e37).keep e38).keep e39).keep e40).keep e41).keep e42).keep e43).keep e44).keep e45).keep e46).keep e47).keep e48).keep e49).keep e50).keep e51) (((((((((((((((((((((((((((((((((((((((((((((((((((hes.keep e1).keep e2).keep e3).keep e4).keep e5).keep e6).keep e7).keep e8).keep e9).keep e10).keep e11).keep e12).keep e13).keep e14).keep e15).keep e16).keep e17).keep e18).keep e19).keep e20).keep e21).keep e22).keep e23).keep e24).keep e25).keep e26).keep e27).keep e28).keep e29).keep e30).keep e31).keep e32).keep e33).keep e34).keep e35).keep e36).keep e37).keep e38).keep e39).keep e40).keep e41).keep e42).keep e43).keep e44).keep e45).keep e46).keep e47).keep e48).keep e49).keep e50).keep e51) (((((((((((((((((((((((((((((((((((((((((((((((((((her.keep e1).keep e2).keep e3).keep e4).keep e5).keep e6).keep e7).keep e8).keep e9).keep e10).keep e11).keep e12).keep e13).keep e14).keep e15).keep e16).keep e17).keep e18).keep e19).keep e20).keep e21).keep e22).keep e23).keep e24).keep e25).keep e26).keep e27).keep e28).keep e29).keep e30).keep e31).keep e32).keep e33).keep e34).keep e35).keep e36).keep e37).keep e38).keep e39).keep e40).keep e41).keep e42).keep e43).keep e44).keep e45).keep e46).keep e47).keep e48).keep e49).keep e50).keep e51) g1 g2 (by decide +kernel) (by decide +kernel)) ?_
  rintro v_118 w52 ⟨rfl, e52⟩
  have z52 := e52.size
  refine O.pickT rfl ?_
  refine O.asg ?_
  refine O.nil ?_
  refine hK10 _ _ ?_
  refine C.ret ?_
  refine Outs.one rfl rfl ?_
  exact ⟨rfl, (Ext.trans (Ext.trans (Ext.trans (Ext.trans (Ext.trans (Ext.trans (Ext.trans (Ext.trans (Ext.trans (Ext.trans (Ext.trans (Ext.trans (Ext.trans (Ext.trans (Ext.trans (Ext.trans (Ext.trans (Ext.trans (Ext.trans (Ext.trans (Ext.trans (Ext.trans (Ext.trans (Ext.trans (Ext.trans (Ext.trans (Ext.trans (Ext.trans (Ext.trans (Ext.trans (Ext.trans (Ext.trans (Ext.trans (Ext.trans (Ext.trans (Ext.trans (Ext.trans (Ext.trans (Ext.trans (Ext.trans (Ext.trans (Ext.trans (Ext.trans (Ext.trans (Ext.trans (Ext.trans (Ext.trans (Ext.trans (Ext.trans (Ext.trans (Ext.trans e1 e2) e3) e4) e5) e6) e7) e8) e9) e10) e11) e12) e13) e14) e15) e16) e17) e18) e19) e20) e21) e22) e23) e24) e25) e26) e27) e28) e29) e30) e31) e32) e33) e34) e35) e36) e37) e38) e39) e40) e41) e42) e43) e44) e45) e46) e47) e48) e49) e50) e51) e52)⟩

end Go.Proofs.YtbmbaajfkmejgaaGreatDoor
end
section
/-
  What the rows' listed variables and arguments give the walks; a world that holds the list.
-/
namespace Go.Proofs.YtbmbaajfkmejgaaGreatDoor
open Go.Pn Go.ChangeShapes Go.WideShapes Go.ChangeAt Go.RowKit
theorem pOwn : ownKnob Tryz.prog.godebug = none := by kernel_rfl
theorem pLaidOut : laidOutB Tryz.prog = true := by kernel_rfl
theorem opensDot (W : World) : Opens Tryz.prog W Dt.dotF.enc (fun _ => True) 25 :=
  (Opens.struct2 Tryz.underlying25 (Opens.int Tryz.underlying3 (by kernel_rfl)) (Opens.int Tryz.underlying3 (by kernel_rfl)) rfl rfl (by kernel_rfl)).imp rfl fun cs d h _ => by
    obtain ⟨a, b, rfl, ha, hb⟩ := h
    exact ⟨d, by rw [show a = [.int .i64 d.1] from ha, show b = [.int .i64 d.2] from hb]; rfl, trivial⟩
set_option maxRecDepth 100000 in
theorem dots_of {W : World} {H : Type} {enc : TypeId × Value → H} {base : Nat} {v : Value} {d : DataW H} {p : List MemPlace} (hval : Value.okWide Tryz.prog W .any base 23 v) (h : DataW.Trod enc Tryz.prog W 0 (fun _ => true) true 23 v d p) : ∃ l : List Dt.Dot, Sl Dt.dotF.enc W (fun k => k < W.heap.size) v l := by
  obtain ⟨l, h1, _⟩ := arg_slice (opensDot W) Tryz.underlying23 (by kernel_rfl) (by decide) hval h
  exact ⟨l, h1⟩
theorem pFacts {W : World} (h : laidMetH Tryz.prog Rows.vectorLooksRow.laid W) : Tb W ∧ (∃ es, CellIs W 3 es ∧ ∃ te pe, es = .iface te pe) ∧ (∃ es, CellIs W 4 es ∧ ∃ te pe, es = .iface te pe) := by
  have h2 := laidH h (by kernel_rfl)
  exact ⟨⟨tab_is h2 (name := "internal/strconv.uint64pow10") (g := 5) (.tail _ (.tail _ (.head _))) (by kernel_rfl) (by kernel_rfl) (by kernel_rfl) Tryz.underlying165 Tryz.underlying117 (by kernel_rfl) (by kernel_rfl)⟩, (by obtain ⟨te, pe, h3⟩ := cell_err h2 (name := "strconv.ErrSyntax") (.tail _ (.tail _ (.tail _ (.tail _ (.tail _ (.head _)))))) (by kernel_rfl) (by kernel_rfl) Tryz.underlying93; exact ⟨_, h3, te, pe, rfl⟩), (by obtain ⟨te, pe, h3⟩ := cell_err h2 (name := "strconv.ErrRange") (.tail _ (.tail _ (.tail _ (.tail _ (.head _))))) (by kernel_rfl) (by kernel_rfl) Tryz.underlying93; exact ⟨_, h3, te, pe, rfl⟩)⟩
def pFlat : DataW Unit → List Value
  | .agg l => l.flatMap fun
    | .lit (.int k n) => [Value.int k n]
    | .agg l2 => l2.map fun
      | .lit (.int k n) => Value.int k n
      | _ => .nilIface
    | _ => [.nilIface]
  | _ => []
def pPut (h : Array Obj) (g : Nat) (cs : List Value) : Array Obj := h.modify g fun
  | .cells _ t frozen => .cells cs.toArray t frozen
  | o => o
noncomputable def pWorld (os : Os) : World :=
  { World.holding Tryz.prog os ⟨#[], #[], []⟩ with heap := (((pPut (pPut (pPut (pPut (pPut (pPut (pPut (World.holding Tryz.prog os ⟨#[], #[], []⟩).heap 6 (pFlat Rows.laid_math_bits_deBruijn32tab)) 7 (pFlat Rows.laid_math_bits_deBruijn64tab)) 5 (pFlat Rows.laid_internal_strconv_uint64pow10)) 2 (pFlat Rows.laid_unicode_utf8_acceptRanges)) 4 [.iface 161 (.pointer (some ⟨(World.holding Tryz.prog os ⟨#[], #[], []⟩).heap.size + 0, 0, none⟩))]) 3 [.iface 161 (.pointer (some ⟨(World.holding Tryz.prog os ⟨#[], #[], []⟩).heap.size + 1, 0, none⟩))]) 1 (pFlat Rows.laid_unicode_utf8_first)).push (.cells #[.string ⟨#[118, 97, 108, 117, 101, 32, 111, 117, 116, 32, 111, 102, 32, 114, 97, 110, 103, 101]⟩] 163)).push (.cells #[.string ⟨#[105, 110, 118, 97, 108, 105, 100, 32, 115, 121, 110, 116, 97, 120]⟩] 163)) }
set_option maxRecDepth 100000 in
theorem pMet (os : Os) (args : Array Value) : laidMet Tryz.prog Rows.vectorLooksRow.laid ((pWorld os).forCall (fun _ _ => 0) ⟨#[], args, []⟩).memory :=
  laidMet_of_run' 8 (by kernel_rfl) (by kernel_rfl)
end Go.Proofs.YtbmbaajfkmejgaaGreatDoor
end
section
/-
  The walks of the laws. Conditions: slices as they lie in memory; the library's table and its errors.
-/
namespace Go.Proofs.YtbmbaajfkmejgaaGreatDoor
open Go.Pn Go.RowKit Go.Proofs
attribute [local irreducible] O C D


set_option maxHeartbeats 1000000 in
theorem vectorTexts_spec (v0 : Value) (l : List Dt.Dot) (s : List UInt8) (F : Nat → Prop) (es er : Value) (w : World) (hl : Sl Dt.dotF.enc w F v0 l) (hF : ∀ k, F k → k < w.heap.size) (htb : Tb w) (hes : CellIs w 3 es) (her : CellIs w 4 er) (g1 : ∃ te pe, es = .iface te pe) (g2 : ∃ te pe, er = .iface te pe) :
    Ret Tryz.prog 6 #[v0, str (s)] w (fun v w' => v = .bool true ∧ Le w w') := by
  have hle := hl.le
  refine enter (args := [v0, str (s)]) (n := 45) Tryz.func6 rfl rfl (Nat.le_of_ble_eq_true rfl) ?_
  refine C.seqK fun K1 hK1 => ?_
  refine C.region ?_
  refine O.asg ?_
  refine O.nil ?_
  refine hK1 _ _ ?_
  refine C.seqK fun K2 hK2 => ?_
  refine C.seqK fun K3 hK3 => ?_
  refine C.region ?_
  refine O.mv ?_
  refine O.len Tryz.underlying23 rfl hl ?_
  refine O.gtrI rfl rfl ?_
  refine O.mv ?_
  refine O.splitD (x := .tmp 10) rfl (fun c10 => ?_) (fun c10 => ?_)
  ·
    refine O.no rfl (noB (isT rfl c10) rfl) ?_
    refine O.no rfl (noB (isT rfl c10) rfl) ?_
    refine O.no rfl (noB (isT rfl c10) rfl) ?_
    refine O.pickT (isT rfl c10) ?_
    refine O.nil ?_
    refine hK3 _ _ ?_
    refine C.condT rfl ?_
    refine C.seqK fun K4 hK4 => ?_
    refine C.region ?_
    refine O.call Tryz.call8 (argsN) (known_spec es er _ htb hes her g1 g2) ?_
    rintro v_15 w1 ⟨rfl, e1⟩
    have z1 := e1.size
    refine O.asg ?_
    refine O.nil ?_
    refine hK4 _ _ ?_
    refine C.ret ?_
    refine Outs.one rfl rfl ?_
    exact ⟨rfl, e1⟩
  ·
    refine O.yes rfl (isF rfl c10) ?_
    refine O.mv ?_
    refine O.yes rfl (isF rfl c10) ?_
    refine O.lenS Tryz.underlying9 rfl ?_
    refine O.yes rfl (isF rfl c10) ?_
    refine O.gtrI rfl rfl ?_
    refine O.pickF (isF rfl c10) ?_
    refine O.nil ?_
    refine hK3 _ _ ?_
    refine C.condD rfl (fun c14 => ?_) (fun c14 => ?_)
    ·
      refine C.seqK fun K5 hK5 => ?_
      refine C.region ?_
      refine O.call Tryz.call8 (argsN) (known_spec es er _ htb hes her g1 g2) ?_
      rintro v_15 w2 ⟨rfl, e2⟩
      have z2 := e2.size
      refine O.asg ?_
      refine O.nil ?_
      refine hK5 _ _ ?_
      refine C.ret ?_
      refine Outs.one rfl rfl ?_
      exact ⟨rfl, e2⟩
    ·
      refine C.skip ?_
      refine hK2 _ _ ?_
      refine C.seqK fun K6 hK6 => ?_
      refine C.seqK fun K7 hK7 => ?_
      refine C.region ?_
      refine O.mv ?_
      refine O.call Tryz.call10 (args1 rfl) (rvecValid_spec _ _ _ _ hl) ?_
      rintro v_17 w3 ⟨rfl, e3⟩
      have z3 := e3.size
      refine O.not rfl ?_
      refine O.nil ?_
      refine hK7 _ _ ?_
      refine C.cond rfl (fun c18 => ?_) (fun c18 => ?_)
      ·
        have hvn : Cn.vecValid l = false := by simpa using c18
        refine C.seqK fun K8 hK8 => ?_
        refine C.region ?_
        refine O.mv ?_
        refine O.call Tryz.call27 (args3 rfl rfl rfl) (texts_spec v0 l F [] 2 _ (hl.keep e3) (by omega) (htb.keep e3) (by rw [hvn]; rfl) (by rw [hvn]; rfl)) ?_
        rintro v_20 w4 ⟨rfl, e4⟩
        have z4 := e4.size
        refine O.not rfl ?_
        refine O.cast (v' := .bool false) rfl ?_
        refine O.nil ?_
        refine hK8 _ _ ?_
        refine C.condF rfl ?_
        refine C.skip ?_
        refine hK6 _ _ ?_
        refine C.seqK fun K9 hK9 => ?_
        refine C.region ?_
        refine O.mv ?_
        refine O.call Tryz.call29 (args1 rfl) (rvparse_spec s _ (by omega)) ?_
        rintro v_29 w5 ⟨e5, uv29, rfl, h29⟩
        have z5 := e5.size
        refine O.mv ?_
        refine O.extract rfl rfl ?_
        refine O.extract rfl rfl ?_
        refine O.asg ?_
        refine O.asg ?_
        refine O.nil ?_
        refine hK9 _ _ ?_
        refine C.seqK fun K10 hK10 => ?_
        refine C.seqK fun K11 hK11 => ?_
        refine C.region ?_
        refine O.mv ?_
        refine O.not rfl ?_
        refine O.nil ?_
        refine hK11 _ _ ?_
        refine C.cond rfl (fun c33 => ?_) (fun c33 => ?_)
        ·
          have hpn : Vc.vparse s = none := by simpa using c33
          refine C.seqK fun K12 hK12 => ?_
          refine C.region ?_
          refine O.mv ?_
          refine O.call Tryz.call30 (args3 rfl rfl rfl) (parses_spec s (.slice none 0 0) [] 6 (fun _ => False) es er _ (by omega) (Sl.nil _ _ _) (((htb.keep e3).keep e4).keep e5) (((hes.keep e3).keep e4).keep e5) (((her.keep e3).keep e4).keep e5) g1 g2 (by rw [hpn]; rfl) (by rw [hpn]; rfl)) ?_
          rintro v_35 w6 ⟨rfl, e6⟩
          have z6 := e6.size
          refine O.mv ?_
          refine O.yes rfl rfl ?_
          refine O.call Tryz.call8 (argsN) (known_spec es er _ ((((htb.keep e3).keep e4).keep e5).keep e6) ((((hes.keep e3).keep e4).keep e5).keep e6) ((((her.keep e3).keep e4).keep e5).keep e6) g1 g2) ?_
          rintro v_37 w7 ⟨rfl, e7⟩
          have z7 := e7.size
          refine O.pickT rfl ?_
          refine O.asg ?_
          refine O.nil ?_
          refine hK12 _ _ ?_
          refine C.ret ?_
          refine Outs.one rfl rfl ?_
          exact ⟨rfl, (Ext.trans (Ext.trans (Ext.trans (Ext.trans e3 e4) e5) e6) e7)⟩
        ·
          have hpy : (Vc.vparse s).isSome = true := by simpa using c33
          refine C.skip ?_
          refine hK10 _ _ ?_
          refine C.seqK fun K13 hK13 => ?_
          refine C.region ?_
          refine O.mv ?_
          refine O.mv ?_
          refine O.call Tryz.call30 (args3 rfl rfl rfl) (parses_spec s uv29 _ 0 _ es er _ (by omega) h29 (((htb.keep e3).keep e4).keep e5) (((hes.keep e3).keep e4).keep e5) (((her.keep e3).keep e4).keep e5) g1 g2 rfl (by rw [hpy]; rfl)) ?_
          rintro v_41 w8 ⟨rfl, e8⟩
          have z8 := e8.size
          refine O.mv ?_
          refine O.yes rfl rfl ?_
          refine O.call Tryz.call8 (argsN) (known_spec es er _ ((((htb.keep e3).keep e4).keep e5).keep e8) ((((hes.keep e3).keep e4).keep e5).keep e8) ((((her.keep e3).keep e4).keep e5).keep e8) g1 g2) ?_
          rintro v_43 w9 ⟨rfl, e9⟩
          have z9 := e9.size
          refine O.pickT rfl ?_
          refine O.asg ?_
          refine O.nil ?_
          refine hK13 _ _ ?_
          refine C.ret ?_
          refine Outs.one rfl rfl ?_
          exact ⟨rfl, (Ext.trans (Ext.trans (Ext.trans (Ext.trans e3 e4) e5) e8) e9)⟩
      ·
        have hva : Cn.vecValid l = true := by simpa using c18
        refine C.seqK fun K14 hK14 => ?_
        refine C.region ?_
        refine O.mv ?_
        refine O.mv ?_
        refine O.call Tryz.call28 (args1 rfl) (rvtext_spec v0 l F _ (hl.keep e3) (by omega) hva) ?_
        rintro v_24 w10 ⟨rfl, e10⟩
        have z10 := e10.size
        refine O.call Tryz.call27 (args3 rfl rfl rfl) (texts_spec v0 l F (Vc.vtext l) 0 _ ((hl.keep e3).keep e10) (by omega) ((htb.keep e3).keep e10) (by rw [hva]; rfl) (by rw [hva]; rfl)) ?_
        rintro v_25 w11 ⟨rfl, e11⟩
        have z11 := e11.size
        refine O.not rfl ?_
        refine O.cast (v' := .bool false) rfl ?_
        refine O.nil ?_
        refine hK14 _ _ ?_
        refine C.condF rfl ?_
        refine C.skip ?_
        refine hK6 _ _ ?_
        refine C.seqK fun K15 hK15 => ?_
        refine C.region ?_
        refine O.mv ?_
        refine O.call Tryz.call29 (args1 rfl) (rvparse_spec s _ (by omega)) ?_
        rintro v_29 w12 ⟨e12, uv29, rfl, h29⟩
        have z12 := e12.size
        refine O.mv ?_
        refine O.extract rfl rfl ?_
        refine O.extract rfl rfl ?_
        refine O.asg ?_
        refine O.asg ?_
        refine O.nil ?_
        refine hK15 _ _ ?_
        refine C.seqK fun K16 hK16 => ?_
        refine C.seqK fun K17 hK17 => ?_
        refine C.region ?_
        refine O.mv ?_
        refine O.not rfl ?_
        refine O.nil ?_
        refine hK17 _ _ ?_
        refine C.cond rfl (fun c33 => ?_) (fun c33 => ?_)
        ·
          have hpn : Vc.vparse s = none := by simpa using c33
          refine C.seqK fun K18 hK18 => ?_
          refine C.region ?_
          refine O.mv ?_
          refine O.call Tryz.call30 (args3 rfl rfl rfl) (parses_spec s (.slice none 0 0) [] 6 (fun _ => False) es er _ (by omega) (Sl.nil _ _ _) ((((htb.keep e3).keep e10).keep e11).keep e12) ((((hes.keep e3).keep e10).keep e11).keep e12) ((((her.keep e3).keep e10).keep e11).keep e12) g1 g2 (by rw [hpn]; rfl) (by rw [hpn]; rfl)) ?_
          rintro v_35 w13 ⟨rfl, e13⟩
          have z13 := e13.size
          refine O.mv ?_
          refine O.yes rfl rfl ?_
          refine O.call Tryz.call8 (argsN) (known_spec es er _ (((((htb.keep e3).keep e10).keep e11).keep e12).keep e13) (((((hes.keep e3).keep e10).keep e11).keep e12).keep e13) (((((her.keep e3).keep e10).keep e11).keep e12).keep e13) g1 g2) ?_
          rintro v_37 w14 ⟨rfl, e14⟩
          have z14 := e14.size
          refine O.pickT rfl ?_
          refine O.asg ?_
          refine O.nil ?_
          refine hK18 _ _ ?_
          refine C.ret ?_
          refine Outs.one rfl rfl ?_
          exact ⟨rfl, (Ext.trans (Ext.trans (Ext.trans (Ext.trans (Ext.trans e3 e10) e11) e12) e13) e14)⟩
        ·
          have hpy : (Vc.vparse s).isSome = true := by simpa using c33
          refine C.skip ?_
          refine hK16 _ _ ?_
          refine C.seqK fun K19 hK19 => ?_
          refine C.region ?_
          refine O.mv ?_
          refine O.mv ?_
          refine O.call Tryz.call30 (args3 rfl rfl rfl) (parses_spec s uv29 _ 0 _ es er _ (by omega) h29 ((((htb.keep e3).keep e10).keep e11).keep e12) ((((hes.keep e3).keep e10).keep e11).keep e12) ((((her.keep e3).keep e10).keep e11).keep e12) g1 g2 rfl (by rw [hpy]; rfl)) ?_
          rintro v_41 w15 ⟨rfl, e15⟩
          have z15 := e15.size
          refine O.mv ?_
          refine O.yes rfl rfl ?_
          refine O.call Tryz.call8 (argsN) (known_spec es er _ (((((htb.keep e3).keep e10).keep e11).keep e12).keep e15) (((((hes.keep e3).keep e10).keep e11).keep e12).keep e15) (((((her.keep e3).keep e10).keep e11).keep e12).keep e15) g1 g2) ?_
          rintro v_43 w16 ⟨rfl, e16⟩
          have z16 := e16.size
          refine O.pickT rfl ?_
          refine O.asg ?_
          refine O.nil ?_
          refine hK19 _ _ ?_
          refine C.ret ?_
          refine Outs.one rfl rfl ?_
          exact ⟨rfl, (Ext.trans (Ext.trans (Ext.trans (Ext.trans (Ext.trans e3 e10) e11) e12) e15) e16)⟩

end Go.Proofs.YtbmbaajfkmejgaaGreatDoor
end
