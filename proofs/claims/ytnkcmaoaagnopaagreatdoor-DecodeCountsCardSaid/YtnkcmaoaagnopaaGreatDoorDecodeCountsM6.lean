/-
  The walks of the laws' helpers: carts counted, answers held against what they must be. Conditions: slices as they lie in memory.
-/
import Derived.Test.YtnkcmaoaagnopaaGreatDoorDecodeCountsM4
import Derived.Test.YtnkcmaoaagnopaaGreatDoorDecodeCountsM5
import Derived.Test.YtnkcmaoaagnopaaGreatDoorDecodeCountsM2
import Derived.Test.YtnkcmaoaagnopaaGreatDoorDecodeCountsM1
section
namespace Go.Proofs.YtnkcmaoaagnopaaGreatDoor
open Go.Pn Go.RowKit Go.Proofs
attribute [local irreducible] O C D

set_option maxHeartbeats 1000000 in
theorem isY_spec (v0 : Value) (l : List UInt8) (F : Nat → Prop) (vb1 vb2 vb3 : Value) (b : Cn.Cart) (Fb : Nat → Prop) (w : World) (hl : Sl byteE w F v0 l) (hL : l.length ≤ 1000000) (hF : ∀ j, F j → j < w.heap.size) (mx : Mx w) (hbv : Sl Dt.dotF.enc w Fb vb1 b.1.1) (hbc : Sl Dt.dotF.enc w Fb vb2 b.1.2) (hbi : Sl itemE w Fb vb3 b.2) (hFb : ∀ k, Fb k → k < w.heap.size) (hr : Cn.CartRes l b 0) :
    Ret Tryz.prog 35 #[v0, .agg #[vb1, vb2, vb3], .bool (true)] w (fun v w' => v = .bool true ∧ Le w w') := by
  have hll := hl.le
  have hgl := mx.lt
  refine enter (args := [v0, .agg #[vb1, vb2, vb3], .bool (true)]) (n := 30) Tryz.func35 rfl rfl (Nat.le_of_ble_eq_true rfl) ?_
  refine C.seqK fun K1 hK1 => ?_
  refine C.region ?_
  refine O.box (v := .agg #[vb1, vb2, vb3]) rfl (fun b4 w1 hb4 hz4 e1 => ?_)
  have z1 := e1.size
  have h4 := hz4.own
  have hl4 := h4.lt
  refine O.asg ?_
  refine O.nil ?_
  refine hK1 _ _ ?_
  refine C.seqK fun K2 hK2 => ?_
  refine C.region ?_
  refine O.mv ?_
  refine O.call Tryz.call34 (args1 rfl) (dcart_spec v0 l F _ (hl.keep e1) hL (fun j hj => by have q1 := hF j hj; omega) (mx.keep e1)) ?_
  rintro v_11 w2 ⟨vav11, vbv11, vcv11, cv11, env11, rfl, hxv11, hyv11, hzv11, hgv11, hpv11, e2⟩
  have z2 := e2.size
  replace hxv11 := hxv11.sl
  replace hyv11 := hyv11.sl
  replace hzv11 := hzv11.sl
  obtain ⟨p1, rfl⟩ := hxv11.slv
  obtain ⟨p2, rfl⟩ := hyv11.slv
  obtain ⟨p3, rfl⟩ := hzv11.slv
  obtain ⟨hcb, he0⟩ := hpv11.uniq hr
  refine O.mv ?_
  refine O.extract rfl rfl ?_
  refine O.extract rfl rfl ?_
  refine O.alloc Tryz.zeroValue28 (fun b7 w3 hb7 hz7 e3 => ?_)
  have z3 := e3.size
  have h7 := hz7.own
  have hl7 := h7.lt
  refine O.storeA (vs := [slv p1, slv p2, slv p3]) Tryz.sizeOf28 rfl rfl rfl (by simp [slv, Value.oneCell']) h7 (Nat.le_of_ble_eq_true rfl) (fun w4 hs4 e4 z4 => ?_)
  refine O.asg ?_
  refine O.nil ?_
  refine hK2 _ _ ?_
  refine C.seqK fun K3 hK3 => ?_
  refine C.seqK fun K4 hK4 => ?_
  refine C.region ?_
  refine O.mv ?_
  refine O.not rfl ?_
  refine O.cast (v' := .bool false) rfl ?_
  refine O.nil ?_
  refine hK4 _ _ ?_
  refine C.condF rfl ?_
  refine C.skip ?_
  refine hK3 _ _ ?_
  refine C.seqK fun K5 hK5 => ?_
  refine C.region ?_
  refine O.loadOA Tryz.isAgg28 Tryz.sizeOf28 rfl hs4 (Nat.le_of_ble_eq_true rfl) ?_
  refine O.loadOA Tryz.isAgg28 Tryz.sizeOf28 rfl (((h4.keep e2).keep e3).keepM e4 (by intro h; (try dsimp only at h); omega)) (Nat.le_of_ble_eq_true rfl) ?_
  refine O.call Tryz.call21 (args2 rfl rfl) (same_spec (slv p1) (slv p2) (slv p3) cv11 _ vb1 vb2 vb3 b Fb _ ((hxv11.keep e3).keepM e4 (by intro k hk h; first | (have q1 := hF k hk; (try dsimp only at h); omega) | (have q1 := hF2 k hk; (try dsimp only at h); omega) | (have q1 := hFb k hk; (try dsimp only at h); omega) | ((try dsimp only at hk); (try dsimp only at h); omega))) ((hyv11.keep e3).keepM e4 (by intro k hk h; first | (have q1 := hF k hk; (try dsimp only at h); omega) | (have q1 := hF2 k hk; (try dsimp only at h); omega) | (have q1 := hFb k hk; (try dsimp only at h); omega) | ((try dsimp only at hk); (try dsimp only at h); omega))) ((hzv11.keep e3).keepM e4 (by intro k hk h; first | (have q1 := hF k hk; (try dsimp only at h); omega) | (have q1 := hF2 k hk; (try dsimp only at h); omega) | (have q1 := hFb k hk; (try dsimp only at h); omega) | ((try dsimp only at hk); (try dsimp only at h); omega))) (hbv.keep (Ext.new (Ext.trans (Ext.trans e1 e2) e3) e4 (by rintro i hi rfl; omega))) (hbc.keep (Ext.new (Ext.trans (Ext.trans e1 e2) e3) e4 (by rintro i hi rfl; omega))) (hbi.keep (Ext.new (Ext.trans (Ext.trans e1 e2) e3) e4 (by rintro i hi rfl; omega))) (fun j hj => by have q1 := hj.2; omega) (fun j hj => by have q1 := hFb j hj; omega)) ?_
  rintro v_25 w5 ⟨rfl, e5⟩
  have z5 := e5.size
  refine O.cast (v' := .bool true) (congrArg Value.bool (by exact decide_eq_true hcb)) ?_
  refine O.mv ?_
  refine O.yes rfl rfl ?_
  refine O.mv ?_
  refine O.yes rfl rfl ?_
  refine O.eqlI rfl rfl ?_
  refine O.cast (v' := .bool true) (congrArg Value.bool (by exact decide_eq_true he0)) ?_
  refine O.pickT rfl ?_
  refine O.asg ?_
  refine O.nil ?_
  refine hK5 _ _ ?_
  refine C.ret ?_
  refine Outs.one rfl rfl ?_
  exact ⟨rfl, (Ext.trans (Ext.new (Ext.trans (Ext.trans e1 e2) e3) e4 (by rintro i hi rfl; omega)) e5)⟩

set_option maxHeartbeats 1000000 in
theorem isN_spec (v0 : Value) (l : List UInt8) (F : Nat → Prop) (vb1 vb2 vb3 : Value) (b : Cn.Cart) (Fb : Nat → Prop) (w : World) (hl : Sl byteE w F v0 l) (hL : l.length ≤ 1000000) (hF : ∀ j, F j → j < w.heap.size) (mx : Mx w) (hbv : Sl Dt.dotF.enc w Fb vb1 b.1.1) (hbc : Sl Dt.dotF.enc w Fb vb2 b.1.2) (hbi : Sl itemE w Fb vb3 b.2) (hFb : ∀ k, Fb k → k < w.heap.size) (hr : Cn.CartRes l Cn.nil0 12) :
    Ret Tryz.prog 35 #[v0, .agg #[vb1, vb2, vb3], .bool (false)] w (fun v w' => v = .bool true ∧ Le w w') := by
  have hll := hl.le
  have hgl := mx.lt
  have _hb := hFb
  refine enter (args := [v0, .agg #[vb1, vb2, vb3], .bool (false)]) (n := 30) Tryz.func35 rfl rfl (Nat.le_of_ble_eq_true rfl) ?_
  refine C.seqK fun K1 hK1 => ?_
  refine C.region ?_
  refine O.box (v := .agg #[vb1, vb2, vb3]) rfl (fun b4 w1 hb4 hz4 e1 => ?_)
  have z1 := e1.size
  have h4 := hz4.own
  have hl4 := h4.lt
  refine O.asg ?_
  refine O.nil ?_
  refine hK1 _ _ ?_
  refine C.seqK fun K2 hK2 => ?_
  refine C.region ?_
  refine O.mv ?_
  refine O.call Tryz.call34 (args1 rfl) (dcart_spec v0 l F _ (hl.keep e1) hL (fun j hj => by have q1 := hF j hj; omega) (mx.keep e1)) ?_
  rintro v_11 w2 ⟨vav11, vbv11, vcv11, cv11, env11, rfl, hxv11, hyv11, hzv11, hgv11, hpv11, e2⟩
  have z2 := e2.size
  replace hxv11 := hxv11.sl
  replace hyv11 := hyv11.sl
  replace hzv11 := hzv11.sl
  obtain ⟨p1, rfl⟩ := hxv11.slv
  obtain ⟨p2, rfl⟩ := hyv11.slv
  obtain ⟨p3, rfl⟩ := hzv11.slv
  obtain ⟨hcb, he0⟩ := hpv11.uniq hr
  refine O.mv ?_
  refine O.extract rfl rfl ?_
  refine O.extract rfl rfl ?_
  refine O.alloc Tryz.zeroValue28 (fun b7 w3 hb7 hz7 e3 => ?_)
  have z3 := e3.size
  have h7 := hz7.own
  have hl7 := h7.lt
  refine O.storeA (vs := [slv p1, slv p2, slv p3]) Tryz.sizeOf28 rfl rfl rfl (by simp [slv, Value.oneCell']) h7 (Nat.le_of_ble_eq_true rfl) (fun w4 hs4 e4 z4 => ?_)
  refine O.asg ?_
  refine O.nil ?_
  refine hK2 _ _ ?_
  refine C.seqK fun K3 hK3 => ?_
  refine C.seqK fun K4 hK4 => ?_
  refine C.region ?_
  refine O.mv ?_
  refine O.not rfl ?_
  refine O.cast (v' := .bool true) rfl ?_
  refine O.nil ?_
  refine hK4 _ _ ?_
  refine C.condT rfl ?_
  refine C.seqK fun K5 hK5 => ?_
  refine C.region ?_
  refine O.loadOA Tryz.isAgg28 Tryz.sizeOf28 rfl hs4 (Nat.le_of_ble_eq_true rfl) ?_
  refine O.build (cells := #[.slice none 0 0, .slice none 0 0, .slice none 0 0]) rfl (by kernel_rfl) ?_
  refine O.call Tryz.call21 (args2 rfl rfl) (same_spec (slv p1) (slv p2) (slv p3) cv11 _ (.slice none 0 0) (.slice none 0 0) (.slice none 0 0) Cn.nil0 (fun _ => False) _ ((hxv11.keep e3).keepM e4 (by intro k hk h; first | (have q1 := hF k hk; (try dsimp only at h); omega) | (have q1 := hF2 k hk; (try dsimp only at h); omega) | (have q1 := hFb k hk; (try dsimp only at h); omega) | ((try dsimp only at hk); (try dsimp only at h); omega))) ((hyv11.keep e3).keepM e4 (by intro k hk h; first | (have q1 := hF k hk; (try dsimp only at h); omega) | (have q1 := hF2 k hk; (try dsimp only at h); omega) | (have q1 := hFb k hk; (try dsimp only at h); omega) | ((try dsimp only at hk); (try dsimp only at h); omega))) ((hzv11.keep e3).keepM e4 (by intro k hk h; first | (have q1 := hF k hk; (try dsimp only at h); omega) | (have q1 := hF2 k hk; (try dsimp only at h); omega) | (have q1 := hFb k hk; (try dsimp only at h); omega) | ((try dsimp only at hk); (try dsimp only at h); omega))) (Sl.nil _ _ _) (Sl.nil _ _ _) (Sl.nil _ _ _) (fun j hj => by have q1 := hj.2; omega) (fun _ h => h.elim)) ?_
  rintro v_18 w5 ⟨rfl, e5⟩
  have z5 := e5.size
  refine O.cast (v' := .bool true) (congrArg Value.bool (by exact decide_eq_true hcb)) ?_
  refine O.mv ?_
  refine O.yes rfl rfl ?_
  refine O.mv ?_
  refine O.yes rfl rfl ?_
  refine O.eqlI rfl rfl ?_
  refine O.cast (v' := .bool true) (congrArg Value.bool (by exact decide_eq_true he0)) ?_
  refine O.pickT rfl ?_
  refine O.asg ?_
  refine O.nil ?_
  refine hK5 _ _ ?_
  refine C.ret ?_
  refine Outs.one rfl rfl ?_
  exact ⟨rfl, (Ext.trans (Ext.new (Ext.trans (Ext.trans e1 e2) e3) e4 (by rintro i hi rfl; omega)) e5)⟩

set_option maxHeartbeats 1000000 in
theorem begins_spec (v0 : Value) (l : List UInt8) (F : Nat → Prop) (vb1 vb2 vb3 : Value) (b : Cn.Cart) (Fb : Nat → Prop) (k : Nat) (e : Int) (w : World) (hl : Sl byteE w F v0 l) (hL : l.length ≤ 1000000) (hF : ∀ j, F j → j < w.heap.size) (mx : Mx w) (hbv : Sl Dt.dotF.enc w Fb vb1 b.1.1) (hbc : Sl Dt.dotF.enc w Fb vb2 b.1.2) (hbi : Sl itemE w Fb vb3 b.2) (hFb : ∀ k, Fb k → k < w.heap.size) (hr : Cn.Pref l b k e) :
    Ret Tryz.prog 36 #[v0, .agg #[vb1, vb2, vb3], .int .i64 ((k : Int)), .int .i64 (e)] w (fun v w' => v = .bool true ∧ Le w w') := by
  have hll := hl.le
  have hgl := mx.lt
  refine enter (args := [v0, .agg #[vb1, vb2, vb3], .int .i64 ((k : Int)), .int .i64 (e)]) (n := 31) Tryz.func36 rfl rfl (Nat.le_of_ble_eq_true rfl) ?_
  refine C.seqK fun K1 hK1 => ?_
  refine C.region ?_
  refine O.box (v := .agg #[vb1, vb2, vb3]) rfl (fun b5 w1 hb5 hz5 e1 => ?_)
  have z1 := e1.size
  have h5 := hz5.own
  have hl5 := h5.lt
  refine O.asg ?_
  refine O.nil ?_
  refine hK1 _ _ ?_
  refine C.seqK fun K2 hK2 => ?_
  refine C.region ?_
  refine O.mv ?_
  refine O.call Tryz.call58 (args1 rfl) (prefix_spec v0 l F _ (hl.keep e1) hL (fun j hj => by have q1 := hF j hj; omega) (mx.keep e1)) ?_
  rintro v_14 w2 ⟨vav14, vbv14, vcv14, cv14, knv14, env14, rfl, hxv14, hyv14, hzv14, hgv14, hpv14, e2⟩
  have z2 := e2.size
  replace hxv14 := hxv14.sl
  replace hyv14 := hyv14.sl
  replace hzv14 := hzv14.sl
  obtain ⟨p1, rfl⟩ := hxv14.slv
  obtain ⟨p2, rfl⟩ := hyv14.slv
  obtain ⟨p3, rfl⟩ := hzv14.slv
  obtain ⟨hcb, hkb, he0⟩ := hpv14.uniq hr
  refine O.mv ?_
  refine O.extract rfl rfl ?_
  refine O.extract rfl rfl ?_
  refine O.extract rfl rfl ?_
  refine O.alloc Tryz.zeroValue28 (fun b9 w3 hb9 hz9 e3 => ?_)
  have z3 := e3.size
  have h9 := hz9.own
  have hl9 := h9.lt
  refine O.storeA (vs := [slv p1, slv p2, slv p3]) Tryz.sizeOf28 rfl rfl rfl (by simp [slv, Value.oneCell']) h9 (Nat.le_of_ble_eq_true rfl) (fun w4 hs4 e4 z4 => ?_)
  refine O.asg ?_
  refine O.asg ?_
  refine O.nil ?_
  refine hK2 _ _ ?_
  refine C.seqK fun K3 hK3 => ?_
  refine C.region ?_
  refine O.loadOA Tryz.isAgg28 Tryz.sizeOf28 rfl hs4 (Nat.le_of_ble_eq_true rfl) ?_
  refine O.loadOA Tryz.isAgg28 Tryz.sizeOf28 rfl (((h5.keep e2).keep e3).keepM e4 (by intro h; (try dsimp only at h); omega)) (Nat.le_of_ble_eq_true rfl) ?_
  refine O.call Tryz.call21 (args2 rfl rfl) (same_spec (slv p1) (slv p2) (slv p3) cv14 _ vb1 vb2 vb3 b Fb _ ((hxv14.keep e3).keepM e4 (by intro k hk h; first | (have q1 := hF k hk; (try dsimp only at h); omega) | (have q1 := hF2 k hk; (try dsimp only at h); omega) | (have q1 := hFb k hk; (try dsimp only at h); omega) | ((try dsimp only at hk); (try dsimp only at h); omega))) ((hyv14.keep e3).keepM e4 (by intro k hk h; first | (have q1 := hF k hk; (try dsimp only at h); omega) | (have q1 := hF2 k hk; (try dsimp only at h); omega) | (have q1 := hFb k hk; (try dsimp only at h); omega) | ((try dsimp only at hk); (try dsimp only at h); omega))) ((hzv14.keep e3).keepM e4 (by intro k hk h; first | (have q1 := hF k hk; (try dsimp only at h); omega) | (have q1 := hF2 k hk; (try dsimp only at h); omega) | (have q1 := hFb k hk; (try dsimp only at h); omega) | ((try dsimp only at hk); (try dsimp only at h); omega))) (hbv.keep (Ext.new (Ext.trans (Ext.trans e1 e2) e3) e4 (by rintro i hi rfl; omega))) (hbc.keep (Ext.new (Ext.trans (Ext.trans e1 e2) e3) e4 (by rintro i hi rfl; omega))) (hbi.keep (Ext.new (Ext.trans (Ext.trans e1 e2) e3) e4 (by rintro i hi rfl; omega))) (fun j hj => by have q1 := hj.2; omega) (fun j hj => by have q1 := hFb j hj; omega)) ?_
  rintro v_20 w5 ⟨rfl, e5⟩
  have z5 := e5.size
  refine O.cast (v' := .bool true) (congrArg Value.bool (by exact decide_eq_true hcb)) ?_
  refine O.mv ?_
  refine O.yes rfl rfl ?_
  refine O.mv ?_
  refine O.yes rfl rfl ?_
  refine O.mv ?_
  refine O.yes rfl rfl ?_
  refine O.eqlI rfl rfl ?_
  refine O.cast (v' := .bool true) (congrArg Value.bool (by exact decide_eq_true (by rw [hkb]))) ?_
  refine O.pickT rfl ?_
  refine O.mv ?_
  refine O.yes rfl rfl ?_
  refine O.mv ?_
  refine O.yes rfl rfl ?_
  refine O.mv ?_
  refine O.yes rfl rfl ?_
  refine O.eqlI rfl rfl ?_
  refine O.cast (v' := .bool true) (congrArg Value.bool (by exact decide_eq_true he0)) ?_
  refine O.pickT rfl ?_
  refine O.asg ?_
  refine O.nil ?_
  refine hK3 _ _ ?_
  refine C.ret ?_
  refine Outs.one rfl rfl ?_
  exact ⟨rfl, (Ext.trans (Ext.new (Ext.trans (Ext.trans e1 e2) e3) e4 (by rintro i hi rfl; omega)) e5)⟩

set_option maxHeartbeats 1000000 in
theorem wseen_spec (v0 : Value) (l : List UInt8) (F : Nat → Prop) (vb1 vb2 : Value) (x : Cn.Ctx) (Fb : Nat → Prop) (e : Int) (w : World) (hl : Sl byteE w F v0 l) (hL : l.length ≤ 1000000) (hF : ∀ j, F j → j < w.heap.size) (mx : Mx w) (hbv : Sl Dt.dotF.enc w Fb vb1 x.1) (hbc : Sl Dt.dotF.enc w Fb vb2 x.2) (hFb : ∀ k, Fb k → k < w.heap.size) (hr : Cn.CtxRes l x e) :
    Ret Tryz.prog 53 #[v0, .agg #[vb1, vb2], .int .i64 (e)] w (fun v w' => v = .bool true ∧ Le w w') := by
  have hll := hl.le
  have hgl := mx.lt
  obtain ⟨r1, hr1⟩ := hbv.slv
  obtain ⟨r2, hr2⟩ := hbc.slv
  refine enter (args := [v0, .agg #[vb1, vb2], .int .i64 (e)]) (n := 24) Tryz.func53 rfl rfl (Nat.le_of_ble_eq_true rfl) ?_
  refine C.seqK fun K1 hK1 => ?_
  refine C.region ?_
  refine O.box (v := .agg #[vb1, vb2]) rfl (fun b4 w1 hb4 hz4 e1 => ?_)
  have z1 := e1.size
  have h4 := hz4.own
  have hl4 := h4.lt
  refine O.asg ?_
  refine O.nil ?_
  refine hK1 _ _ ?_
  refine C.seqK fun K2 hK2 => ?_
  refine C.region ?_
  refine O.mv ?_
  refine O.call Tryz.call77 (args1 rfl) (dcontext_spec v0 l F _ (hl.keep e1) hL (fun j hj => by have q1 := hF j hj; omega) (mx.keep e1)) ?_
  rintro v_11 w2 ⟨vav11, vbv11, xv11, env11, rfl, hxv11, hyv11, hnv11, hpv11, e2⟩
  have z2 := e2.size
  obtain ⟨p1, rfl⟩ := hxv11.slv
  obtain ⟨p2, rfl⟩ := hyv11.slv
  obtain ⟨hcb, he0⟩ := hpv11.uniq hr
  refine O.mv ?_
  refine O.extract rfl rfl ?_
  refine O.extract rfl rfl ?_
  refine O.alloc Tryz.zeroValue25 (fun b7 w3 hb7 hz7 e3 => ?_)
  have z3 := e3.size
  have h7 := hz7.own
  have hl7 := h7.lt
  refine O.storeA (vs := [slv p1, slv p2]) Tryz.sizeOf25 rfl rfl rfl (by simp [slv, Value.oneCell']) h7 (Nat.le_of_ble_eq_true rfl) (fun w4 hs4 e4 z4 => ?_)
  refine O.asg ?_
  refine O.nil ?_
  refine hK2 _ _ ?_
  refine C.seqK fun K3 hK3 => ?_
  refine C.region ?_
  refine O.loadOA Tryz.isAgg25 Tryz.sizeOf25 rfl hs4 (Nat.le_of_ble_eq_true rfl) ?_
  refine O.build (cells := #[slv p1, slv p2, .slice none 0 0]) rfl (by kernel_rfl) ?_
  refine O.loadOA Tryz.isAgg25 Tryz.sizeOf25 rfl (((h4.keep e2).keep e3).keepM e4 (by intro h; (try dsimp only at h); omega)) (Nat.le_of_ble_eq_true rfl) ?_
  refine O.cast (v' := .agg #[slv r1, slv r2]) (by rw [← hr1, ← hr2]; rfl) ?_
  refine O.build (cells := #[slv r1, slv r2, .slice none 0 0]) rfl (by kernel_rfl) ?_
  refine O.call Tryz.call21 (args2 rfl rfl) (same_spec (slv p1) (slv p2) (.slice none 0 0) (xv11, []) _ (slv r1) (slv r2) (.slice none 0 0) (x, []) Fb _ ((hxv11.keep e3).keepM e4 (by intro k hk h; first | (have q1 := hF k hk; (try dsimp only at h); omega) | (have q1 := hF2 k hk; (try dsimp only at h); omega) | (have q1 := hFb k hk; (try dsimp only at h); omega) | ((try dsimp only at hk); (try dsimp only at h); omega))) ((hyv11.keep e3).keepM e4 (by intro k hk h; first | (have q1 := hF k hk; (try dsimp only at h); omega) | (have q1 := hF2 k hk; (try dsimp only at h); omega) | (have q1 := hFb k hk; (try dsimp only at h); omega) | ((try dsimp only at hk); (try dsimp only at h); omega))) (Sl.nil _ _ _) (hr1 ▸ (hbv.keep (Ext.new (Ext.trans (Ext.trans e1 e2) e3) e4 (by rintro i hi rfl; omega)))) (hr2 ▸ (hbc.keep (Ext.new (Ext.trans (Ext.trans e1 e2) e3) e4 (by rintro i hi rfl; omega)))) (Sl.nil _ _ _) (fun j hj => by have q1 := hj.2; omega) (fun j hj => by have q1 := hFb j hj; omega)) ?_
  rintro v_18 w5 ⟨rfl, e5⟩
  have z5 := e5.size
  refine O.cast (v' := .bool true) (congrArg Value.bool (by exact decide_eq_true (by rw [hcb]))) ?_
  refine O.mv ?_
  refine O.yes rfl rfl ?_
  refine O.mv ?_
  refine O.yes rfl rfl ?_
  refine O.mv ?_
  refine O.yes rfl rfl ?_
  refine O.eqlI rfl rfl ?_
  refine O.cast (v' := .bool true) (congrArg Value.bool (by exact decide_eq_true he0)) ?_
  refine O.pickT rfl ?_
  refine O.asg ?_
  refine O.nil ?_
  refine hK3 _ _ ?_
  refine C.ret ?_
  refine Outs.one rfl rfl ?_
  exact ⟨rfl, (Ext.trans (Ext.new (Ext.trans (Ext.trans e1 e2) e3) e4 (by rintro i hi rfl; omega)) e5)⟩

set_option maxHeartbeats 2000000 in
theorem dcount_spec (v0 : Value) (l : List UInt8) (F : Nat → Prop) (w : World) (hl : Sl byteE w F v0 l) (hL : l.length ≤ 1000000) (hF : ∀ j, F j → j < w.heap.size) (mx : Mx w) :
    Ret Tryz.prog 57 #[v0] w (fun v w' => ∃ (n : Nat) (e : Int), v = .tuple #[.int .i64 (n : Int), .int .i64 e] ∧ Cn.CountRes l n e ∧ Le w w') := by
  have hll := hl.le
  have hgl := mx.lt
  refine enter (args := [v0]) (n := 33) Tryz.func57 rfl rfl (Nat.le_of_ble_eq_true rfl) ?_
  refine C.seqK fun K1 hK1 => ?_
  refine C.region ?_
  refine O.asg ?_
  refine O.asg ?_
  refine O.nil ?_
  refine hK1 _ _ ?_
  refine C.seqK fun K2 hK2 => ?_
  refine C.region ?_
  refine O.asg ?_
  refine O.nil ?_
  refine hK2 _ _ ?_
  refine C.seqK fun K3 hK3 => ?_
  refine C.block fun K4 hK4 => ?_
  refine C.loop0 (σ := List Cn.Cart × Value × Nat) (fun f0 w0 ⟨cs, pv, k⟩ f wz => f 0 = pv ∧ f 4 = .int .i64 ((cs.length : Int)) ∧ Le w wz ∧ Sl byteE wz F pv (l.drop k) ∧ k ≤ l.length ∧ Cn.manyQ Cn.val cs ∧ Cn.Seg (cs.flatMap Cn.bytes) l 0 k) (fun ⟨cs, pv, k⟩ => l.length - k) ([], v0, 0) ?_ ?_
  ·
    refine ⟨rfl, rfl, (Le.refl _), hl, ?_⟩
    exact ⟨Nat.zero_le _, Cn.manyQ_nil, Cn.Seg.nil (Nat.zero_le _)⟩
  ·
    rintro ⟨cs, pv, k⟩ f_1 w1 ⟨s0_1, s4_1, e_1, r0_1, ⟨hk, hQ, hS⟩⟩
    have z_1 := e_1.size
    have hcl := Cn.len_flat (f := Cn.bytes) (fun c => by have := Cn.bytes_len c; omega) cs
    have hcl2 := hS.2.1
    have hcl3 := hS.2.2
    refine C.seqK fun K5 hK5 => ?_
    refine C.seqK fun K6 hK6 => ?_
    refine C.region ?_
    refine O.mv ?_
    refine O.len Tryz.underlying32 s0_1 r0_1 ?_
    refine O.gtrI rfl rfl ?_
    refine O.nil ?_
    refine hK6 _ _ ?_
    refine C.condD rfl (fun c12 => ?_) (fun c12 => ?_)
    ·
      have hk2 : k < l.length := by rw [List.length_drop] at c12; omega
      refine C.skip ?_
      refine hK5 _ _ ?_
      refine C.block fun K7 hK7 => ?_
      refine C.seqK fun K8 hK8 => ?_
      refine C.region ?_
      refine O.mv ?_
      refine O.call Tryz.call58 (args1 s0_1) (prefix_spec pv (l.drop k) F _ r0_1 (by rw [List.length_drop]; omega) (fun j hj => by have q1 := hF j hj; omega) (mx.keep e_1)) ?_
      rintro v_15 w2 ⟨vav15, vbv15, vcv15, cv15, knv15, env15, rfl, hxv15, hyv15, hzv15, hgv15, hpv15, e2⟩
      have z2 := e2.size
      replace hxv15 := hxv15.sl
      replace hyv15 := hyv15.sl
      replace hzv15 := hzv15.sl
      obtain ⟨p1, rfl⟩ := hxv15.slv
      obtain ⟨p2, rfl⟩ := hyv15.slv
      obtain ⟨p3, rfl⟩ := hzv15.slv
      obtain ⟨hg1, hg2, hg3, hg4⟩ := hgv15
      refine O.mv ?_
      refine O.extract rfl rfl ?_
      refine O.extract rfl rfl ?_
      refine O.extract rfl rfl ?_
      refine O.alloc Tryz.zeroValue28 (fun b5 w3 hb5 hz5 e3 => ?_)
      have z3 := e3.size
      have h5 := hz5.own
      have hl5 := h5.lt
      refine O.storeA (vs := [slv p1, slv p2, slv p3]) Tryz.sizeOf28 rfl rfl rfl (by simp [slv, Value.oneCell']) h5 (Nat.le_of_ble_eq_true rfl) (fun w4 hs4 e4 z4 => ?_)
      refine O.asg ?_
      refine O.asg ?_
      refine O.nil ?_
      refine hK8 _ _ ?_
      refine C.seqK fun K9 hK9 => ?_
      refine C.seqK fun K10 hK10 => ?_
      refine C.region ?_
      refine O.mv ?_
      refine O.neqI rfl rfl ?_
      refine O.nil ?_
      refine hK10 _ _ ?_
      refine C.condD rfl (fun c20 => ?_) (fun c20 => ?_)
      ·
        refine C.seqK fun K11 hK11 => ?_
        refine C.region ?_
        refine O.mv ?_
        refine O.asg ?_
        refine O.asg ?_
        refine O.nil ?_
        refine hK11 _ _ ?_
        refine C.ret ?_
        refine Outs.two rfl rfl rfl ?_
        first
        | exact ⟨cs.length, 0, rfl, Cn.count_yes hS hQ (by rw [List.length_drop] at c12; omega), (Ext.new (Ext.trans (Ext.trans e_1 e2) e3) e4 (by rintro i hi rfl; omega))⟩
        | (rcases hpv15 with ⟨q1, _⟩ | ⟨q1, q2, q3, q4⟩
           · exact absurd q1 c20
           · exact ⟨0, env15, rfl, by rw [q1]; exact Cn.count_no hS hQ hk2 q4, (Ext.new (Ext.trans (Ext.trans e_1 e2) e3) e4 (by rintro i hi rfl; omega))⟩)
      ·
        obtain ⟨hva, hsg⟩ : Cn.valid cv15 = true ∧ Cn.Seg (Cn.bytes cv15) (l.drop k) 0 knv15 := by
          rcases hpv15 with ⟨_, q1, q2⟩ | ⟨q1, _⟩
          · exact ⟨q1, q2⟩
          · exfalso; omega
        have hst := Cn.count_step hS hsg
        have hsg2 := hsg.2.2
        refine C.skip ?_
        refine hK9 _ _ ?_
        refine C.seqK fun K12 hK12 => ?_
        refine C.region ?_
        refine O.loadOA Tryz.isAgg28 Tryz.sizeOf28 rfl hs4 (Nat.le_of_ble_eq_true rfl) ?_
        refine O.call Tryz.call24 (args1 rfl) (size_spec (slv p1) (slv p2) (slv p3) cv15 _ _ ((hxv15.keep e3).keepM e4 (by intro k hk h; first | (have q1 := hF k hk; (try dsimp only at h); omega) | (have q1 := hF2 k hk; (try dsimp only at h); omega) | (have q1 := hFb k hk; (try dsimp only at h); omega) | ((try dsimp only at hk); (try dsimp only at h); omega))) ((hyv15.keep e3).keepM e4 (by intro k hk h; first | (have q1 := hF k hk; (try dsimp only at h); omega) | (have q1 := hF2 k hk; (try dsimp only at h); omega) | (have q1 := hFb k hk; (try dsimp only at h); omega) | ((try dsimp only at hk); (try dsimp only at h); omega))) ((hzv15.keep e3).keepM e4 (by intro k hk h; first | (have q1 := hF k hk; (try dsimp only at h); omega) | (have q1 := hF2 k hk; (try dsimp only at h); omega) | (have q1 := hFb k hk; (try dsimp only at h); omega) | ((try dsimp only at hk); (try dsimp only at h); omega))) (fun j hj => by have q1 := hj.2; omega) hg3 hg4 hg1 hg2 (mx.keep (Ext.new (Ext.trans (Ext.trans e_1 e2) e3) e4 (by rintro i hi rfl; omega)))) ?_
        rintro v_24 w5 ⟨rfl, e5⟩
        have z5 := e5.size
        refine O.mv ?_
        refine O.extract rfl rfl ?_
        refine O.cast (v' := .int .i64 (knv15 : Int)) (congrArg (Value.int .i64) (by rw [hva, if_pos rfl, hsg.2.1, Nat.zero_add])) ?_
        refine O.extract rfl rfl ?_
        refine O.asg ?_
        refine O.asg ?_
        refine O.nil ?_
        refine hK12 _ _ ?_
        refine C.draw (by kernel_rfl) fun w6 e6 => ?_
        have z6 := e6.size
        refine D.take (i := 0) rfl rfl rfl rfl (by kernel_rfl) (Le.refl _) ⟨pure _, rfl⟩ (fun w_ hw_ N_ hN => (O.mv (O.nil hN))) ?_
        refine D.take (i := 1) rfl rfl rfl rfl (by kernel_rfl) (Le.refl _) ⟨_, rfl⟩ (fun w_ hw_ N_ hN => (O.addI s4_1 rfl (by unfold InI; omega) (O.nil hN))) ?_
        refine D.take (i := 2) rfl rfl rfl rfl (by kernel_rfl) (Le.refl _) ⟨pure _, rfl⟩ (fun w_ hw_ N_ hN => (O.mv (O.nil hN))) ?_
        refine D.take (i := 3) rfl rfl rfl rfl (by kernel_rfl) (Le.refl _) ⟨pure _, rfl⟩ (fun w_ hw_ N_ hN => (O.mv (O.nil hN))) ?_
        have hb31 := Sl.sub (P := Tryz.prog) (knv15) ((l.drop k).length) Tryz.underlying32 Tryz.sizeOf5 (by rfl) (((((r0_1.keep e2).keep e3).keepM e4 (by intro k hk h; first | (have q1 := hF k hk; (try dsimp only at h); omega) | (have q1 := hF2 k hk; (try dsimp only at h); omega) | (have q1 := hFb k hk; (try dsimp only at h); omega) | ((try dsimp only at hk); (try dsimp only at h); omega))).keep e5).keep e6) (by omega) (Nat.le_refl _)
        obtain ⟨v31, hs31, hr31⟩ := hb31
        refine D.take (i := 4) rfl rfl rfl rfl (by kernel_rfl) (Le.refl _) ⟨_, rfl⟩ (fun w_ hw_ N_ hN => (O.subR s0_1 hr31 (.inr ⟨_, _, rfl, rfl⟩) (.inl ⟨rfl, rfl⟩) (O.nil hN))) ?_
        refine D.take (i := 5) rfl rfl rfl rfl (by kernel_rfl) (Le.refl _) ⟨pure _, rfl⟩ (fun w_ hw_ N_ hN => (O.asg (O.nil hN))) ?_
        refine D.take (i := 6) rfl rfl rfl rfl (by kernel_rfl) (Le.refl _) ⟨pure _, rfl⟩ (fun w_ hw_ N_ hN => (O.asg (O.nil hN))) ?_
        refine D.done (by kernel_rfl) ?_
        refine hK7 _ _ ?_
        refine ⟨(cs ++ [cv15], v31, k + knv15), ⟨rfl, (Eq.trans rfl (congrArg (Value.int .i64) (by rw [List.length_append]; simp))), (Ext.trans (Ext.trans (Ext.new (Ext.trans (Ext.trans e_1 e2) e3) e4 (by rintro i hi rfl; omega)) e5) e6), (by have q := hs31; rw [List.take_length, List.drop_drop] at q; exact q), ?_⟩, by show l.length - (k + knv15) < l.length - k; have := hst.2; omega⟩
        exact ⟨hst.1.2.2, Cn.manyQ_snoc hQ hva, hst.1⟩
    ·
      refine C.exit ?_
      refine hK4 _ _ ?_
      refine hK3 _ _ ?_
      refine C.seqK fun K13 hK13 => ?_
      refine C.region ?_
      refine O.mv ?_
      refine O.asg ?_
      refine O.asg ?_
      refine O.nil ?_
      refine hK13 _ _ ?_
      refine C.ret ?_
      refine Outs.two rfl s4_1 rfl ?_
      first
      | exact ⟨cs.length, 0, rfl, Cn.count_yes hS hQ (by rw [List.length_drop] at c12; omega), e_1⟩
      | (rcases hpv15 with ⟨q1, _⟩ | ⟨q1, q2, q3, q4⟩
         · exact absurd q1 c20
         · exact ⟨0, env15, rfl, by rw [q1]; exact Cn.count_no hS hQ hk2 q4, e_1⟩)

theorem counts_spec (v0 : Value) (l : List UInt8) (F : Nat → Prop) (n : Nat) (e : Int) (w : World) (hl : Sl byteE w F v0 l) (hL : l.length ≤ 1000000) (hF : ∀ j, F j → j < w.heap.size) (mx : Mx w) (hr : Cn.CountRes l n e) :
    Ret Tryz.prog 32 #[v0, .int .i64 ((n : Int)), .int .i64 (e)] w (fun v w' => v = .bool true ∧ Le w w') := by
  refine enter (args := [v0, .int .i64 ((n : Int)), .int .i64 (e)]) (n := 22) Tryz.func32 rfl rfl (Nat.le_of_ble_eq_true rfl) ?_
  refine C.seqK fun K1 hK1 => ?_
  refine C.region ?_
  refine O.asg ?_
  refine O.nil ?_
  refine hK1 _ _ ?_
  refine C.seqK fun K2 hK2 => ?_
  refine C.region ?_
  refine O.mv ?_
  refine O.call Tryz.call57 (args1 rfl) (dcount_spec v0 l F _ hl hL hF mx) ?_
  rintro v_11 w1 ⟨nv11, env11, rfl, hpv11, e1⟩
  have z1 := e1.size
  obtain ⟨hkb, he0⟩ := hpv11.uniq hr
  refine O.mv ?_
  refine O.extract rfl rfl ?_
  refine O.extract rfl rfl ?_
  refine O.asg ?_
  refine O.asg ?_
  refine O.nil ?_
  refine hK2 _ _ ?_
  refine C.seqK fun K3 hK3 => ?_
  refine C.region ?_
  refine O.mv ?_
  refine O.mv ?_
  refine O.eqlI rfl rfl ?_
  refine O.cast (v' := .bool true) (congrArg Value.bool (by exact decide_eq_true (by rw [hkb]))) ?_
  refine O.mv ?_
  refine O.yes rfl rfl ?_
  refine O.mv ?_
  refine O.yes rfl rfl ?_
  refine O.mv ?_
  refine O.yes rfl rfl ?_
  refine O.eqlI rfl rfl ?_
  refine O.cast (v' := .bool true) (congrArg Value.bool (by exact decide_eq_true he0)) ?_
  refine O.pickT rfl ?_
  refine O.asg ?_
  refine O.nil ?_
  refine hK3 _ _ ?_
  refine C.ret ?_
  refine Outs.one rfl rfl ?_
  exact ⟨rfl, e1⟩

set_option maxHeartbeats 2000000 in
theorem wmany_spec (p0 : Option Addr × Nat × Nat) (l : List UInt8) (F : Nat → Prop) (w : World) (hl : Sl byteE w F (slv p0) l) (hL : l.length ≤ 900000) (hF : ∀ j, F j → j < w.heap.size) (mx : Mx w) :
    Ret Tryz.prog 31 #[slv p0] w (fun v w' => ∃ n : Int, v = .int .i64 n ∧ ((∃ m : Nat, n = m ∧ Cn.CountRes l m 0) ∨ (n = -1 ∧ Cn.CountRes l 0 12)) ∧ Le w w') := by
  have hll := hl.le
  have hgl := mx.lt
  refine enter (args := [slv p0]) (n := 29) Tryz.func31 rfl rfl (Nat.le_of_ble_eq_true rfl) ?_
  refine C.seqK fun K1 hK1 => ?_
  refine C.region ?_
  refine O.asg ?_
  refine O.nil ?_
  refine hK1 _ _ ?_
  refine C.seqK fun K2 hK2 => ?_
  refine C.region ?_
  refine O.asg ?_
  refine O.nil ?_
  refine hK2 _ _ ?_
  refine C.seqK fun K3 hK3 => ?_
  refine C.block fun K4 hK4 => ?_
  refine C.loop0 (σ := List Cn.Cart × (Option Addr × Nat × Nat) × Nat) (fun f0 w0 ⟨cs, pp, k⟩ f wz => f 0 = slv pp ∧ f 3 = .int .i64 ((cs.length : Int)) ∧ Le w wz ∧ Sl byteE wz F (slv pp) (l.drop k) ∧ k ≤ l.length ∧ Cn.manyQ Cn.val cs ∧ Cn.Seg (cs.flatMap Cn.bytes) l 0 k) (fun ⟨cs, pp, k⟩ => l.length - k) ([], p0, 0) ?_ ?_
  ·
    refine ⟨rfl, rfl, (Le.refl _), hl, ?_⟩
    exact ⟨Nat.zero_le _, Cn.manyQ_nil, Cn.Seg.nil (Nat.zero_le _)⟩
  ·
    rintro ⟨cs, pp, k⟩ f_1 w1 ⟨s0_1, s3_1, e_1, r0_1, ⟨hk, hQ, hS⟩⟩
    have z_1 := e_1.size
    have hcl := Cn.len_flat (f := Cn.bytes) (fun c => by have := Cn.bytes_len c; omega) cs
    have hcl2 := hS.2.1
    have hcl3 := hS.2.2
    refine C.seqK fun K5 hK5 => ?_
    refine C.seqK fun K6 hK6 => ?_
    refine C.region ?_
    refine O.mv ?_
    refine O.len Tryz.underlying32 s0_1 r0_1 ?_
    refine O.gtrI rfl rfl ?_
    refine O.nil ?_
    refine hK6 _ _ ?_
    refine C.condD rfl (fun c9 => ?_) (fun c9 => ?_)
    ·
      have hk2 : k < l.length := by rw [List.length_drop] at c9; omega
      refine C.skip ?_
      refine hK5 _ _ ?_
      refine C.block fun K7 hK7 => ?_
      refine C.seqK fun K8 hK8 => ?_
      refine C.region ?_
      refine O.mv ?_
      refine O.call Tryz.call54 (args1 s0_1) (xprefix_spec pp (l.drop k) F _ r0_1 (by rw [List.length_drop]; omega) (fun j hj => by have q1 := hF j hj; omega)) ?_
      rintro v_12 w2 ⟨vav12, vbv12, vcv12, cv12, knv12, fv12, rfl, hxv12, hyv12, hzv12, hgv12, hrv12, e2⟩
      have z2 := e2.size
      obtain ⟨p1, rfl⟩ := hxv12.slv
      obtain ⟨p2, rfl⟩ := hyv12.slv
      obtain ⟨p3, rfl⟩ := hzv12.slv
      obtain ⟨hg1, hg2, hg3, hg4⟩ := hgv12
      refine O.mv ?_
      refine O.extract rfl rfl ?_
      refine O.extract rfl rfl ?_
      refine O.extract rfl rfl ?_
      refine O.alloc Tryz.zeroValue28 (fun b4 w3 hb4 hz4 e3 => ?_)
      have z3 := e3.size
      have h4 := hz4.own
      have hl4 := h4.lt
      refine O.storeA (vs := [slv p1, slv p2, slv p3]) Tryz.sizeOf28 rfl rfl rfl (by simp [slv, Value.oneCell']) h4 (Nat.le_of_ble_eq_true rfl) (fun w4 hs4 e4 z4 => ?_)
      refine O.asg ?_
      refine O.asg ?_
      refine O.nil ?_
      refine hK8 _ _ ?_
      refine C.seqK fun K9 hK9 => ?_
      refine C.seqK fun K10 hK10 => ?_
      refine C.region ?_
      refine O.mv ?_
      refine O.not rfl ?_
      refine O.mv ?_
      refine O.split (x := .tmp 18) rfl (fun c18 => ?_) (fun c18 => ?_)
      ·
        have hfd : fv12 = false := by simpa using c18
        have hno := hrv12.no (.inl hfd)
        refine O.no rfl (noB (isT' rfl c18) rfl) ?_
        refine O.no rfl (noB (isT' rfl c18) rfl) ?_
        refine O.no rfl (noB (isT' rfl c18) rfl) ?_
        refine O.pickT (isT' rfl c18) ?_
        refine O.nil ?_
        refine hK10 _ _ ?_
        refine C.condT rfl ?_
        refine C.seqK fun K11 hK11 => ?_
        refine C.region ?_
        refine O.asg ?_
        refine O.nil ?_
        refine hK11 _ _ ?_
        refine C.ret ?_
        refine Outs.one rfl rfl ?_
        first
        | exact ⟨_, rfl, .inl ⟨cs.length, rfl, Cn.count_yes hS hQ (by rw [List.length_drop] at c9; omega)⟩, (Ext.new (Ext.trans (Ext.trans e_1 e2) e3) e4 (by rintro i hi rfl; omega))⟩
        | exact ⟨-1, rfl, .inr ⟨rfl, Cn.count_no hS hQ hk2 hno⟩, (Ext.new (Ext.trans (Ext.trans e_1 e2) e3) e4 (by rintro i hi rfl; omega))⟩
      ·
        refine O.yes rfl (isF' rfl c18) ?_
        refine O.loadOA Tryz.isAgg28 Tryz.sizeOf28 rfl hs4 (Nat.le_of_ble_eq_true rfl) ?_
        refine O.yes rfl (isF' rfl c18) ?_
        refine O.call Tryz.call19 (args1 rfl) (cartValid_spec (slv p1) (slv p2) (slv p3) cv12 _ _ ((hxv12.keep e3).keepM e4 (by intro k hk h; first | (have q1 := hF k hk; (try dsimp only at h); omega) | (have q1 := hF2 k hk; (try dsimp only at h); omega) | (have q1 := hFb k hk; (try dsimp only at h); omega) | ((try dsimp only at hk); (try dsimp only at h); omega))) ((hyv12.keep e3).keepM e4 (by intro k hk h; first | (have q1 := hF k hk; (try dsimp only at h); omega) | (have q1 := hF2 k hk; (try dsimp only at h); omega) | (have q1 := hFb k hk; (try dsimp only at h); omega) | ((try dsimp only at hk); (try dsimp only at h); omega))) ((hzv12.keep e3).keepM e4 (by intro k hk h; first | (have q1 := hF k hk; (try dsimp only at h); omega) | (have q1 := hF2 k hk; (try dsimp only at h); omega) | (have q1 := hFb k hk; (try dsimp only at h); omega) | ((try dsimp only at hk); (try dsimp only at h); omega))) (fun j hj => by have q1 := hj.2; omega) hg3 hg4 (mx.keep (Ext.new (Ext.trans (Ext.trans e_1 e2) e3) e4 (by rintro i hi rfl; omega)))) ?_
        rintro v_20 w5 ⟨rfl, e5⟩
        have z5 := e5.size
        refine O.yes rfl (isF' rfl c18) ?_
        refine O.not rfl ?_
        refine O.pickF (isF' rfl c18) ?_
        refine O.nil ?_
        refine hK10 _ _ ?_
        refine C.cond rfl (fun c22 => ?_) (fun c22 => ?_)
        ·
          have hno := hrv12.no (.inr (by simpa using c22))
          refine C.seqK fun K12 hK12 => ?_
          refine C.region ?_
          refine O.asg ?_
          refine O.nil ?_
          refine hK12 _ _ ?_
          refine C.ret ?_
          refine Outs.one rfl rfl ?_
          first
          | exact ⟨_, rfl, .inl ⟨cs.length, rfl, Cn.count_yes hS hQ (by rw [List.length_drop] at c9; omega)⟩, (Ext.trans (Ext.new (Ext.trans (Ext.trans e_1 e2) e3) e4 (by rintro i hi rfl; omega)) e5)⟩
          | exact ⟨-1, rfl, .inr ⟨rfl, Cn.count_no hS hQ hk2 hno⟩, (Ext.trans (Ext.new (Ext.trans (Ext.trans e_1 e2) e3) e4 (by rintro i hi rfl; omega)) e5)⟩
        ·
          have hva : Cn.valid cv12 = true := by simpa using c22
          have hfd : fv12 = true := by simpa using c18
          have hsg := hrv12.yes hfd
          have hst := Cn.count_step hS hsg
          have hsg2 := hsg.2.2
          refine C.skip ?_
          refine hK9 _ _ ?_
          refine C.draw (by kernel_rfl) fun w6 e6 => ?_
          have z6 := e6.size
          refine D.take (i := 0) rfl rfl rfl rfl (by kernel_rfl) (Le.refl _) ⟨pure _, rfl⟩ (fun w_ hw_ N_ hN => (O.mv (O.nil hN))) ?_
          refine D.take (i := 1) rfl rfl rfl rfl (by kernel_rfl) (Le.refl _) ⟨_, rfl⟩ (fun w_ hw_ N_ hN => (O.addI s3_1 rfl (by unfold InI; omega) (O.nil hN))) ?_
          refine D.take (i := 2) rfl rfl rfl rfl (by kernel_rfl) (Le.refl _) ⟨pure _, rfl⟩ (fun w_ hw_ N_ hN => (O.mv (O.nil hN))) ?_
          refine D.take (i := 3) rfl rfl rfl rfl (by kernel_rfl) (Le.refl _) ⟨pure _, rfl⟩ (fun w_ hw_ N_ hN => (O.mv (O.nil hN))) ?_
          have hb27 := Sl.sub (P := Tryz.prog) (knv12) ((l.drop k).length) Tryz.underlying32 Tryz.sizeOf5 (by rfl) (((((r0_1.keep e2).keep e3).keepM e4 (by intro k hk h; first | (have q1 := hF k hk; (try dsimp only at h); omega) | (have q1 := hF2 k hk; (try dsimp only at h); omega) | (have q1 := hFb k hk; (try dsimp only at h); omega) | ((try dsimp only at hk); (try dsimp only at h); omega))).keep e5).keep e6) (by omega) (Nat.le_refl _)
          obtain ⟨v27, hs27, hr27⟩ := hb27
          refine D.take (i := 4) rfl rfl rfl rfl (by kernel_rfl) (Le.refl _) ⟨_, rfl⟩ (fun w_ hw_ N_ hN => (O.subR s0_1 hr27 (.inr ⟨_, _, rfl, rfl⟩) (.inl ⟨rfl, rfl⟩) (O.nil hN))) ?_
          obtain ⟨p27, rfl⟩ := hs27.slv
          refine D.take (i := 5) rfl rfl rfl rfl (by kernel_rfl) (Le.refl _) ⟨pure _, rfl⟩ (fun w_ hw_ N_ hN => (O.asg (O.nil hN))) ?_
          refine D.take (i := 6) rfl rfl rfl rfl (by kernel_rfl) (Le.refl _) ⟨pure _, rfl⟩ (fun w_ hw_ N_ hN => (O.asg (O.nil hN))) ?_
          refine D.done (by kernel_rfl) ?_
          refine hK7 _ _ ?_
          refine ⟨(cs ++ [cv12], p27, k + knv12), ⟨rfl, (Eq.trans rfl (congrArg (Value.int .i64) (by rw [List.length_append]; simp))), (Ext.trans (Ext.trans (Ext.new (Ext.trans (Ext.trans e_1 e2) e3) e4 (by rintro i hi rfl; omega)) e5) e6), (by have q := hs27; rw [List.take_length, List.drop_drop] at q; exact q), ?_⟩, by show l.length - (k + knv12) < l.length - k; have := hst.2; omega⟩
          exact ⟨hst.1.2.2, Cn.manyQ_snoc hQ hva, hst.1⟩
    ·
      refine C.exit ?_
      refine hK4 _ _ ?_
      refine hK3 _ _ ?_
      refine C.seqK fun K13 hK13 => ?_
      refine C.region ?_
      refine O.mv ?_
      refine O.asg ?_
      refine O.nil ?_
      refine hK13 _ _ ?_
      refine C.ret ?_
      refine Outs.one rfl s3_1 ?_
      first
      | exact ⟨_, rfl, .inl ⟨cs.length, rfl, Cn.count_yes hS hQ (by rw [List.length_drop] at c9; omega)⟩, e_1⟩
      | exact ⟨-1, rfl, .inr ⟨rfl, Cn.count_no hS hQ hk2 hno⟩, e_1⟩

end Go.Proofs.YtnkcmaoaagnopaaGreatDoor
end
section
/-
  The walk of the chapter's examples. Conditions: slices as they lie in memory.
-/
namespace Go.Proofs.YtnkcmaoaagnopaaGreatDoor
open Go.Pn Go.RowKit Go.Proofs
attribute [local irreducible] O C D

set_option maxHeartbeats 16000000 in
theorem wknown_spec (w : World) (mx : Mx w) :
    Ret Tryz.prog 29 #[] w (fun v w' => v = .bool true ∧ Le w w') := by
  obtain ⟨ie51, ti51, ts51, tb51, tz51⟩ := inf51
  obtain ⟨ie53, ti53, ts53, tb53, tz53⟩ := inf53
  obtain ⟨ie56, ti56, ts56, tb56, tz56⟩ := inf56
  obtain ⟨ie5, ti5, ts5, tb5, tz5⟩ := inf5
  obtain ⟨ie32, ti32, ts32, tb32, tz32⟩ := inf32
  refine enter (args := []) (n := 70) Tryz.func29 rfl rfl (Nat.le_of_ble_eq_true rfl) ?_
  refine C.seqK fun K1 hK1 => ?_
  refine C.region ?_
  refine O.asg ?_
  refine O.nil ?_
  refine hK1 _ _ ?_
  refine C.seqK fun K2 hK2 => ?_
  refine C.region ?_
  refine O.build (cells := #[.int .i64 2, .int .i64 3]) rfl (by kernel_rfl) ?_
  refine O.litG (G := Dt.dotF) [(2, 3)] Tryz.underlying23 ti51 ts51 tz51 rfl (by decide) (by decide) rfl (fun b5 w1 hb5 hz5 e1 => ?_)
  have z1 := e1.size
  have h5 := hz5.own
  have hq5 := Sl.litG (n := 1) h5 rfl (by unfold maxLen; omega)
  have hl5 := h5.lt
  refine O.build (cells := #[.int .i64 5, .int .i64 9]) rfl (by kernel_rfl) ?_
  refine O.litG (G := Dt.dotF) [(5, 9)] Tryz.underlying22 ti51 ts51 tz51 rfl (by decide) (by decide) rfl (fun b7 w2 hb7 hz7 e2 => ?_)
  have z2 := e2.size
  have h7 := hz7.own
  have hq7 := Sl.litG (n := 1) h7 rfl (by unfold maxLen; omega)
  have hl7 := h7.lt
  refine O.build (cells := #[.slice (some ⟨b5, 0, none⟩) 1 1, .slice (some ⟨b7, 0, none⟩) 1 1]) rfl (by kernel_rfl) ?_
  refine O.build (cells := #[.int .i64 2, .int .i64 3]) rfl (by kernel_rfl) ?_
  refine O.build (cells := #[.int .i64 2, .int .i64 3, .int .i64 200, .int .u64 1]) rfl (by kernel_rfl) ?_
  refine O.litG (G := markF) [((2, 3), 200, 1#64)] Tryz.underlying54 ti53 ts53 tz53 rfl (by decide) (by decide) rfl (fun b11 w3 hb11 hz11 e3 => ?_)
  have z3 := e3.size
  have h11 := hz11.own
  have hq11 := Sl.litG (n := 1) h11 rfl (by unfold maxLen; omega)
  have hl11 := h11.lt
  refine O.build (cells := #[str [116, 101, 97], .slice (some ⟨b11, 0, none⟩) 1 1]) rfl (by kernel_rfl) ?_
  refine O.litG (G := itemF) [([116, 101, 97], (some ⟨b11, 0, none⟩, 1, 1))] Tryz.underlying26 ti56 ts56 tz56 rfl (by decide) (by decide) rfl (fun b13 w4 hb13 hz13 e4 => ?_)
  have z4 := e4.size
  have h13 := hz13.own
  have hq13 := Sl.litG (n := 1) h13 rfl (by unfold maxLen; omega)
  have hl13 := h13.lt
  refine O.build (cells := #[.slice (some ⟨b5, 0, none⟩) 1 1, .slice (some ⟨b7, 0, none⟩) 1 1, .slice (some ⟨b13, 0, none⟩) 1 1]) rfl (by kernel_rfl) ?_
  refine O.alloc Tryz.zeroValue28 (fun b1 w5 hb1 hz1 e5 => ?_)
  have z5 := e5.size
  have h1 := hz1.own
  have hl1 := h1.lt
  refine O.storeA (vs := [.slice (some ⟨b5, 0, none⟩) 1 1, .slice (some ⟨b7, 0, none⟩) 1 1, .slice (some ⟨b13, 0, none⟩) 1 1]) Tryz.sizeOf28 rfl rfl rfl (ones3c rfl rfl rfl) h1 (Nat.le_of_ble_eq_true rfl) (fun w6 hs6 e6 z6 => ?_)
  have l5 := (((((h5.keep e2).keep e3).keep e4).keep e5).keepM e6 (by intro h; (try dsimp only at h); omega)).lt
  have l7 := ((((h7.keep e3).keep e4).keep e5).keepM e6 (by intro h; (try dsimp only at h); omega)).lt
  have l11 := (((h11.keep e4).keep e5).keepM e6 (by intro h; (try dsimp only at h); omega)).lt
  have l13 := ((h13.keep e5).keepM e6 (by intro h; (try dsimp only at h); omega)).lt
  obtain ⟨wk, hwk⟩ : ∃ x, x = w6 := ⟨_, rfl⟩
  have hzk : wk.heap.size = w6.heap.size := by rw [hwk]
  have he1 : Sl Dt.dotF.enc w6 (fun j => j < wk.heap.size) (.slice (some ⟨b5, 0, none⟩) 1 1) Cn.exam.1.1 := ((((((hq5.keep e2).keep e3).keep e4).keep e5).keepM e6 (by intro k hk h; (try dsimp only at hk); (try dsimp only at h); omega))).weak (by intro j hj; have hj : j = b5 := hj; show j < wk.heap.size; omega)
  have he2 : Sl Dt.dotF.enc w6 (fun j => j < wk.heap.size) (.slice (some ⟨b7, 0, none⟩) 1 1) Cn.exam.1.2 := (((((hq7.keep e3).keep e4).keep e5).keepM e6 (by intro k hk h; (try dsimp only at hk); (try dsimp only at h); omega))).weak (by intro j hj; have hj : j = b7 := hj; show j < wk.heap.size; omega)
  have he3 : Sl itemE w6 (fun j => j < wk.heap.size) (.slice (some ⟨b13, 0, none⟩) 1 1) Cn.exam.2 := Items.sl (Items.snoc Items.nil rfl (((((hq11.keep e4).keep e5).keepM e6 (by intro k hk h; (try dsimp only at hk); (try dsimp only at h); omega))).weak (by intro j hj; have hj : j = b11 := hj; show j < wk.heap.size; omega))) ((((hq13.keep e5).keepM e6 (by intro k hk h; (try dsimp only at hk); (try dsimp only at h); omega))).weak (by intro j hj; have hj : j = b13 := hj; show j < wk.heap.size; omega))
  refine O.nil ?_
  refine hK2 _ _ ?_
  refine C.seqK fun K3 hK3 => ?_
  refine C.seqK fun K4 hK4 => ?_
  refine C.region ?_
  refine O.litn [.int .u8 0, .int .u8 0, .int .u8 0] Tryz.underlying32 ti5 ts5 tz5 rfl (by decide) (by decide) rfl (by simp [Value.oneCell']) (fun b15 w7 hb15 hz15 e7 => ?_)
  have z7 := e7.size
  have h15 := hz15.own
  have hl15 := h15.lt
  have h15s : Sl byteE w7 (fun k => k = b15) (.slice (some ⟨b15, 0, none⟩) 3 3) [0, 0, 0] := Sl.of_own (G := byteF) h15 rfl (Nat.le_refl _) (by unfold maxLen; omega) (by simp [byteF])
  refine O.build (cells := #[.slice none 0 0, .slice none 0 0, .slice none 0 0]) rfl (by kernel_rfl) ?_
  refine O.call Tryz.call35 (args3 rfl rfl rfl) (isY_spec (.slice (some ⟨b15, 0, none⟩) 3 3) [0, 0, 0] _ (.slice none 0 0) (.slice none 0 0) (.slice none 0 0) Cn.nil0 (fun _ => False) _ h15s (by decide) (fun j hj => by have hj : j = b15 := hj; have := h15.lt; omega) (mx.keep (Ext.trans (Ext.new (Ext.trans (Ext.trans (Ext.trans (Ext.trans e1 e2) e3) e4) e5) e6 (by rintro i hi rfl; omega)) e7)) (Sl.nil _ _ _) (Sl.nil _ _ _) (Sl.nil _ _ _) (fun _ h => h.elim) Cn.is_nil0) ?_
  rintro v_17 w8 ⟨rfl, e8⟩
  have z8 := e8.size
  refine O.not rfl ?_
  refine O.cast (v' := .bool false) rfl ?_
  refine O.mv ?_
  refine O.yes rfl rfl ?_
  refine O.litn [.int .u8 1, .int .u8 2, .int .u8 3, .int .u8 1, .int .u8 5, .int .u8 9, .int .u8 1, .int .u8 3, .int .u8 116, .int .u8 101, .int .u8 97, .int .u8 1, .int .u8 2, .int .u8 3, .int .u8 200, .int .u8 1, .int .u8 1] Tryz.underlying32 ti5 ts5 tz5 rfl (by decide) (by decide) rfl (by simp [Value.oneCell']) (fun b20 w9 hb20 hz20 e9 => ?_)
  have z9 := e9.size
  have h20 := hz20.own
  have hl20 := h20.lt
  have h20s : Sl byteE w9 (fun k => k = b20) (.slice (some ⟨b20, 0, none⟩) 17 17) [1, 2, 3, 1, 5, 9, 1, 3, 116, 101, 97, 1, 2, 3, 200, 1, 1] := Sl.of_own (G := byteF) h20 rfl (Nat.le_refl _) (by unfold maxLen; omega) (by simp [byteF])
  refine O.yes rfl rfl ?_
  refine O.loadOA Tryz.isAgg28 Tryz.sizeOf28 rfl (((hs6.keep e7).keep e8).keep e9) (Nat.le_of_ble_eq_true rfl) ?_
  refine O.yes rfl rfl ?_
  refine O.call Tryz.call35 (args3 rfl rfl rfl) (isY_spec (.slice (some ⟨b20, 0, none⟩) 17 17) [1, 2, 3, 1, 5, 9, 1, 3, 116, 101, 97, 1, 2, 3, 200, 1, 1] _ (.slice (some ⟨b5, 0, none⟩) 1 1) (.slice (some ⟨b7, 0, none⟩) 1 1) (.slice (some ⟨b13, 0, none⟩) 1 1) Cn.exam (fun j => j < wk.heap.size) _ h20s (by decide) (fun j hj => by have hj : j = b20 := hj; have := h20.lt; omega) (mx.keep (Ext.trans (Ext.trans (Ext.trans (Ext.new (Ext.trans (Ext.trans (Ext.trans (Ext.trans e1 e2) e3) e4) e5) e6 (by rintro i hi rfl; omega)) e7) e8) e9)) (((he1.keep e7).keep e8).keep e9) (((he2.keep e7).keep e8).keep e9) (((he3.keep e7).keep e8).keep e9) (fun j hj => by have hj : j < wk.heap.size := hj; omega) Cn.is_exam) ?_
  rintro v_22 w10 ⟨rfl, e10⟩
  have z10 := e10.size
  refine O.yes rfl rfl ?_
  refine O.not rfl ?_
  refine O.cast (v' := .bool false) rfl ?_
  refine O.pickF rfl ?_
  refine O.nil ?_
  refine hK4 _ _ ?_
  refine C.condF rfl ?_
  refine C.skip ?_
  refine hK3 _ _ ?_
  refine C.seqK fun K5 hK5 => ?_
  refine C.seqK fun K6 hK6 => ?_
  refine C.region ?_
  refine O.litn [.int .u8 0, .int .u8 0] Tryz.underlying32 ti5 ts5 tz5 rfl (by decide) (by decide) rfl (by simp [Value.oneCell']) (fun b25 w11 hb25 hz25 e11 => ?_)
  have z11 := e11.size
  have h25 := hz25.own
  have hl25 := h25.lt
  have h25s : Sl byteE w11 (fun k => k = b25) (.slice (some ⟨b25, 0, none⟩) 2 2) [0, 0] := Sl.of_own (G := byteF) h25 rfl (Nat.le_refl _) (by unfold maxLen; omega) (by simp [byteF])
  refine O.litn [.int .u8 0, .int .u8 0, .int .u8 0, .int .u8 0] Tryz.underlying32 ti5 ts5 tz5 rfl (by decide) (by decide) rfl (by simp [Value.oneCell']) (fun b26 w12 hb26 hz26 e12 => ?_)
  have z12 := e12.size
  have h26 := hz26.own
  have hl26 := h26.lt
  have h26s : Sl byteE w12 (fun k => k = b26) (.slice (some ⟨b26, 0, none⟩) 4 4) [0, 0, 0, 0] := Sl.of_own (G := byteF) h26 rfl (Nat.le_refl _) (by unfold maxLen; omega) (by simp [byteF])
  refine O.litn [.int .u8 0, .int .u8 0, .int .u8 128, .int .u8 0] Tryz.underlying32 ti5 ts5 tz5 rfl (by decide) (by decide) rfl (by simp [Value.oneCell']) (fun b27 w13 hb27 hz27 e13 => ?_)
  have z13 := e13.size
  have h27 := hz27.own
  have hl27 := h27.lt
  have h27s : Sl byteE w13 (fun k => k = b27) (.slice (some ⟨b27, 0, none⟩) 4 4) [0, 0, 128, 0] := Sl.of_own (G := byteF) h27 rfl (Nat.le_refl _) (by unfold maxLen; omega) (by simp [byteF])
  refine O.litn [.int .u8 0, .int .u8 1, .int .u8 5, .int .u8 1, .int .u8 0] Tryz.underlying32 ti5 ts5 tz5 rfl (by decide) (by decide) rfl (by simp [Value.oneCell']) (fun b28 w14 hb28 hz28 e14 => ?_)
  have z14 := e14.size
  have h28 := hz28.own
  have hl28 := h28.lt
  have h28s : Sl byteE w14 (fun k => k = b28) (.slice (some ⟨b28, 0, none⟩) 5 5) [0, 1, 5, 1, 0] := Sl.of_own (G := byteF) h28 rfl (Nat.le_refl _) (by unfold maxLen; omega) (by simp [byteF])
  refine O.litn [.slice (some ⟨b25, 0, none⟩) 2 2, .slice (some ⟨b26, 0, none⟩) 4 4, .slice (some ⟨b27, 0, none⟩) 4 4, .slice none 0 0, .slice (some ⟨b28, 0, none⟩) 5 5] Tryz.underlying67 ti32 ts32 tz32 rfl (by decide) (by decide) rfl (by simp [Value.oneCell']) (fun b29 w15 hb29 hz29 e15 => ?_)
  have z15 := e15.size
  have h29 := hz29.own
  have hl29 := h29.lt
  have l25 := ((((h25.keep e12).keep e13).keep e14).keep e15).lt
  have l26 := (((h26.keep e13).keep e14).keep e15).lt
  have l27 := ((h27.keep e14).keep e15).lt
  have l28 := (h28.keep e15).lt
  have l29 := h29.lt
  obtain ⟨wb, hwb⟩ : ∃ x, x = w15 := ⟨_, rfl⟩
  have hzb : wb.heap.size = w15.heap.size := by rw [hwb]
  have hbads : Sl (sliE byteE) w15 (fun j => j = b29 ∨ j < wb.heap.size) (.slice (some ⟨b29, 0, none⟩) 5 5) Cn.bads := Sl.lits (F := fun j => j < wb.heap.size) h29 rfl (by decide) fun i h1 h2 => by
    match i, h1, h2 with
    | 0, _, _ => exact (((((h25s.keep e12).keep e13).keep e14).keep e15)).weak (by intro j hj; have hj : j = b25 := hj; show j < wb.heap.size; omega)
    | 1, _, _ => exact ((((h26s.keep e13).keep e14).keep e15)).weak (by intro j hj; have hj : j = b26 := hj; show j < wb.heap.size; omega)
    | 2, _, _ => exact (((h27s.keep e14).keep e15)).weak (by intro j hj; have hj : j = b27 := hj; show j < wb.heap.size; omega)
    | 3, _, _ => exact Sl.nil _ _ _
    | 4, _, _ => exact ((h28s.keep e15)).weak (by intro j hj; have hj : j = b28 := hj; show j < wb.heap.size; omega)
  refine O.len Tryz.underlying67 rfl hbads ?_
  refine O.mv ?_
  refine O.nil ?_
  refine hK6 _ _ ?_
  refine C.block fun K7 hK7 => ?_
  refine C.loop0 (σ := Nat) (fun f0 w0 i f w => f 31 = .int .i64 ((i : Int)) ∧ f 1 = f0 1 ∧ f 29 = f0 29 ∧ f 30 = f0 30 ∧ Le w0 w ∧ i ≤ 5) (fun i => 5 - i) 0 ?_ ?_
  ·
    refine ⟨rfl, rfl, rfl, rfl, Le.refl _, ?_⟩
    exact Nat.zero_le _
  ·
    rintro i f_1 w16 ⟨s31_1, s1_1, s29_1, s30_1, e_1, hi⟩
    have z_1 := e_1.size
    refine C.seqK fun K8 hK8 => ?_
    refine C.region ?_
    refine O.lssI s31_1 s30_1 ?_
    refine O.nil ?_
    refine hK8 _ _ ?_
    refine C.seqK fun K9 hK9 => ?_
    refine C.condD rfl (fun c32 => ?_) (fun c32 => ?_)
    ·
      have hi2 : i < Cn.bads.length := by omega
      have hi3 : Cn.bads.length = 5 := rfl
      have hlb29 := h29.lt
      refine C.skip ?_
      refine hK9 _ _ ?_
      refine C.seqK fun K10 hK10 => ?_
      refine C.block fun K11 hK11 => ?_
      refine C.seqK fun K12 hK12 => ?_
      refine C.region ?_
      refine O.idx Tryz.underlying67 Tryz.sizeOf32 rfl s29_1 (hbads.keep e_1) s31_1 (by omega) (fun a33 h33 => ?_)
      refine O.loadSl Tryz.isAgg32 rfl h33 (fun v34 h34 => ?_)
      refine O.asg ?_
      refine O.nil ?_
      refine hK12 _ _ ?_
      refine C.seqK fun K13 hK13 => ?_
      refine C.region ?_
      refine O.mv ?_
      refine O.build (cells := #[.slice none 0 0, .slice none 0 0, .slice none 0 0]) rfl (by kernel_rfl) ?_
      refine O.call Tryz.call35 (args3 rfl rfl rfl) (isN_spec v34 Cn.bads[i] _ (.slice none 0 0) (.slice none 0 0) (.slice none 0 0) Cn.nil0 (fun _ => False) _ h34 (Nat.le_trans (Cn.bads_len i hi2) (by decide)) (fun j hj => by have hj : j = b29 ∨ j < wb.heap.size := hj; omega) (mx.keep (Ext.trans (Ext.trans (Ext.trans (Ext.trans (Ext.trans (Ext.trans (Ext.trans (Ext.trans (Ext.trans (Ext.trans (Ext.new (Ext.trans (Ext.trans (Ext.trans (Ext.trans e1 e2) e3) e4) e5) e6 (by rintro i hi rfl; omega)) e7) e8) e9) e10) e11) e12) e13) e14) e15) e_1)) (Sl.nil _ _ _) (Sl.nil _ _ _) (Sl.nil _ _ _) (fun _ h => h.elim) (Cn.bads_no i hi2)) ?_
      rintro v_37 w17 ⟨rfl, e17⟩
      have z17 := e17.size
      refine O.not rfl ?_
      refine O.cast (v' := .bool false) rfl ?_
      refine O.nil ?_
      refine hK13 _ _ ?_
      refine C.condF rfl ?_
      refine C.skip ?_
      refine hK11 _ _ ?_
      refine hK10 _ _ ?_
      refine C.region ?_
      refine O.addI s31_1 rfl (by unfold InI; omega) ?_
      refine O.mv ?_
      refine O.nil ?_
      refine ⟨(i + 1), ⟨rfl, s1_1, s29_1, s30_1, (Ext.trans e_1 e17), ?_⟩, by first | omega | (simp only []; omega)⟩
      omega
    ·
      refine C.exit ?_
      refine hK7 _ _ ?_
      refine hK5 _ _ ?_
      refine C.seqK fun K14 hK14 => ?_
      refine C.region ?_
      refine O.litn [.int .u8 0, .int .u8 0, .int .u8 0, .int .u8 7, .int .u8 7] Tryz.underlying32 ti5 ts5 tz5 rfl (by decide) (by decide) rfl (by simp [Value.oneCell']) (fun b40 w18 hb40 hz40 e18 => ?_)
      have z18 := e18.size
      have h40 := hz40.own
      have hl40 := h40.lt
      have h40s : Sl byteE w18 (fun k => k = b40) (.slice (some ⟨b40, 0, none⟩) 5 5) [0, 0, 0, 7, 7] := Sl.of_own (G := byteF) h40 rfl (Nat.le_refl _) (by unfold maxLen; omega) (by simp [byteF])
      refine O.build (cells := #[.slice none 0 0, .slice none 0 0, .slice none 0 0]) rfl (by kernel_rfl) ?_
      refine O.call Tryz.call36 (args4 rfl rfl rfl rfl) (begins_spec (.slice (some ⟨b40, 0, none⟩) 5 5) [0, 0, 0, 7, 7] _ (.slice none 0 0) (.slice none 0 0) (.slice none 0 0) Cn.nil0 (fun _ => False) 3 0 _ h40s (by decide) (fun j hj => by have hj : j = b40 := hj; have := h40.lt; omega) (mx.keep (Ext.trans (Ext.trans (Ext.trans (Ext.trans (Ext.trans (Ext.trans (Ext.trans (Ext.trans (Ext.trans (Ext.trans (Ext.trans (Ext.new (Ext.trans (Ext.trans (Ext.trans (Ext.trans e1 e2) e3) e4) e5) e6 (by rintro i hi rfl; omega)) e7) e8) e9) e10) e11) e12) e13) e14) e15) e_1) e18)) (Sl.nil _ _ _) (Sl.nil _ _ _) (Sl.nil _ _ _) (fun _ h => h.elim) Cn.pref_front) ?_
      rintro v_42 w19 ⟨rfl, e19⟩
      have z19 := e19.size
      refine O.mv ?_
      refine O.yes rfl rfl ?_
      refine O.litn [.int .u8 7, .int .u8 7] Tryz.underlying32 ti5 ts5 tz5 rfl (by decide) (by decide) rfl (by simp [Value.oneCell']) (fun b44 w20 hb44 hz44 e20 => ?_)
      have z20 := e20.size
      have h44 := hz44.own
      have hl44 := h44.lt
      have h44s : Sl byteE w20 (fun k => k = b44) (.slice (some ⟨b44, 0, none⟩) 2 2) [7, 7] := Sl.of_own (G := byteF) h44 rfl (Nat.le_refl _) (by unfold maxLen; omega) (by simp [byteF])
      refine O.yes rfl rfl ?_
      refine O.build (cells := #[.slice none 0 0, .slice none 0 0, .slice none 0 0]) rfl (by kernel_rfl) ?_
      refine O.yes rfl rfl ?_
      refine O.call Tryz.call36 (args4 rfl rfl rfl rfl) (begins_spec (.slice (some ⟨b44, 0, none⟩) 2 2) [7, 7] _ (.slice none 0 0) (.slice none 0 0) (.slice none 0 0) Cn.nil0 (fun _ => False) 0 12 _ h44s (by decide) (fun j hj => by have hj : j = b44 := hj; have := h44.lt; omega) (mx.keep (Ext.trans (Ext.trans (Ext.trans (Ext.trans (Ext.trans (Ext.trans (Ext.trans (Ext.trans (Ext.trans (Ext.trans (Ext.trans (Ext.trans (Ext.trans (Ext.new (Ext.trans (Ext.trans (Ext.trans (Ext.trans e1 e2) e3) e4) e5) e6 (by rintro i hi rfl; omega)) e7) e8) e9) e10) e11) e12) e13) e14) e15) e_1) e18) e19) e20)) (Sl.nil _ _ _) (Sl.nil _ _ _) (Sl.nil _ _ _) (fun _ h => h.elim) (Cn.pref_short (by decide))) ?_
      rintro v_46 w21 ⟨rfl, e21⟩
      have z21 := e21.size
      refine O.pickT rfl ?_
      refine O.mv ?_
      refine O.yes rfl rfl ?_
      refine O.litn [.int .u8 0, .int .u8 0, .int .u8 0, .int .u8 1, .int .u8 2, .int .u8 3, .int .u8 0, .int .u8 0] Tryz.underlying32 ti5 ts5 tz5 rfl (by decide) (by decide) rfl (by simp [Value.oneCell']) (fun b49 w22 hb49 hz49 e22 => ?_)
      have z22 := e22.size
      have h49 := hz49.own
      have hl49 := h49.lt
      have h49s : Sl byteE w22 (fun k => k = b49) (.slice (some ⟨b49, 0, none⟩) 8 8) [0, 0, 0, 1, 2, 3, 0, 0] := Sl.of_own (G := byteF) h49 rfl (Nat.le_refl _) (by unfold maxLen; omega) (by simp [byteF])
      refine O.yes rfl rfl ?_
      refine O.call Tryz.call32 (args3 rfl rfl rfl) (counts_spec (.slice (some ⟨b49, 0, none⟩) 8 8) [0, 0, 0, 1, 2, 3, 0, 0] _ 2 0 _ h49s (by decide) (fun j hj => by have hj : j = b49 := hj; have := h49.lt; omega) (mx.keep (Ext.trans (Ext.trans (Ext.trans (Ext.trans (Ext.trans (Ext.trans (Ext.trans (Ext.trans (Ext.trans (Ext.trans (Ext.trans (Ext.trans (Ext.trans (Ext.trans (Ext.trans (Ext.new (Ext.trans (Ext.trans (Ext.trans (Ext.trans e1 e2) e3) e4) e5) e6 (by rintro i hi rfl; omega)) e7) e8) e9) e10) e11) e12) e13) e14) e15) e_1) e18) e19) e20) e21) e22)) Cn.count_two) ?_
      rintro v_50 w23 ⟨rfl, e23⟩
      have z23 := e23.size
      refine O.pickT rfl ?_
      refine O.mv ?_
      refine O.yes rfl rfl ?_
      refine O.call Tryz.call32 (args3 rfl rfl rfl) (counts_spec (.slice none 0 0) [] (fun _ => False) 0 0 _ (Sl.nil _ _ _) (by decide) (fun _ h => h.elim) (mx.keep (Ext.trans (Ext.trans (Ext.trans (Ext.trans (Ext.trans (Ext.trans (Ext.trans (Ext.trans (Ext.trans (Ext.trans (Ext.trans (Ext.trans (Ext.trans (Ext.trans (Ext.trans (Ext.trans (Ext.new (Ext.trans (Ext.trans (Ext.trans (Ext.trans e1 e2) e3) e4) e5) e6 (by rintro i hi rfl; omega)) e7) e8) e9) e10) e11) e12) e13) e14) e15) e_1) e18) e19) e20) e21) e22) e23)) Cn.count_nil) ?_
      rintro v_53 w24 ⟨rfl, e24⟩
      have z24 := e24.size
      refine O.pickT rfl ?_
      refine O.mv ?_
      refine O.yes rfl rfl ?_
      refine O.litn [.int .u8 0, .int .u8 0, .int .u8 0, .int .u8 0] Tryz.underlying32 ti5 ts5 tz5 rfl (by decide) (by decide) rfl (by simp [Value.oneCell']) (fun b56 w25 hb56 hz56 e25 => ?_)
      have z25 := e25.size
      have h56 := hz56.own
      have hl56 := h56.lt
      have h56s : Sl byteE w25 (fun k => k = b56) (.slice (some ⟨b56, 0, none⟩) 4 4) [0, 0, 0, 0] := Sl.of_own (G := byteF) h56 rfl (Nat.le_refl _) (by unfold maxLen; omega) (by simp [byteF])
      refine O.yes rfl rfl ?_
      refine O.call Tryz.call32 (args3 rfl rfl rfl) (counts_spec (.slice (some ⟨b56, 0, none⟩) 4 4) [0, 0, 0, 0] _ 0 12 _ h56s (by decide) (fun j hj => by have hj : j = b56 := hj; have := h56.lt; omega) (mx.keep (Ext.trans (Ext.trans (Ext.trans (Ext.trans (Ext.trans (Ext.trans (Ext.trans (Ext.trans (Ext.trans (Ext.trans (Ext.trans (Ext.trans (Ext.trans (Ext.trans (Ext.trans (Ext.trans (Ext.trans (Ext.trans (Ext.new (Ext.trans (Ext.trans (Ext.trans (Ext.trans e1 e2) e3) e4) e5) e6 (by rintro i hi rfl; omega)) e7) e8) e9) e10) e11) e12) e13) e14) e15) e_1) e18) e19) e20) e21) e22) e23) e24) e25)) Cn.count_four) ?_
      rintro v_57 w26 ⟨rfl, e26⟩
      have z26 := e26.size
      refine O.pickT rfl ?_
      refine O.mv ?_
      refine O.yes rfl rfl ?_
      refine O.litn [.int .u8 1, .int .u8 2, .int .u8 3, .int .u8 1, .int .u8 5, .int .u8 9] Tryz.underlying32 ti5 ts5 tz5 rfl (by decide) (by decide) rfl (by simp [Value.oneCell']) (fun b60 w27 hb60 hz60 e27 => ?_)
      have z27 := e27.size
      have h60 := hz60.own
      have hl60 := h60.lt
      have h60s : Sl byteE w27 (fun k => k = b60) (.slice (some ⟨b60, 0, none⟩) 6 6) [1, 2, 3, 1, 5, 9] := Sl.of_own (G := byteF) h60 rfl (Nat.le_refl _) (by unfold maxLen; omega) (by simp [byteF])
      refine O.yes rfl rfl ?_
      refine O.fieldAd Tryz.underlying28 rfl Tryz.sizeOf25 (by decide) s1_1 ?_
      refine O.yes rfl rfl ?_
      refine O.loadOA Tryz.isAgg25 Tryz.sizeOf25 rfl ((((((((((((((((((((hs6.keep e7).keep e8).keep e9).keep e10).keep e11).keep e12).keep e13).keep e14).keep e15).keep e_1).keep e18).keep e19).keep e20).keep e21).keep e22).keep e23).keep e24).keep e25).keep e26).keep e27) (Nat.le_of_ble_eq_true rfl) ?_
      refine O.yes rfl rfl ?_
      refine O.call Tryz.call53 (args3 rfl rfl rfl) (wseen_spec (.slice (some ⟨b60, 0, none⟩) 6 6) [1, 2, 3, 1, 5, 9] _ (.slice (some ⟨b5, 0, none⟩) 1 1) (.slice (some ⟨b7, 0, none⟩) 1 1) Cn.exam.1 (fun j => j < wk.heap.size) 0 _ h60s (by decide) (fun j hj => by have hj : j = b60 := hj; have := h60.lt; omega) (mx.keep (Ext.trans (Ext.trans (Ext.trans (Ext.trans (Ext.trans (Ext.trans (Ext.trans (Ext.trans (Ext.trans (Ext.trans (Ext.trans (Ext.trans (Ext.trans (Ext.trans (Ext.trans (Ext.trans (Ext.trans (Ext.trans (Ext.trans (Ext.trans (Ext.new (Ext.trans (Ext.trans (Ext.trans (Ext.trans e1 e2) e3) e4) e5) e6 (by rintro i hi rfl; omega)) e7) e8) e9) e10) e11) e12) e13) e14) e15) e_1) e18) e19) e20) e21) e22) e23) e24) e25) e26) e27)) ((((((((((((((((((((he1.keep e7).keep e8).keep e9).keep e10).keep e11).keep e12).keep e13).keep e14).keep e15).keep e_1).keep e18).keep e19).keep e20).keep e21).keep e22).keep e23).keep e24).keep e25).keep e26).keep e27) ((((((((((((((((((((he2.keep e7).keep e8).keep e9).keep e10).keep e11).keep e12).keep e13).keep e14).keep e15).keep e_1).keep e18).keep e19).keep e20).keep e21).keep e22).keep e23).keep e24).keep e25).keep e26).keep e27) (fun j hj => by have hj : j < wk.heap.size := hj; omega) Cn.ctx_yes) ?_
      rintro v_63 w28 ⟨rfl, e28⟩
      have z28 := e28.size
      refine O.pickT rfl ?_
      refine O.mv ?_
      refine O.yes rfl rfl ?_
      refine O.litn [.int .u8 1, .int .u8 2, .int .u8 3] Tryz.underlying32 ti5 ts5 tz5 rfl (by decide) (by decide) rfl (by simp [Value.oneCell']) (fun b66 w29 hb66 hz66 e29 => ?_)
      have z29 := e29.size
      have h66 := hz66.own
      have hl66 := h66.lt
      have h66s : Sl byteE w29 (fun k => k = b66) (.slice (some ⟨b66, 0, none⟩) 3 3) [1, 2, 3] := Sl.of_own (G := byteF) h66 rfl (Nat.le_refl _) (by unfold maxLen; omega) (by simp [byteF])
      refine O.yes rfl rfl ?_
      refine O.build (cells := #[.slice none 0 0, .slice none 0 0]) rfl (by kernel_rfl) ?_
      refine O.yes rfl rfl ?_
      refine O.call Tryz.call53 (args3 rfl rfl rfl) (wseen_spec (.slice (some ⟨b66, 0, none⟩) 3 3) [1, 2, 3] _ (.slice none 0 0) (.slice none 0 0) ([], []) (fun _ => False) 12 _ h66s (by decide) (fun j hj => by have hj : j = b66 := hj; have := h66.lt; omega) (mx.keep (Ext.trans (Ext.trans (Ext.trans (Ext.trans (Ext.trans (Ext.trans (Ext.trans (Ext.trans (Ext.trans (Ext.trans (Ext.trans (Ext.trans (Ext.trans (Ext.trans (Ext.trans (Ext.trans (Ext.trans (Ext.trans (Ext.trans (Ext.trans (Ext.trans (Ext.trans (Ext.new (Ext.trans (Ext.trans (Ext.trans (Ext.trans e1 e2) e3) e4) e5) e6 (by rintro i hi rfl; omega)) e7) e8) e9) e10) e11) e12) e13) e14) e15) e_1) e18) e19) e20) e21) e22) e23) e24) e25) e26) e27) e28) e29)) (Sl.nil _ _ _) (Sl.nil _ _ _) (fun _ h => h.elim) Cn.ctx_no) ?_
      rintro v_68 w30 ⟨rfl, e30⟩
      have z30 := e30.size
      refine O.pickT rfl ?_
      refine O.asg ?_
      refine O.nil ?_
      refine hK14 _ _ ?_
      refine C.ret ?_
      refine Outs.one rfl rfl ?_
      exact ⟨rfl, (Ext.trans (Ext.trans (Ext.trans (Ext.trans (Ext.trans (Ext.trans (Ext.trans (Ext.trans (Ext.trans (Ext.trans (Ext.trans (Ext.trans (Ext.trans (Ext.trans (Ext.trans (Ext.trans (Ext.trans (Ext.trans (Ext.trans (Ext.trans (Ext.trans (Ext.trans (Ext.trans (Ext.new (Ext.trans (Ext.trans (Ext.trans (Ext.trans e1 e2) e3) e4) e5) e6 (by rintro i hi rfl; omega)) e7) e8) e9) e10) e11) e12) e13) e14) e15) e_1) e18) e19) e20) e21) e22) e23) e24) e25) e26) e27) e28) e29) e30)⟩

end Go.Proofs.YtnkcmaoaagnopaaGreatDoor
end
section
/-
  The walks of two laws of reading. Conditions: slices as they lie in memory.
-/
namespace Go.Proofs.YtnkcmaoaagnopaaGreatDoor
open Go.Pn Go.RowKit Go.Proofs
attribute [local irreducible] O C D

set_option maxHeartbeats 8000000 in
theorem decodeCounts_spec (v0 : Value) (cs : List Cn.Cart) (F : Nat → Prop) (v1 : Value) (l : List UInt8) (F2 : Nat → Prop) (w : World) (hcs : Sl (prE (prE (slE Dt.dotF.enc) (slE Dt.dotF.enc)) (slE itemE)) w F v0 cs) (hF : ∀ k, F k → k < w.heap.size) (hl : Sl byteE w F2 v1 l) (hF2 : ∀ k, F2 k → k < w.heap.size) (mx : Mx w) :
    Ret Tryz.prog 10 #[v0, v1] w (fun v w' => v = .bool true ∧ Le w w') := by
  obtain ⟨ie5, ti5, ts5, tb5, tz5⟩ := inf5
  have hll := hl.le
  have hgl := mx.lt
  have _hF2 := hF2
  refine enter (args := [v0, v1]) (n := 55) Tryz.func10 rfl rfl (Nat.le_of_ble_eq_true rfl) ?_
  refine C.seqK fun K1 hK1 => ?_
  refine C.region ?_
  refine O.asg ?_
  refine O.nil ?_
  refine hK1 _ _ ?_
  refine C.seqK fun K2 hK2 => ?_
  refine C.seqK fun K3 hK3 => ?_
  refine C.region ?_
  refine O.mv ?_
  refine O.len Tryz.underlying63 rfl hcs ?_
  refine O.gtrI rfl rfl ?_
  refine O.mv ?_
  refine O.splitD (x := .tmp 11) rfl (fun c11 => ?_) (fun c11 => ?_)
  ·
    refine O.no rfl (noB (isT rfl c11) rfl) ?_
    refine O.no rfl (noB (isT rfl c11) rfl) ?_
    refine O.no rfl (noB (isT rfl c11) rfl) ?_
    refine O.pickT (isT rfl c11) ?_
    refine O.nil ?_
    refine hK3 _ _ ?_
    refine C.condT rfl ?_
    refine C.seqK fun K4 hK4 => ?_
    refine C.region ?_
    refine O.call Tryz.call29 (argsN) (wknown_spec _ mx) ?_
    rintro v_16 w1 ⟨rfl, e1⟩
    have z1 := e1.size
    refine O.asg ?_
    refine O.nil ?_
    refine hK4 _ _ ?_
    refine C.ret ?_
    refine Outs.one rfl rfl ?_
    exact ⟨rfl, e1⟩
  ·
    refine O.yes rfl (isF rfl c11) ?_
    refine O.mv ?_
    refine O.yes rfl (isF rfl c11) ?_
    refine O.len Tryz.underlying32 rfl hl ?_
    refine O.yes rfl (isF rfl c11) ?_
    refine O.gtrI rfl rfl ?_
    refine O.pickF (isF rfl c11) ?_
    refine O.nil ?_
    refine hK3 _ _ ?_
    refine C.condD rfl (fun c15 => ?_) (fun c15 => ?_)
    ·
      refine C.seqK fun K5 hK5 => ?_
      refine C.region ?_
      refine O.call Tryz.call29 (argsN) (wknown_spec _ mx) ?_
      rintro v_16 w2 ⟨rfl, e2⟩
      have z2 := e2.size
      refine O.asg ?_
      refine O.nil ?_
      refine hK5 _ _ ?_
      refine C.ret ?_
      refine Outs.one rfl rfl ?_
      exact ⟨rfl, e2⟩
    ·
      refine C.skip ?_
      refine hK2 _ _ ?_
      refine C.seqK fun K6 hK6 => ?_
      refine C.region ?_
      refine O.asg ?_
      refine O.nil ?_
      refine hK6 _ _ ?_
      refine C.seqK fun K7 hK7 => ?_
      refine C.seqK fun K8 hK8 => ?_
      refine C.region ?_
      refine O.asg ?_
      refine O.nil ?_
      refine hK8 _ _ ?_
      refine C.block fun K9 hK9 => ?_
      refine C.loop0 (σ := Nat × Value × List UInt8) (fun f0 w0 ⟨i, pv, xs⟩ f wz => f 5 = pv ∧ f 6 = .int .i64 ((i : Int)) ∧ f 0 = f0 0 ∧ f 1 = f0 1 ∧ Le w wz ∧ OwnF byteF 5 w.heap.size wz pv xs ∧ i ≤ cs.length ∧ xs.length ≤ 25000 * i) (fun ⟨i, pv, xs⟩ => cs.length - i) (0, .slice none 0 0, []) ?_ ?_
      ·
        refine ⟨rfl, rfl, rfl, rfl, (Le.refl _), (OwnF.nil _ _ _ _), ?_⟩
        exact ⟨Nat.zero_le _, Nat.zero_le _⟩
      ·
        rintro ⟨i, pv, xs⟩ f_1 w3 ⟨s5_1, s6_1, s0_1, s1_1, e_1, r0_1, ⟨hi, hxs⟩⟩
        have z_1 := e_1.size
        have r0_1s := r0_1.sl
        refine C.seqK fun K10 hK10 => ?_
        refine C.seqK fun K11 hK11 => ?_
        refine C.region ?_
        refine O.mv ?_
        refine O.mv ?_
        refine O.len Tryz.underlying63 s0_1 (hcs.keep e_1) ?_
        refine O.lssI s6_1 rfl ?_
        refine O.nil ?_
        refine hK11 _ _ ?_
        refine C.condD rfl (fun c20 => ?_) (fun c20 => ?_)
        ·
          have hi2 : i < cs.length := by omega
          obtain ⟨u, hu⟩ : ∃ u : Cn.Cart, u = cs[i] := ⟨_, rfl⟩
          refine C.skip ?_
          refine hK10 _ _ ?_
          refine C.seqK fun K12 hK12 => ?_
          refine C.block fun K13 hK13 => ?_
          refine C.seqK fun K14 hK14 => ?_
          refine C.seqK fun K15 hK15 => ?_
          refine C.region ?_
          refine O.mv ?_
          refine O.mv ?_
          refine O.idx Tryz.underlying63 Tryz.sizeOf28 rfl s0_1 (hcs.keep e_1) s6_1 (by omega) (fun a25 h25 => ?_)
          refine O.loadE (E := (prE (prE (slE Dt.dotF.enc) (slE Dt.dotF.enc)) (slE itemE))) Tryz.isAgg28 Tryz.sizeOf28 rfl rfl h25 (fun cs26 hcs26 => ?_)
          obtain ⟨_, _, rfl, ⟨_, _, rfl, ⟨va26, rfl, hx26⟩, vb26, rfl, hy26⟩, vc26, rfl, hz26⟩ := hcs26
          replace hx26 : Sl Dt.dotF.enc w3 F va26 u.1.1 := by rw [hu]; exact hx26
          replace hy26 : Sl Dt.dotF.enc w3 F vb26 u.1.2 := by rw [hu]; exact hy26
          replace hz26 : Sl itemE w3 F vc26 u.2 := by rw [hu]; exact hz26
          refine O.cast (v' := .agg #[va26, vb26, vc26]) rfl ?_
          refine O.call Tryz.call13 (args1 rfl) (small_spec va26 vb26 vc26 u _ _ hx26 hy26 hz26) ?_
          rintro v_27 w4 ⟨rfl, e4⟩
          have z4 := e4.size
          refine O.not rfl ?_
          refine O.nil ?_
          refine hK15 _ _ ?_
          refine C.cond rfl (fun c28 => ?_) (fun c28 => ?_)
          ·
            refine C.seqK fun K16 hK16 => ?_
            refine C.region ?_
            refine O.call Tryz.call29 (argsN) (wknown_spec _ ((mx.keep e_1).keep e4)) ?_
            rintro v_29 w5 ⟨rfl, e5⟩
            have z5 := e5.size
            refine O.asg ?_
            refine O.nil ?_
            refine hK16 _ _ ?_
            refine C.ret ?_
            refine Outs.one rfl rfl ?_
            exact ⟨rfl, (Ext.trans (Ext.trans e_1 e4) e5)⟩
          ·
            have hsm : Cn.small u = true := by simpa using c28
            obtain ⟨hs1, hs2, hs3, hs4⟩ := Cn.small_iff hsm
            have hn : u.2.length ≤ 1000000 := by omega
            have hS : ∀ x ∈ u.2, x.1.length ≤ 1000000 ∧ x.2.length ≤ 1000000 := fun x hx => by have := hs4 x hx; omega
            have hp : u.1.1.length ≤ 1000000 := by omega
            have hq : u.1.2.length ≤ 1000000 := by omega
            have hbs := Cn.bytes_small hsm
            refine C.skip ?_
            refine hK14 _ _ ?_
            refine C.region ?_
            refine O.mv ?_
            refine O.mv ?_
            refine O.mv ?_
            refine O.idx Tryz.underlying63 Tryz.sizeOf28 rfl s0_1 ((hcs.keep e_1).keep e4) s6_1 (by omega) (fun a33 h33 => ?_)
            refine O.loadE (E := (prE (prE (slE Dt.dotF.enc) (slE Dt.dotF.enc)) (slE itemE))) Tryz.isAgg28 Tryz.sizeOf28 rfl rfl h33 (fun cs34 hcs34 => ?_)
            obtain ⟨_, _, rfl, ⟨_, _, rfl, ⟨va34, rfl, hx34⟩, vb34, rfl, hy34⟩, vc34, rfl, hz34⟩ := hcs34
            replace hx34 : Sl Dt.dotF.enc w4 F va34 u.1.1 := by rw [hu]; exact hx34
            replace hy34 : Sl Dt.dotF.enc w4 F vb34 u.1.2 := by rw [hu]; exact hy34
            replace hz34 : Sl itemE w4 F vc34 u.2 := by rw [hu]; exact hz34
            refine O.cast (v' := .agg #[va34, vb34, vc34]) rfl ?_
            refine O.call Tryz.call22 (args1 rfl) (rbytes_spec va34 vb34 vc34 u _ _ hx34 hy34 hz34 (fun j hj => by have q1 := hF j hj; omega) hn hS hp hq) ?_
            rintro v_35 w6 ⟨e6, h35⟩
            have z6 := e6.size
            have h35s := h35.sl
            refine O.appF (G := byteF) Tryz.underlying32 ti5 tz5 ts5 rfl s5_1 rfl ((r0_1.keep e4).keep e6) h35s (by rw [tb5]; simp; omega) (by unfold maxLen; simp; omega) (by omega) (fun v36 w7 h36 e7 => ?_)
            have e7m : Ext (fun j => w.heap.size ≤ j) w6 w7 := e7.mono (fun j _ hj => by have := ((r0_1.keep e4).keep e6).bk_ge j hj; omega)
            have z7 := e7.size
            have h36s := h36.sl
            refine O.asg ?_
            refine O.nil ?_
            refine hK13 _ _ ?_
            refine hK12 _ _ ?_
            refine C.region ?_
            refine O.mv ?_
            refine O.addI s6_1 rfl (by unfold InI; omega) ?_
            refine O.asg ?_
            refine O.nil ?_
            refine ⟨(i + 1, v36, xs ++ Cn.bytes u), ⟨rfl, rfl, s0_1, s1_1, (Ext.new (Ext.trans (Ext.trans e_1 e4) e6) e7 (by intro i hi h; have := ((r0_1.keep e4).keep e6).bk_ge i h; omega)), h36, ?_⟩, by first | omega | (simp only []; omega)⟩
            exact ⟨by omega, by rw [List.length_append]; omega⟩
        ·
          refine C.exit ?_
          refine hK9 _ _ ?_
          refine hK7 _ _ ?_
          refine C.seqK fun K17 hK17 => ?_
          refine C.region ?_
          refine O.mv ?_
          refine O.mv ?_
          refine O.appF (G := byteF) Tryz.underlying32 ti5 tz5 ts5 rfl s5_1 s1_1 r0_1 (hl.keep e_1) (by rw [tb5]; simp; omega) (by unfold maxLen; simp; omega) (by omega) (fun v39 w8 h39 e8 => ?_)
          have z8 := e8.size
          have h39s := h39.sl
          obtain ⟨p39, rfl⟩ := h39s.slv
          refine O.asg ?_
          refine O.nil ?_
          refine hK17 _ _ ?_
          refine C.seqK fun K18 hK18 => ?_
          refine C.seqK fun K19 hK19 => ?_
          refine C.region ?_
          refine O.mv ?_
          refine O.call Tryz.call31 (args1 rfl) (wmany_spec p39 _ (bk (slv p39)) _ h39s (by rw [List.length_append]; omega) (fun j hj => by have q1 := (h39).bk_ge j hj; omega) (mx.keep (Ext.new e_1 e8 (by intro i hi h; have := r0_1.bk_ge i h; omega)))) ?_
          rintro v_41 w9 ⟨nv41, rfl, hpv41, e9⟩
          have z9 := e9.size
          refine O.asg ?_
          refine O.nil ?_
          refine hK19 _ _ ?_
          refine C.seqK fun K20 hK20 => ?_
          refine C.region ?_
          refine O.mv ?_
          refine O.geqI rfl rfl ?_
          refine O.nil ?_
          refine hK20 _ _ ?_
          refine C.condD rfl (fun c43 => ?_) (fun c43 => ?_)
          ·
            obtain ⟨m, hm1, hm2⟩ : ∃ m : Nat, nv41 = m ∧ Cn.CountRes (xs ++ l) m 0 := by
              rcases hpv41 with h | ⟨h, _⟩
              · exact h
              · exfalso; omega
            refine C.seqK fun K21 hK21 => ?_
            refine C.region ?_
            refine O.mv ?_
            refine O.mv ?_
            refine O.cast (v' := .int .i64 (m : Int)) (congrArg (Value.int .i64) hm1) ?_
            refine O.call Tryz.call32 (args3 rfl rfl rfl) (counts_spec (slv p39) _ (bk (slv p39)) m 0 _ (h39s.keep e9) (by rw [List.length_append]; omega) (fun j hj => by have q1 := ((h39.keep e9)).bk_ge j hj; omega) (mx.keep (Ext.trans (Ext.new e_1 e8 (by intro i hi h; have := r0_1.bk_ge i h; omega)) e9)) hm2) ?_
            rintro v_46 w10 ⟨rfl, e10⟩
            have z10 := e10.size
            refine O.mv ?_
            refine O.yes rfl rfl ?_
            refine O.call Tryz.call29 (argsN) (wknown_spec _ (mx.keep (Ext.trans (Ext.trans (Ext.new e_1 e8 (by intro i hi h; have := r0_1.bk_ge i h; omega)) e9) e10))) ?_
            rintro v_48 w11 ⟨rfl, e11⟩
            have z11 := e11.size
            refine O.pickT rfl ?_
            refine O.asg ?_
            refine O.nil ?_
            refine hK21 _ _ ?_
            refine C.ret ?_
            refine Outs.one rfl rfl ?_
            exact ⟨rfl, (Ext.trans (Ext.trans (Ext.trans (Ext.new e_1 e8 (by intro i hi h; have := r0_1.bk_ge i h; omega)) e9) e10) e11)⟩
          ·
            have hm3 : Cn.CountRes (xs ++ l) 0 12 := by
              rcases hpv41 with ⟨m, h, _⟩ | ⟨_, h⟩
              · exfalso; omega
              · exact h
            refine C.skip ?_
            refine hK18 _ _ ?_
            refine C.seqK fun K22 hK22 => ?_
            refine C.region ?_
            refine O.mv ?_
            refine O.call Tryz.call32 (args3 rfl rfl rfl) (counts_spec (slv p39) _ (bk (slv p39)) 0 12 _ (h39s.keep e9) (by rw [List.length_append]; omega) (fun j hj => by have q1 := ((h39.keep e9)).bk_ge j hj; omega) (mx.keep (Ext.trans (Ext.new e_1 e8 (by intro i hi h; have := r0_1.bk_ge i h; omega)) e9)) hm3) ?_
            rintro v_51 w12 ⟨rfl, e12⟩
            have z12 := e12.size
            refine O.mv ?_
            refine O.yes rfl rfl ?_
            refine O.call Tryz.call29 (argsN) (wknown_spec _ (mx.keep (Ext.trans (Ext.trans (Ext.new e_1 e8 (by intro i hi h; have := r0_1.bk_ge i h; omega)) e9) e12))) ?_
            rintro v_53 w13 ⟨rfl, e13⟩
            have z13 := e13.size
            refine O.pickT rfl ?_
            refine O.asg ?_
            refine O.nil ?_
            refine hK22 _ _ ?_
            refine C.ret ?_
            refine Outs.one rfl rfl ?_
            exact ⟨rfl, (Ext.trans (Ext.trans (Ext.trans (Ext.new e_1 e8 (by intro i hi h; have := r0_1.bk_ge i h; omega)) e9) e12) e13)⟩

end Go.Proofs.YtnkcmaoaagnopaaGreatDoor
end
