/-
  The walks of the laws' helpers: carts counted, answers held against what they must be. Conditions: slices as they lie in memory.
-/
import Derived.Test.YtnkcmaoaagnopaaGreatDoorDecodeSpoiltM4
import Derived.Test.YtnkcmaoaagnopaaGreatDoorDecodeSpoiltM5
import Derived.Test.YtnkcmaoaagnopaaGreatDoorDecodeSpoiltM2
import Derived.Test.YtnkcmaoaagnopaaGreatDoorDecodeSpoiltM1
section
namespace Go.Proofs.YtnkcmaoaagnopaaGreatDoor
open Go.Pn Go.RowKit Go.Proofs
attribute [local irreducible] O C D

set_option maxHeartbeats 1000000 in
theorem isY_spec (v0 : Value) (l : List UInt8) (F : Nat → Prop) (vb1 vb2 vb3 : Value) (b : Cn.Cart) (Fb : Nat → Prop) (w : World) (hl : Sl byteE w F v0 l) (hL : l.length ≤ 1000000) (hF : ∀ j, F j → j < w.heap.size) (mx : Mx w) (hbv : Sl Dt.dotF.enc w Fb vb1 b.1.1) (hbc : Sl Dt.dotF.enc w Fb vb2 b.1.2) (hbi : Sl itemE w Fb vb3 b.2) (hFb : ∀ k, Fb k → k < w.heap.size) (hr : Cn.CartRes l b 0) :
    Ret Tryz.prog 35 #[v0, .agg #[vb1, vb2, vb3], .bool (true)] w (fun v w' => v = .bool true ∧ Le w w') := by
  have hll := hl.le
  have hgl := mx.lt
  refine enter (args := [v0, .agg #[vb1, vb2, vb3], .bool (true)]) (n := 30) Tryz.func35 rfl rfl (Nat.le_of_ble_eq_true rfl) ?_
  refine C.seqK fun K1 hK1 => ?_
  refine C.region ?_
  refine O.box (v := .agg #[vb1, vb2, vb3]) rfl (fun b4 w1 hb4 hz4 e1 => ?_)
  have z1 := e1.size
  have h4 := hz4.own
  have hl4 := h4.lt
  refine O.asg ?_
  refine O.nil ?_
  refine hK1 _ _ ?_
  refine C.seqK fun K2 hK2 => ?_
  refine C.region ?_
  refine O.mv ?_
  refine O.call Tryz.call34 (args1 rfl) (dcart_spec v0 l F _ (hl.keep e1) hL (fun j hj => by have q1 := hF j hj; omega) (mx.keep e1)) ?_
  rintro v_11 w2 ⟨vav11, vbv11, vcv11, cv11, env11, rfl, hxv11, hyv11, hzv11, hgv11, hpv11, e2⟩
  have z2 := e2.size
  replace hxv11 := hxv11.sl
  replace hyv11 := hyv11.sl
  replace hzv11 := hzv11.sl
  obtain ⟨p1, rfl⟩ := hxv11.slv
  obtain ⟨p2, rfl⟩ := hyv11.slv
  obtain ⟨p3, rfl⟩ := hzv11.slv
  obtain ⟨hcb, he0⟩ := hpv11.uniq hr
  refine O.mv ?_
  refine O.extract rfl rfl ?_
  refine O.extract rfl rfl ?_
  refine O.alloc Tryz.zeroValue28 (fun b7 w3 hb7 hz7 e3 => ?_)
  have z3 := e3.size
  have h7 := hz7.own
  have hl7 := h7.lt
  refine O.storeA (vs := [slv p1, slv p2, slv p3]) Tryz.sizeOf28 rfl rfl rfl (by simp [slv, Value.oneCell']) h7 (Nat.le_of_ble_eq_true rfl) (fun w4 hs4 e4 z4 => ?_)
  refine O.asg ?_
  refine O.nil ?_
  refine hK2 _ _ ?_
  refine C.seqK fun K3 hK3 => ?_
  refine C.seqK fun K4 hK4 => ?_
  refine C.region ?_
  refine O.mv ?_
  refine O.not rfl ?_
  refine O.cast (v' := .bool false) rfl ?_
  refine O.nil ?_
  refine hK4 _ _ ?_
  refine C.condF rfl ?_
  refine C.skip ?_
  refine hK3 _ _ ?_
  refine C.seqK fun K5 hK5 => ?_
  refine C.region ?_
  refine O.loadOA Tryz.isAgg28 Tryz.sizeOf28 rfl hs4 (Nat.le_of_ble_eq_true rfl) ?_
  refine O.loadOA Tryz.isAgg28 Tryz.sizeOf28 rfl (((h4.keep e2).keep e3).keepM e4 (by intro h; (try dsimp only at h); omega)) (Nat.le_of_ble_eq_true rfl) ?_
  refine O.call Tryz.call21 (args2 rfl rfl) (same_spec (slv p1) (slv p2) (slv p3) cv11 _ vb1 vb2 vb3 b Fb _ ((hxv11.keep e3).keepM e4 (by intro k hk h; first | (have q1 := hF k hk; (try dsimp only at h); omega) | (have q1 := hF2 k hk; (try dsimp only at h); omega) | (have q1 := hFb k hk; (try dsimp only at h); omega) | ((try dsimp only at hk); (try dsimp only at h); omega))) ((hyv11.keep e3).keepM e4 (by intro k hk h; first | (have q1 := hF k hk; (try dsimp only at h); omega) | (have q1 := hF2 k hk; (try dsimp only at h); omega) | (have q1 := hFb k hk; (try dsimp only at h); omega) | ((try dsimp only at hk); (try dsimp only at h); omega))) ((hzv11.keep e3).keepM e4 (by intro k hk h; first | (have q1 := hF k hk; (try dsimp only at h); omega) | (have q1 := hF2 k hk; (try dsimp only at h); omega) | (have q1 := hFb k hk; (try dsimp only at h); omega) | ((try dsimp only at hk); (try dsimp only at h); omega))) (hbv.keep (Ext.new (Ext.trans (Ext.trans e1 e2) e3) e4 (by rintro i hi rfl; omega))) (hbc.keep (Ext.new (Ext.trans (Ext.trans e1 e2) e3) e4 (by rintro i hi rfl; omega))) (hbi.keep (Ext.new (Ext.trans (Ext.trans e1 e2) e3) e4 (by rintro i hi rfl; omega))) (fun j hj => by have q1 := hj.2; omega) (fun j hj => by have q1 := hFb j hj; omega)) ?_
  rintro v_25 w5 ⟨rfl, e5⟩
  have z5 := e5.size
  refine O.cast (v' := .bool true) (congrArg Value.bool (by exact decide_eq_true hcb)) ?_
  refine O.mv ?_
  refine O.yes rfl rfl ?_
  refine O.mv ?_
  refine O.yes rfl rfl ?_
  refine O.eqlI rfl rfl ?_
  refine O.cast (v' := .bool true) (congrArg Value.bool (by exact decide_eq_true he0)) ?_
  refine O.pickT rfl ?_
  refine O.asg ?_
  refine O.nil ?_
  refine hK5 _ _ ?_
  refine C.ret ?_
  refine Outs.one rfl rfl ?_
  exact ⟨rfl, (Ext.trans (Ext.new (Ext.trans (Ext.trans e1 e2) e3) e4 (by rintro i hi rfl; omega)) e5)⟩

set_option maxHeartbeats 1000000 in
theorem isN_spec (v0 : Value) (l : List UInt8) (F : Nat → Prop) (vb1 vb2 vb3 : Value) (b : Cn.Cart) (Fb : Nat → Prop) (w : World) (hl : Sl byteE w F v0 l) (hL : l.length ≤ 1000000) (hF : ∀ j, F j → j < w.heap.size) (mx : Mx w) (hbv : Sl Dt.dotF.enc w Fb vb1 b.1.1) (hbc : Sl Dt.dotF.enc w Fb vb2 b.1.2) (hbi : Sl itemE w Fb vb3 b.2) (hFb : ∀ k, Fb k → k < w.heap.size) (hr : Cn.CartRes l Cn.nil0 12) :
    Ret Tryz.prog 35 #[v0, .agg #[vb1, vb2, vb3], .bool (false)] w (fun v w' => v = .bool true ∧ Le w w') := by
  have hll := hl.le
  have hgl := mx.lt
  have _hb := hFb
  refine enter (args := [v0, .agg #[vb1, vb2, vb3], .bool (false)]) (n := 30) Tryz.func35 rfl rfl (Nat.le_of_ble_eq_true rfl) ?_
  refine C.seqK fun K1 hK1 => ?_
  refine C.region ?_
  refine O.box (v := .agg #[vb1, vb2, vb3]) rfl (fun b4 w1 hb4 hz4 e1 => ?_)
  have z1 := e1.size
  have h4 := hz4.own
  have hl4 := h4.lt
  refine O.asg ?_
  refine O.nil ?_
  refine hK1 _ _ ?_
  refine C.seqK fun K2 hK2 => ?_
  refine C.region ?_
  refine O.mv ?_
  refine O.call Tryz.call34 (args1 rfl) (dcart_spec v0 l F _ (hl.keep e1) hL (fun j hj => by have q1 := hF j hj; omega) (mx.keep e1)) ?_
  rintro v_11 w2 ⟨vav11, vbv11, vcv11, cv11, env11, rfl, hxv11, hyv11, hzv11, hgv11, hpv11, e2⟩
  have z2 := e2.size
  replace hxv11 := hxv11.sl
  replace hyv11 := hyv11.sl
  replace hzv11 := hzv11.sl
  obtain ⟨p1, rfl⟩ := hxv11.slv
  obtain ⟨p2, rfl⟩ := hyv11.slv
  obtain ⟨p3, rfl⟩ := hzv11.slv
  obtain ⟨hcb, he0⟩ := hpv11.uniq hr
  refine O.mv ?_
  refine O.extract rfl rfl ?_
  refine O.extract rfl rfl ?_
  refine O.alloc Tryz.zeroValue28 (fun b7 w3 hb7 hz7 e3 => ?_)
  have z3 := e3.size
  have h7 := hz7.own
  have hl7 := h7.lt
  refine O.storeA (vs := [slv p1, slv p2, slv p3]) Tryz.sizeOf28 rfl rfl rfl (by simp [slv, Value.oneCell']) h7 (Nat.le_of_ble_eq_true rfl) (fun w4 hs4 e4 z4 => ?_)
  refine O.asg ?_
  refine O.nil ?_
  refine hK2 _ _ ?_
  refine C.seqK fun K3 hK3 => ?_
  refine C.seqK fun K4 hK4 => ?_
  refine C.region ?_
  refine O.mv ?_
  refine O.not rfl ?_
  refine O.cast (v' := .bool true) rfl ?_
  refine O.nil ?_
  refine hK4 _ _ ?_
  refine C.condT rfl ?_
  refine C.seqK fun K5 hK5 => ?_
  refine C.region ?_
  refine O.loadOA Tryz.isAgg28 Tryz.sizeOf28 rfl hs4 (Nat.le_of_ble_eq_true rfl) ?_
  refine O.build (cells := #[.slice none 0 0, .slice none 0 0, .slice none 0 0]) rfl (by kernel_rfl) ?_
  refine O.call Tryz.call21 (args2 rfl rfl) (same_spec (slv p1) (slv p2) (slv p3) cv11 _ (.slice none 0 0) (.slice none 0 0) (.slice none 0 0) Cn.nil0 (fun _ => False) _ ((hxv11.keep e3).keepM e4 (by intro k hk h; first | (have q1 := hF k hk; (try dsimp only at h); omega) | (have q1 := hF2 k hk; (try dsimp only at h); omega) | (have q1 := hFb k hk; (try dsimp only at h); omega) | ((try dsimp only at hk); (try dsimp only at h); omega))) ((hyv11.keep e3).keepM e4 (by intro k hk h; first | (have q1 := hF k hk; (try dsimp only at h); omega) | (have q1 := hF2 k hk; (try dsimp only at h); omega) | (have q1 := hFb k hk; (try dsimp only at h); omega) | ((try dsimp only at hk); (try dsimp only at h); omega))) ((hzv11.keep e3).keepM e4 (by intro k hk h; first | (have q1 := hF k hk; (try dsimp only at h); omega) | (have q1 := hF2 k hk; (try dsimp only at h); omega) | (have q1 := hFb k hk; (try dsimp only at h); omega) | ((try dsimp only at hk); (try dsimp only at h); omega))) (Sl.nil _ _ _) (Sl.nil _ _ _) (Sl.nil _ _ _) (fun j hj => by have q1 := hj.2; omega) (fun _ h => h.elim)) ?_
  rintro v_18 w5 ⟨rfl, e5⟩
  have z5 := e5.size
  refine O.cast (v' := .bool true) (congrArg Value.bool (by exact decide_eq_true hcb)) ?_
  refine O.mv ?_
  refine O.yes rfl rfl ?_
  refine O.mv ?_
  refine O.yes rfl rfl ?_
  refine O.eqlI rfl rfl ?_
  refine O.cast (v' := .bool true) (congrArg Value.bool (by exact decide_eq_true he0)) ?_
  refine O.pickT rfl ?_
  refine O.asg ?_
  refine O.nil ?_
  refine hK5 _ _ ?_
  refine C.ret ?_
  refine Outs.one rfl rfl ?_
  exact ⟨rfl, (Ext.trans (Ext.new (Ext.trans (Ext.trans e1 e2) e3) e4 (by rintro i hi rfl; omega)) e5)⟩

set_option maxHeartbeats 1000000 in
theorem begins_spec (v0 : Value) (l : List UInt8) (F : Nat → Prop) (vb1 vb2 vb3 : Value) (b : Cn.Cart) (Fb : Nat → Prop) (k : Nat) (e : Int) (w : World) (hl : Sl byteE w F v0 l) (hL : l.length ≤ 1000000) (hF : ∀ j, F j → j < w.heap.size) (mx : Mx w) (hbv : Sl Dt.dotF.enc w Fb vb1 b.1.1) (hbc : Sl Dt.dotF.enc w Fb vb2 b.1.2) (hbi : Sl itemE w Fb vb3 b.2) (hFb : ∀ k, Fb k → k < w.heap.size) (hr : Cn.Pref l b k e) :
    Ret Tryz.prog 36 #[v0, .agg #[vb1, vb2, vb3], .int .i64 ((k : Int)), .int .i64 (e)] w (fun v w' => v = .bool true ∧ Le w w') := by
  have hll := hl.le
  have hgl := mx.lt
  refine enter (args := [v0, .agg #[vb1, vb2, vb3], .int .i64 ((k : Int)), .int .i64 (e)]) (n := 31) Tryz.func36 rfl rfl (Nat.le_of_ble_eq_true rfl) ?_
  refine C.seqK fun K1 hK1 => ?_
  refine C.region ?_
  refine O.box (v := .agg #[vb1, vb2, vb3]) rfl (fun b5 w1 hb5 hz5 e1 => ?_)
  have z1 := e1.size
  have h5 := hz5.own
  have hl5 := h5.lt
  refine O.asg ?_
  refine O.nil ?_
  refine hK1 _ _ ?_
  refine C.seqK fun K2 hK2 => ?_
  refine C.region ?_
  refine O.mv ?_
  refine O.call Tryz.call58 (args1 rfl) (prefix_spec v0 l F _ (hl.keep e1) hL (fun j hj => by have q1 := hF j hj; omega) (mx.keep e1)) ?_
  rintro v_14 w2 ⟨vav14, vbv14, vcv14, cv14, knv14, env14, rfl, hxv14, hyv14, hzv14, hgv14, hpv14, e2⟩
  have z2 := e2.size
  replace hxv14 := hxv14.sl
  replace hyv14 := hyv14.sl
  replace hzv14 := hzv14.sl
  obtain ⟨p1, rfl⟩ := hxv14.slv
  obtain ⟨p2, rfl⟩ := hyv14.slv
  obtain ⟨p3, rfl⟩ := hzv14.slv
  obtain ⟨hcb, hkb, he0⟩ := hpv14.uniq hr
  refine O.mv ?_
  refine O.extract rfl rfl ?_
  refine O.extract rfl rfl ?_
  refine O.extract rfl rfl ?_
  refine O.alloc Tryz.zeroValue28 (fun b9 w3 hb9 hz9 e3 => ?_)
  have z3 := e3.size
  have h9 := hz9.own
  have hl9 := h9.lt
  refine O.storeA (vs := [slv p1, slv p2, slv p3]) Tryz.sizeOf28 rfl rfl rfl (by simp [slv, Value.oneCell']) h9 (Nat.le_of_ble_eq_true rfl) (fun w4 hs4 e4 z4 => ?_)
  refine O.asg ?_
  refine O.asg ?_
  refine O.nil ?_
  refine hK2 _ _ ?_
  refine C.seqK fun K3 hK3 => ?_
  refine C.region ?_
  refine O.loadOA Tryz.isAgg28 Tryz.sizeOf28 rfl hs4 (Nat.le_of_ble_eq_true rfl) ?_
  refine O.loadOA Tryz.isAgg28 Tryz.sizeOf28 rfl (((h5.keep e2).keep e3).keepM e4 (by intro h; (try dsimp only at h); omega)) (Nat.le_of_ble_eq_true rfl) ?_
  refine O.call Tryz.call21 (args2 rfl rfl) (same_spec (slv p1) (slv p2) (slv p3) cv14 _ vb1 vb2 vb3 b Fb _ ((hxv14.keep e3).keepM e4 (by intro k hk h; first | (have q1 := hF k hk; (try dsimp only at h); omega) | (have q1 := hF2 k hk; (try dsimp only at h); omega) | (have q1 := hFb k hk; (try dsimp only at h); omega) | ((try dsimp only at hk); (try dsimp only at h); omega))) ((hyv14.keep e3).keepM e4 (by intro k hk h; first | (have q1 := hF k hk; (try dsimp only at h); omega) | (have q1 := hF2 k hk; (try dsimp only at h); omega) | (have q1 := hFb k hk; (try dsimp only at h); omega) | ((try dsimp only at hk); (try dsimp only at h); omega))) ((hzv14.keep e3).keepM e4 (by intro k hk h; first | (have q1 := hF k hk; (try dsimp only at h); omega) | (have q1 := hF2 k hk; (try dsimp only at h); omega) | (have q1 := hFb k hk; (try dsimp only at h); omega) | ((try dsimp only at hk); (try dsimp only at h); omega))) (hbv.keep (Ext.new (Ext.trans (Ext.trans e1 e2) e3) e4 (by rintro i hi rfl; omega))) (hbc.keep (Ext.new (Ext.trans (Ext.trans e1 e2) e3) e4 (by rintro i hi rfl; omega))) (hbi.keep (Ext.new (Ext.trans (Ext.trans e1 e2) e3) e4 (by rintro i hi rfl; omega))) (fun j hj => by have q1 := hj.2; omega) (fun j hj => by have q1 := hFb j hj; omega)) ?_
  rintro v_20 w5 ⟨rfl, e5⟩
  have z5 := e5.size
  refine O.cast (v' := .bool true) (congrArg Value.bool (by exact decide_eq_true hcb)) ?_
  refine O.mv ?_
  refine O.yes rfl rfl ?_
  refine O.mv ?_
  refine O.yes rfl rfl ?_
  refine O.mv ?_
  refine O.yes rfl rfl ?_
  refine O.eqlI rfl rfl ?_
  refine O.cast (v' := .bool true) (congrArg Value.bool (by exact decide_eq_true (by rw [hkb]))) ?_
  refine O.pickT rfl ?_
  refine O.mv ?_
  refine O.yes rfl rfl ?_
  refine O.mv ?_
  refine O.yes rfl rfl ?_
  refine O.mv ?_
  refine O.yes rfl rfl ?_
  refine O.eqlI rfl rfl ?_
  refine O.cast (v' := .bool true) (congrArg Value.bool (by exact decide_eq_true he0)) ?_
  refine O.pickT rfl ?_
  refine O.asg ?_
  refine O.nil ?_
  refine hK3 _ _ ?_
  refine C.ret ?_
  refine Outs.one rfl rfl ?_
  exact ⟨rfl, (Ext.trans (Ext.new (Ext.trans (Ext.trans e1 e2) e3) e4 (by rintro i hi rfl; omega)) e5)⟩

set_option maxHeartbeats 1000000 in
theorem wseen_spec (v0 : Value) (l : List UInt8) (F : Nat → Prop) (vb1 vb2 : Value) (x : Cn.Ctx) (Fb : Nat → Prop) (e : Int) (w : World) (hl : Sl byteE w F v0 l) (hL : l.length ≤ 1000000) (hF : ∀ j, F j → j < w.heap.size) (mx : Mx w) (hbv : Sl Dt.dotF.enc w Fb vb1 x.1) (hbc : Sl Dt.dotF.enc w Fb vb2 x.2) (hFb : ∀ k, Fb k → k < w.heap.size) (hr : Cn.CtxRes l x e) :
    Ret Tryz.prog 53 #[v0, .agg #[vb1, vb2], .int .i64 (e)] w (fun v w' => v = .bool true ∧ Le w w') := by
  have hll := hl.le
  have hgl := mx.lt
  obtain ⟨r1, hr1⟩ := hbv.slv
  obtain ⟨r2, hr2⟩ := hbc.slv
  refine enter (args := [v0, .agg #[vb1, vb2], .int .i64 (e)]) (n := 24) Tryz.func53 rfl rfl (Nat.le_of_ble_eq_true rfl) ?_
  refine C.seqK fun K1 hK1 => ?_
  refine C.region ?_
  refine O.box (v := .agg #[vb1, vb2]) rfl (fun b4 w1 hb4 hz4 e1 => ?_)
  have z1 := e1.size
  have h4 := hz4.own
  have hl4 := h4.lt
  refine O.asg ?_
  refine O.nil ?_
  refine hK1 _ _ ?_
  refine C.seqK fun K2 hK2 => ?_
  refine C.region ?_
  refine O.mv ?_
  refine O.call Tryz.call77 (args1 rfl) (dcontext_spec v0 l F _ (hl.keep e1) hL (fun j hj => by have q1 := hF j hj; omega) (mx.keep e1)) ?_
  rintro v_11 w2 ⟨vav11, vbv11, xv11, env11, rfl, hxv11, hyv11, hnv11, hpv11, e2⟩
  have z2 := e2.size
  obtain ⟨p1, rfl⟩ := hxv11.slv
  obtain ⟨p2, rfl⟩ := hyv11.slv
  obtain ⟨hcb, he0⟩ := hpv11.uniq hr
  refine O.mv ?_
  refine O.extract rfl rfl ?_
  refine O.extract rfl rfl ?_
  refine O.alloc Tryz.zeroValue25 (fun b7 w3 hb7 hz7 e3 => ?_)
  have z3 := e3.size
  have h7 := hz7.own
  have hl7 := h7.lt
  refine O.storeA (vs := [slv p1, slv p2]) Tryz.sizeOf25 rfl rfl rfl (by simp [slv, Value.oneCell']) h7 (Nat.le_of_ble_eq_true rfl) (fun w4 hs4 e4 z4 => ?_)
  refine O.asg ?_
  refine O.nil ?_
  refine hK2 _ _ ?_
  refine C.seqK fun K3 hK3 => ?_
  refine C.region ?_
  refine O.loadOA Tryz.isAgg25 Tryz.sizeOf25 rfl hs4 (Nat.le_of_ble_eq_true rfl) ?_
  refine O.build (cells := #[slv p1, slv p2, .slice none 0 0]) rfl (by kernel_rfl) ?_
  refine O.loadOA Tryz.isAgg25 Tryz.sizeOf25 rfl (((h4.keep e2).keep e3).keepM e4 (by intro h; (try dsimp only at h); omega)) (Nat.le_of_ble_eq_true rfl) ?_
  refine O.cast (v' := .agg #[slv r1, slv r2]) (by rw [← hr1, ← hr2]; rfl) ?_
  refine O.build (cells := #[slv r1, slv r2, .slice none 0 0]) rfl (by kernel_rfl) ?_
  refine O.call Tryz.call21 (args2 rfl rfl) (same_spec (slv p1) (slv p2) (.slice none 0 0) (xv11, []) _ (slv r1) (slv r2) (.slice none 0 0) (x, []) Fb _ ((hxv11.keep e3).keepM e4 (by intro k hk h; first | (have q1 := hF k hk; (try dsimp only at h); omega) | (have q1 := hF2 k hk; (try dsimp only at h); omega) | (have q1 := hFb k hk; (try dsimp only at h); omega) | ((try dsimp only at hk); (try dsimp only at h); omega))) ((hyv11.keep e3).keepM e4 (by intro k hk h; first | (have q1 := hF k hk; (try dsimp only at h); omega) | (have q1 := hF2 k hk; (try dsimp only at h); omega) | (have q1 := hFb k hk; (try dsimp only at h); omega) | ((try dsimp only at hk); (try dsimp only at h); omega))) (Sl.nil _ _ _) (hr1 ▸ (hbv.keep (Ext.new (Ext.trans (Ext.trans e1 e2) e3) e4 (by rintro i hi rfl; omega)))) (hr2 ▸ (hbc.keep (Ext.new (Ext.trans (Ext.trans e1 e2) e3) e4 (by rintro i hi rfl; omega)))) (Sl.nil _ _ _) (fun j hj => by have q1 := hj.2; omega) (fun j hj => by have q1 := hFb j hj; omega)) ?_
  rintro v_18 w5 ⟨rfl, e5⟩
  have z5 := e5.size
  refine O.cast (v' := .bool true) (congrArg Value.bool (by exact decide_eq_true (by rw [hcb]))) ?_
  refine O.mv ?_
  refine O.yes rfl rfl ?_
  refine O.mv ?_
  refine O.yes rfl rfl ?_
  refine O.mv ?_
  refine O.yes rfl rfl ?_
  refine O.eqlI rfl rfl ?_
  refine O.cast (v' := .bool true) (congrArg Value.bool (by exact decide_eq_true he0)) ?_
  refine O.pickT rfl ?_
  refine O.asg ?_
  refine O.nil ?_
  refine hK3 _ _ ?_
  refine C.ret ?_
  refine Outs.one rfl rfl ?_
  exact ⟨rfl, (Ext.trans (Ext.new (Ext.trans (Ext.trans e1 e2) e3) e4 (by rintro i hi rfl; omega)) e5)⟩

set_option maxHeartbeats 2000000 in
theorem dcount_spec (v0 : Value) (l : List UInt8) (F : Nat → Prop) (w : World) (hl : Sl byteE w F v0 l) (hL : l.length ≤ 1000000) (hF : ∀ j, F j → j < w.heap.size) (mx : Mx w) :
    Ret Tryz.prog 57 #[v0] w (fun v w' => ∃ (n : Nat) (e : Int), v = .tuple #[.int .i64 (n : Int), .int .i64 e] ∧ Cn.CountRes l n e ∧ Le w w') := by
  have hll := hl.le
  have hgl := mx.lt
  refine enter (args := [v0]) (n := 33) Tryz.func57 rfl rfl (Nat.le_of_ble_eq_true rfl) ?_
  refine C.seqK fun K1 hK1 => ?_
  refine C.region ?_
  refine O.asg ?_
  refine O.asg ?_
  refine O.nil ?_
  refine hK1 _ _ ?_
  refine C.seqK fun K2 hK2 => ?_
  refine C.region ?_
  refine O.asg ?_
  refine O.nil ?_
  refine hK2 _ _ ?_
  refine C.seqK fun K3 hK3 => ?_
  refine C.block fun K4 hK4 => ?_
  refine C.loop0 (σ := List Cn.Cart × Value × Nat) (fun f0 w0 ⟨cs, pv, k⟩ f wz => f 0 = pv ∧ f 4 = .int .i64 ((cs.length : Int)) ∧ Le w wz ∧ Sl byteE wz F pv (l.drop k) ∧ k ≤ l.length ∧ Cn.manyQ Cn.val cs ∧ Cn.Seg (cs.flatMap Cn.bytes) l 0 k) (fun ⟨cs, pv, k⟩ => l.length - k) ([], v0, 0) ?_ ?_
  ·
    refine ⟨rfl, rfl, (Le.refl _), hl, ?_⟩
    exact ⟨Nat.zero_le _, Cn.manyQ_nil, Cn.Seg.nil (Nat.zero_le _)⟩
  ·
    rintro ⟨cs, pv, k⟩ f_1 w1 ⟨s0_1, s4_1, e_1, r0_1, ⟨hk, hQ, hS⟩⟩
    have z_1 := e_1.size
    have hcl := Cn.len_flat (f := Cn.bytes) (fun c => by have := Cn.bytes_len c; omega) cs
    have hcl2 := hS.2.1
    have hcl3 := hS.2.2
    refine C.seqK fun K5 hK5 => ?_
    refine C.seqK fun K6 hK6 => ?_
    refine C.region ?_
    refine O.mv ?_
    refine O.len Tryz.underlying32 s0_1 r0_1 ?_
    refine O.gtrI rfl rfl ?_
    refine O.nil ?_
    refine hK6 _ _ ?_
    refine C.condD rfl (fun c12 => ?_) (fun c12 => ?_)
    ·
      have hk2 : k < l.length := by rw [List.length_drop] at c12; omega
      refine C.skip ?_
      refine hK5 _ _ ?_
      refine C.block fun K7 hK7 => ?_
      refine C.seqK fun K8 hK8 => ?_
      refine C.region ?_
      refine O.mv ?_
      refine O.call Tryz.call58 (args1 s0_1) (prefix_spec pv (l.drop k) F _ r0_1 (by rw [List.length_drop]; omega) (fun j hj => by have q1 := hF j hj; omega) (mx.keep e_1)) ?_
      rintro v_15 w2 ⟨vav15, vbv15, vcv15, cv15, knv15, env15, rfl, hxv15, hyv15, hzv15, hgv15, hpv15, e2⟩
      have z2 := e2.size
      replace hxv15 := hxv15.sl
      replace hyv15 := hyv15.sl
      replace hzv15 := hzv15.sl
      obtain ⟨p1, rfl⟩ := hxv15.slv
      obtain ⟨p2, rfl⟩ := hyv15.slv
      obtain ⟨p3, rfl⟩ := hzv15.slv
      obtain ⟨hg1, hg2, hg3, hg4⟩ := hgv15
      refine O.mv ?_
      refine O.extract rfl rfl ?_
      refine O.extract rfl rfl ?_
      refine O.extract rfl rfl ?_
      refine O.alloc Tryz.zeroValue28 (fun b5 w3 hb5 hz5 e3 => ?_)
      have z3 := e3.size
      have h5 := hz5.own
      have hl5 := h5.lt
      refine O.storeA (vs := [slv p1, slv p2, slv p3]) Tryz.sizeOf28 rfl rfl rfl (by simp [slv, Value.oneCell']) h5 (Nat.le_of_ble_eq_true rfl) (fun w4 hs4 e4 z4 => ?_)
      refine O.asg ?_
      refine O.asg ?_
      refine O.nil ?_
      refine hK8 _ _ ?_
      refine C.seqK fun K9 hK9 => ?_
      refine C.seqK fun K10 hK10 => ?_
      refine C.region ?_
      refine O.mv ?_
      refine O.neqI rfl rfl ?_
      refine O.nil ?_
      refine hK10 _ _ ?_
      refine C.condD rfl (fun c20 => ?_) (fun c20 => ?_)
      ·
        refine C.seqK fun K11 hK11 => ?_
        refine C.region ?_
        refine O.mv ?_
        refine O.asg ?_
        refine O.asg ?_
        refine O.nil ?_
        refine hK11 _ _ ?_
        refine C.ret ?_
        refine Outs.two rfl rfl rfl ?_
        first
        | exact ⟨cs.length, 0, rfl, Cn.count_yes hS hQ (by rw [List.length_drop] at c12; omega), (Ext.new (Ext.trans (Ext.trans e_1 e2) e3) e4 (by rintro i hi rfl; omega))⟩
        | (rcases hpv15 with ⟨q1, _⟩ | ⟨q1, q2, q3, q4⟩
           · exact absurd q1 c20
           · exact ⟨0, env15, rfl, by rw [q1]; exact Cn.count_no hS hQ hk2 q4, (Ext.new (Ext.trans (Ext.trans e_1 e2) e3) e4 (by rintro i hi rfl; omega))⟩)
      ·
        obtain ⟨hva, hsg⟩ : Cn.valid cv15 = true ∧ Cn.Seg (Cn.bytes cv15) (l.drop k) 0 knv15 := by
          rcases hpv15 with ⟨_, q1, q2⟩ | ⟨q1, _⟩
          · exact ⟨q1, q2⟩
          · exfalso; omega
        have hst := Cn.count_step hS hsg
        have hsg2 := hsg.2.2
        refine C.skip ?_
        refine hK9 _ _ ?_
        refine C.seqK fun K12 hK12 => ?_
        refine C.region ?_
        refine O.loadOA Tryz.isAgg28 Tryz.sizeOf28 rfl hs4 (Nat.le_of_ble_eq_true rfl) ?_
        refine O.call Tryz.call24 (args1 rfl) (size_spec (slv p1) (slv p2) (slv p3) cv15 _ _ ((hxv15.keep e3).keepM e4 (by intro k hk h; first | (have q1 := hF k hk; (try dsimp only at h); omega) | (have q1 := hF2 k hk; (try dsimp only at h); omega) | (have q1 := hFb k hk; (try dsimp only at h); omega) | ((try dsimp only at hk); (try dsimp only at h); omega))) ((hyv15.keep e3).keepM e4 (by intro k hk h; first | (have q1 := hF k hk; (try dsimp only at h); omega) | (have q1 := hF2 k hk; (try dsimp only at h); omega) | (have q1 := hFb k hk; (try dsimp only at h); omega) | ((try dsimp only at hk); (try dsimp only at h); omega))) ((hzv15.keep e3).keepM e4 (by intro k hk h; first | (have q1 := hF k hk; (try dsimp only at h); omega) | (have q1 := hF2 k hk; (try dsimp only at h); omega) | (have q1 := hFb k hk; (try dsimp only at h); omega) | ((try dsimp only at hk); (try dsimp only at h); omega))) (fun j hj => by have q1 := hj.2; omega) hg3 hg4 hg1 hg2 (mx.keep (Ext.new (Ext.trans (Ext.trans e_1 e2) e3) e4 (by rintro i hi rfl; omega)))) ?_
        rintro v_24 w5 ⟨rfl, e5⟩
        have z5 := e5.size
        refine O.mv ?_
        refine O.extract rfl rfl ?_
        refine O.cast (v' := .int .i64 (knv15 : Int)) (congrArg (Value.int .i64) (by rw [hva, if_pos rfl, hsg.2.1, Nat.zero_add])) ?_
        refine O.extract rfl rfl ?_
        refine O.asg ?_
        refine O.asg ?_
        refine O.nil ?_
        refine hK12 _ _ ?_
        refine C.draw (by kernel_rfl) fun w6 e6 => ?_
        have z6 := e6.size
        refine D.take (i := 0) rfl rfl rfl rfl (by kernel_rfl) (Le.refl _) ⟨pure _, rfl⟩ (fun w_ hw_ N_ hN => (O.mv (O.nil hN))) ?_
        refine D.take (i := 1) rfl rfl rfl rfl (by kernel_rfl) (Le.refl _) ⟨_, rfl⟩ (fun w_ hw_ N_ hN => (O.addI s4_1 rfl (by unfold InI; omega) (O.nil hN))) ?_
        refine D.take (i := 2) rfl rfl rfl rfl (by kernel_rfl) (Le.refl _) ⟨pure _, rfl⟩ (fun w_ hw_ N_ hN => (O.mv (O.nil hN))) ?_
        refine D.take (i := 3) rfl rfl rfl rfl (by kernel_rfl) (Le.refl _) ⟨pure _, rfl⟩ (fun w_ hw_ N_ hN => (O.mv (O.nil hN))) ?_
        have hb31 := Sl.sub (P := Tryz.prog) (knv15) ((l.drop k).length) Tryz.underlying32 Tryz.sizeOf5 (by rfl) (((((r0_1.keep e2).keep e3).keepM e4 (by intro k hk h; first | (have q1 := hF k hk; (try dsimp only at h); omega) | (have q1 := hF2 k hk; (try dsimp only at h); omega) | (have q1 := hFb k hk; (try dsimp only at h); omega) | ((try dsimp only at hk); (try dsimp only at h); omega))).keep e5).keep e6) (by omega) (Nat.le_refl _)
        obtain ⟨v31, hs31, hr31⟩ := hb31
        refine D.take (i := 4) rfl rfl rfl rfl (by kernel_rfl) (Le.refl _) ⟨_, rfl⟩ (fun w_ hw_ N_ hN => (O.subR s0_1 hr31 (.inr ⟨_, _, rfl, rfl⟩) (.inl ⟨rfl, rfl⟩) (O.nil hN))) ?_
        refine D.take (i := 5) rfl rfl rfl rfl (by kernel_rfl) (Le.refl _) ⟨pure _, rfl⟩ (fun w_ hw_ N_ hN => (O.asg (O.nil hN))) ?_
        refine D.take (i := 6) rfl rfl rfl rfl (by kernel_rfl) (Le.refl _) ⟨pure _, rfl⟩ (fun w_ hw_ N_ hN => (O.asg (O.nil hN))) ?_
        refine D.done (by kernel_rfl) ?_
        refine hK7 _ _ ?_
        refine ⟨(cs ++ [cv15], v31, k + knv15), ⟨rfl, (Eq.trans rfl (congrArg (Value.int .i64) (by rw [List.length_append]; simp))), (Ext.trans (Ext.trans (Ext.new (Ext.trans (Ext.trans e_1 e2) e3) e4 (by rintro i hi rfl; omega)) e5) e6), (by have q := hs31; rw [List.take_length, List.drop_drop] at q; exact q), ?_⟩, by show l.length - (k + knv15) < l.length - k; have := hst.2; omega⟩
        exact ⟨hst.1.2.2, Cn.manyQ_snoc hQ hva, hst.1⟩
    ·
      refine C.exit ?_
      refine hK4 _ _ ?_
      refine hK3 _ _ ?_
      refine C.seqK fun K13 hK13 => ?_
      refine C.region ?_
      refine O.mv ?_
      refine O.asg ?_
      refine O.asg ?_
      refine O.nil ?_
      refine hK13 _ _ ?_
      refine C.ret ?_
      refine Outs.two rfl s4_1 rfl ?_
      first
      | exact ⟨cs.length, 0, rfl, Cn.count_yes hS hQ (by rw [List.length_drop] at c12; omega), e_1⟩
      | (rcases hpv15 with ⟨q1, _⟩ | ⟨q1, q2, q3, q4⟩
         · exact absurd q1 c20
         · exact ⟨0, env15, rfl, by rw [q1]; exact Cn.count_no hS hQ hk2 q4, e_1⟩)

theorem counts_spec (v0 : Value) (l : List UInt8) (F : Nat → Prop) (n : Nat) (e : Int) (w : World) (hl : Sl byteE w F v0 l) (hL : l.length ≤ 1000000) (hF : ∀ j, F j → j < w.heap.size) (mx : Mx w) (hr : Cn.CountRes l n e) :
    Ret Tryz.prog 32 #[v0, .int .i64 ((n : Int)), .int .i64 (e)] w (fun v w' => v = .bool true ∧ Le w w') := by
  refine enter (args := [v0, .int .i64 ((n : Int)), .int .i64 (e)]) (n := 22) Tryz.func32 rfl rfl (Nat.le_of_ble_eq_true rfl) ?_
  refine C.seqK fun K1 hK1 => ?_
  refine C.region ?_
  refine O.asg ?_
  refine O.nil ?_
  refine hK1 _ _ ?_
  refine C.seqK fun K2 hK2 => ?_
  refine C.region ?_
  refine O.mv ?_
  refine O.call Tryz.call57 (args1 rfl) (dcount_spec v0 l F _ hl hL hF mx) ?_
  rintro v_11 w1 ⟨nv11, env11, rfl, hpv11, e1⟩
  have z1 := e1.size
  obtain ⟨hkb, he0⟩ := hpv11.uniq hr
  refine O.mv ?_
  refine O.extract rfl rfl ?_
  refine O.extract rfl rfl ?_
  refine O.asg ?_
  refine O.asg ?_
  refine O.nil ?_
  refine hK2 _ _ ?_
  refine C.seqK fun K3 hK3 => ?_
  refine C.region ?_
  refine O.mv ?_
  refine O.mv ?_
  refine O.eqlI rfl rfl ?_
  refine O.cast (v' := .bool true) (congrArg Value.bool (by exact decide_eq_true (by rw [hkb]))) ?_
  refine O.mv ?_
  refine O.yes rfl rfl ?_
  refine O.mv ?_
  refine O.yes rfl rfl ?_
  refine O.mv ?_
  refine O.yes rfl rfl ?_
  refine O.eqlI rfl rfl ?_
  refine O.cast (v' := .bool true) (congrArg Value.bool (by exact decide_eq_true he0)) ?_
  refine O.pickT rfl ?_
  refine O.asg ?_
  refine O.nil ?_
  refine hK3 _ _ ?_
  refine C.ret ?_
  refine Outs.one rfl rfl ?_
  exact ⟨rfl, e1⟩

end Go.Proofs.YtnkcmaoaagnopaaGreatDoor
end
section
/-
  The walk of the chapter's examples. Conditions: slices as they lie in memory.
-/
namespace Go.Proofs.YtnkcmaoaagnopaaGreatDoor
open Go.Pn Go.RowKit Go.Proofs
attribute [local irreducible] O C D

set_option maxHeartbeats 16000000 in
theorem wknown_spec (w : World) (mx : Mx w) :
    Ret Tryz.prog 29 #[] w (fun v w' => v = .bool true ∧ Le w w') := by
  obtain ⟨ie51, ti51, ts51, tb51, tz51⟩ := inf51
  obtain ⟨ie53, ti53, ts53, tb53, tz53⟩ := inf53
  obtain ⟨ie56, ti56, ts56, tb56, tz56⟩ := inf56
  obtain ⟨ie5, ti5, ts5, tb5, tz5⟩ := inf5
  obtain ⟨ie32, ti32, ts32, tb32, tz32⟩ := inf32
  refine enter (args := []) (n := 70) Tryz.func29 rfl rfl (Nat.le_of_ble_eq_true rfl) ?_
  refine C.seqK fun K1 hK1 => ?_
  refine C.region ?_
  refine O.asg ?_
  refine O.nil ?_
  refine hK1 _ _ ?_
  refine C.seqK fun K2 hK2 => ?_
  refine C.region ?_
  refine O.build (cells := #[.int .i64 2, .int .i64 3]) rfl (by kernel_rfl) ?_
  refine O.litG (G := Dt.dotF) [(2, 3)] Tryz.underlying23 ti51 ts51 tz51 rfl (by decide) (by decide) rfl (fun b5 w1 hb5 hz5 e1 => ?_)
  have z1 := e1.size
  have h5 := hz5.own
  have hq5 := Sl.litG (n := 1) h5 rfl (by unfold maxLen; omega)
  have hl5 := h5.lt
  refine O.build (cells := #[.int .i64 5, .int .i64 9]) rfl (by kernel_rfl) ?_
  refine O.litG (G := Dt.dotF) [(5, 9)] Tryz.underlying22 ti51 ts51 tz51 rfl (by decide) (by decide) rfl (fun b7 w2 hb7 hz7 e2 => ?_)
  have z2 := e2.size
  have h7 := hz7.own
  have hq7 := Sl.litG (n := 1) h7 rfl (by unfold maxLen; omega)
  have hl7 := h7.lt
  refine O.build (cells := #[.slice (some ⟨b5, 0, none⟩) 1 1, .slice (some ⟨b7, 0, none⟩) 1 1]) rfl (by kernel_rfl) ?_
  refine O.build (cells := #[.int .i64 2, .int .i64 3]) rfl (by kernel_rfl) ?_
  refine O.build (cells := #[.int .i64 2, .int .i64 3, .int .i64 200, .int .u64 1]) rfl (by kernel_rfl) ?_
  refine O.litG (G := markF) [((2, 3), 200, 1#64)] Tryz.underlying54 ti53 ts53 tz53 rfl (by decide) (by decide) rfl (fun b11 w3 hb11 hz11 e3 => ?_)
  have z3 := e3.size
  have h11 := hz11.own
  have hq11 := Sl.litG (n := 1) h11 rfl (by unfold maxLen; omega)
  have hl11 := h11.lt
  refine O.build (cells := #[str [116, 101, 97], .slice (some ⟨b11, 0, none⟩) 1 1]) rfl (by kernel_rfl) ?_
  refine O.litG (G := itemF) [([116, 101, 97], (some ⟨b11, 0, none⟩, 1, 1))] Tryz.underlying26 ti56 ts56 tz56 rfl (by decide) (by decide) rfl (fun b13 w4 hb13 hz13 e4 => ?_)
  have z4 := e4.size
  have h13 := hz13.own
  have hq13 := Sl.litG (n := 1) h13 rfl (by unfold maxLen; omega)
  have hl13 := h13.lt
  refine O.build (cells := #[.slice (some ⟨b5, 0, none⟩) 1 1, .slice (some ⟨b7, 0, none⟩) 1 1, .slice (some ⟨b13, 0, none⟩) 1 1]) rfl (by kernel_rfl) ?_
  refine O.alloc Tryz.zeroValue28 (fun b1 w5 hb1 hz1 e5 => ?_)
  have z5 := e5.size
  have h1 := hz1.own
  have hl1 := h1.lt
  refine O.storeA (vs := [.slice (some ⟨b5, 0, none⟩) 1 1, .slice (some ⟨b7, 0, none⟩) 1 1, .slice (some ⟨b13, 0, none⟩) 1 1]) Tryz.sizeOf28 rfl rfl rfl (ones3c rfl rfl rfl) h1 (Nat.le_of_ble_eq_true rfl) (fun w6 hs6 e6 z6 => ?_)
  have l5 := (((((h5.keep e2).keep e3).keep e4).keep e5).keepM e6 (by intro h; (try dsimp only at h); omega)).lt
  have l7 := ((((h7.keep e3).keep e4).keep e5).keepM e6 (by intro h; (try dsimp only at h); omega)).lt
  have l11 := (((h11.keep e4).keep e5).keepM e6 (by intro h; (try dsimp only at h); omega)).lt
  have l13 := ((h13.keep e5).keepM e6 (by intro h; (try dsimp only at h); omega)).lt
  obtain ⟨wk, hwk⟩ : ∃ x, x = w6 := ⟨_, rfl⟩
  have hzk : wk.heap.size = w6.heap.size := by rw [hwk]
  have he1 : Sl Dt.dotF.enc w6 (fun j => j < wk.heap.size) (.slice (some ⟨b5, 0, none⟩) 1 1) Cn.exam.1.1 := ((((((hq5.keep e2).keep e3).keep e4).keep e5).keepM e6 (by intro k hk h; (try dsimp only at hk); (try dsimp only at h); omega))).weak (by intro j hj; have hj : j = b5 := hj; show j < wk.heap.size; omega)
  have he2 : Sl Dt.dotF.enc w6 (fun j => j < wk.heap.size) (.slice (some ⟨b7, 0, none⟩) 1 1) Cn.exam.1.2 := (((((hq7.keep e3).keep e4).keep e5).keepM e6 (by intro k hk h; (try dsimp only at hk); (try dsimp only at h); omega))).weak (by intro j hj; have hj : j = b7 := hj; show j < wk.heap.size; omega)
  have he3 : Sl itemE w6 (fun j => j < wk.heap.size) (.slice (some ⟨b13, 0, none⟩) 1 1) Cn.exam.2 := Items.sl (Items.snoc Items.nil rfl (((((hq11.keep e4).keep e5).keepM e6 (by intro k hk h; (try dsimp only at hk); (try dsimp only at h); omega))).weak (by intro j hj; have hj : j = b11 := hj; show j < wk.heap.size; omega))) ((((hq13.keep e5).keepM e6 (by intro k hk h; (try dsimp only at hk); (try dsimp only at h); omega))).weak (by intro j hj; have hj : j = b13 := hj; show j < wk.heap.size; omega))
  refine O.nil ?_
  refine hK2 _ _ ?_
  refine C.seqK fun K3 hK3 => ?_
  refine C.seqK fun K4 hK4 => ?_
  refine C.region ?_
  refine O.litn [.int .u8 0, .int .u8 0, .int .u8 0] Tryz.underlying32 ti5 ts5 tz5 rfl (by decide) (by decide) rfl (by simp [Value.oneCell']) (fun b15 w7 hb15 hz15 e7 => ?_)
  have z7 := e7.size
  have h15 := hz15.own
  have hl15 := h15.lt
  have h15s : Sl byteE w7 (fun k => k = b15) (.slice (some ⟨b15, 0, none⟩) 3 3) [0, 0, 0] := Sl.of_own (G := byteF) h15 rfl (Nat.le_refl _) (by unfold maxLen; omega) (by simp [byteF])
  refine O.build (cells := #[.slice none 0 0, .slice none 0 0, .slice none 0 0]) rfl (by kernel_rfl) ?_
  refine O.call Tryz.call35 (args3 rfl rfl rfl) (isY_spec (.slice (some ⟨b15, 0, none⟩) 3 3) [0, 0, 0] _ (.slice none 0 0) (.slice none 0 0) (.slice none 0 0) Cn.nil0 (fun _ => False) _ h15s (by decide) (fun j hj => by have hj : j = b15 := hj; have := h15.lt; omega) (mx.keep (Ext.trans (Ext.new (Ext.trans (Ext.trans (Ext.trans (Ext.trans e1 e2) e3) e4) e5) e6 (by rintro i hi rfl; omega)) e7)) (Sl.nil _ _ _) (Sl.nil _ _ _) (Sl.nil _ _ _) (fun _ h => h.elim) Cn.is_nil0) ?_
  rintro v_17 w8 ⟨rfl, e8⟩
  have z8 := e8.size
  refine O.not rfl ?_
  refine O.cast (v' := .bool false) rfl ?_
  refine O.mv ?_
  refine O.yes rfl rfl ?_
  refine O.litn [.int .u8 1, .int .u8 2, .int .u8 3, .int .u8 1, .int .u8 5, .int .u8 9, .int .u8 1, .int .u8 3, .int .u8 116, .int .u8 101, .int .u8 97, .int .u8 1, .int .u8 2, .int .u8 3, .int .u8 200, .int .u8 1, .int .u8 1] Tryz.underlying32 ti5 ts5 tz5 rfl (by decide) (by decide) rfl (by simp [Value.oneCell']) (fun b20 w9 hb20 hz20 e9 => ?_)
  have z9 := e9.size
  have h20 := hz20.own
  have hl20 := h20.lt
  have h20s : Sl byteE w9 (fun k => k = b20) (.slice (some ⟨b20, 0, none⟩) 17 17) [1, 2, 3, 1, 5, 9, 1, 3, 116, 101, 97, 1, 2, 3, 200, 1, 1] := Sl.of_own (G := byteF) h20 rfl (Nat.le_refl _) (by unfold maxLen; omega) (by simp [byteF])
  refine O.yes rfl rfl ?_
  refine O.loadOA Tryz.isAgg28 Tryz.sizeOf28 rfl (((hs6.keep e7).keep e8).keep e9) (Nat.le_of_ble_eq_true rfl) ?_
  refine O.yes rfl rfl ?_
  refine O.call Tryz.call35 (args3 rfl rfl rfl) (isY_spec (.slice (some ⟨b20, 0, none⟩) 17 17) [1, 2, 3, 1, 5, 9, 1, 3, 116, 101, 97, 1, 2, 3, 200, 1, 1] _ (.slice (some ⟨b5, 0, none⟩) 1 1) (.slice (some ⟨b7, 0, none⟩) 1 1) (.slice (some ⟨b13, 0, none⟩) 1 1) Cn.exam (fun j => j < wk.heap.size) _ h20s (by decide) (fun j hj => by have hj : j = b20 := hj; have := h20.lt; omega) (mx.keep (Ext.trans (Ext.trans (Ext.trans (Ext.new (Ext.trans (Ext.trans (Ext.trans (Ext.trans e1 e2) e3) e4) e5) e6 (by rintro i hi rfl; omega)) e7) e8) e9)) (((he1.keep e7).keep e8).keep e9) (((he2.keep e7).keep e8).keep e9) (((he3.keep e7).keep e8).keep e9) (fun j hj => by have hj : j < wk.heap.size := hj; omega) Cn.is_exam) ?_
  rintro v_22 w10 ⟨rfl, e10⟩
  have z10 := e10.size
  refine O.yes rfl rfl ?_
  refine O.not rfl ?_
  refine O.cast (v' := .bool false) rfl ?_
  refine O.pickF rfl ?_
  refine O.nil ?_
  refine hK4 _ _ ?_
  refine C.condF rfl ?_
  refine C.skip ?_
  refine hK3 _ _ ?_
  refine C.seqK fun K5 hK5 => ?_
  refine C.seqK fun K6 hK6 => ?_
  refine C.region ?_
  refine O.litn [.int .u8 0, .int .u8 0] Tryz.underlying32 ti5 ts5 tz5 rfl (by decide) (by decide) rfl (by simp [Value.oneCell']) (fun b25 w11 hb25 hz25 e11 => ?_)
  have z11 := e11.size
  have h25 := hz25.own
  have hl25 := h25.lt
  have h25s : Sl byteE w11 (fun k => k = b25) (.slice (some ⟨b25, 0, none⟩) 2 2) [0, 0] := Sl.of_own (G := byteF) h25 rfl (Nat.le_refl _) (by unfold maxLen; omega) (by simp [byteF])
  refine O.litn [.int .u8 0, .int .u8 0, .int .u8 0, .int .u8 0] Tryz.underlying32 ti5 ts5 tz5 rfl (by decide) (by decide) rfl (by simp [Value.oneCell']) (fun b26 w12 hb26 hz26 e12 => ?_)
  have z12 := e12.size
  have h26 := hz26.own
  have hl26 := h26.lt
  have h26s : Sl byteE w12 (fun k => k = b26) (.slice (some ⟨b26, 0, none⟩) 4 4) [0, 0, 0, 0] := Sl.of_own (G := byteF) h26 rfl (Nat.le_refl _) (by unfold maxLen; omega) (by simp [byteF])
  refine O.litn [.int .u8 0, .int .u8 0, .int .u8 128, .int .u8 0] Tryz.underlying32 ti5 ts5 tz5 rfl (by decide) (by decide) rfl (by simp [Value.oneCell']) (fun b27 w13 hb27 hz27 e13 => ?_)
  have z13 := e13.size
  have h27 := hz27.own
  have hl27 := h27.lt
  have h27s : Sl byteE w13 (fun k => k = b27) (.slice (some ⟨b27, 0, none⟩) 4 4) [0, 0, 128, 0] := Sl.of_own (G := byteF) h27 rfl (Nat.le_refl _) (by unfold maxLen; omega) (by simp [byteF])
  refine O.litn [.int .u8 0, .int .u8 1, .int .u8 5, .int .u8 1, .int .u8 0] Tryz.underlying32 ti5 ts5 tz5 rfl (by decide) (by decide) rfl (by simp [Value.oneCell']) (fun b28 w14 hb28 hz28 e14 => ?_)
  have z14 := e14.size
  have h28 := hz28.own
  have hl28 := h28.lt
  have h28s : Sl byteE w14 (fun k => k = b28) (.slice (some ⟨b28, 0, none⟩) 5 5) [0, 1, 5, 1, 0] := Sl.of_own (G := byteF) h28 rfl (Nat.le_refl _) (by unfold maxLen; omega) (by simp [byteF])
  refine O.litn [.slice (some ⟨b25, 0, none⟩) 2 2, .slice (some ⟨b26, 0, none⟩) 4 4, .slice (some ⟨b27, 0, none⟩) 4 4, .slice none 0 0, .slice (some ⟨b28, 0, none⟩) 5 5] Tryz.underlying67 ti32 ts32 tz32 rfl (by decide) (by decide) rfl (by simp [Value.oneCell']) (fun b29 w15 hb29 hz29 e15 => ?_)
  have z15 := e15.size
  have h29 := hz29.own
  have hl29 := h29.lt
  have l25 := ((((h25.keep e12).keep e13).keep e14).keep e15).lt
  have l26 := (((h26.keep e13).keep e14).keep e15).lt
  have l27 := ((h27.keep e14).keep e15).lt
  have l28 := (h28.keep e15).lt
  have l29 := h29.lt
  obtain ⟨wb, hwb⟩ : ∃ x, x = w15 := ⟨_, rfl⟩
  have hzb : wb.heap.size = w15.heap.size := by rw [hwb]
  have hbads : Sl (sliE byteE) w15 (fun j => j = b29 ∨ j < wb.heap.size) (.slice (some ⟨b29, 0, none⟩) 5 5) Cn.bads := Sl.lits (F := fun j => j < wb.heap.size) h29 rfl (by decide) fun i h1 h2 => by
    match i, h1, h2 with
    | 0, _, _ => exact (((((h25s.keep e12).keep e13).keep e14).keep e15)).weak (by intro j hj; have hj : j = b25 := hj; show j < wb.heap.size; omega)
    | 1, _, _ => exact ((((h26s.keep e13).keep e14).keep e15)).weak (by intro j hj; have hj : j = b26 := hj; show j < wb.heap.size; omega)
    | 2, _, _ => exact (((h27s.keep e14).keep e15)).weak (by intro j hj; have hj : j = b27 := hj; show j < wb.heap.size; omega)
    | 3, _, _ => exact Sl.nil _ _ _
    | 4, _, _ => exact ((h28s.keep e15)).weak (by intro j hj; have hj : j = b28 := hj; show j < wb.heap.size; omega)
  refine O.len Tryz.underlying67 rfl hbads ?_
  refine O.mv ?_
  refine O.nil ?_
  refine hK6 _ _ ?_
  refine C.block fun K7 hK7 => ?_
  refine C.loop0 (σ := Nat) (fun f0 w0 i f w => f 31 = .int .i64 ((i : Int)) ∧ f 1 = f0 1 ∧ f 29 = f0 29 ∧ f 30 = f0 30 ∧ Le w0 w ∧ i ≤ 5) (fun i => 5 - i) 0 ?_ ?_
  ·
    refine ⟨rfl, rfl, rfl, rfl, Le.refl _, ?_⟩
    exact Nat.zero_le _
  ·
    rintro i f_1 w16 ⟨s31_1, s1_1, s29_1, s30_1, e_1, hi⟩
    have z_1 := e_1.size
    refine C.seqK fun K8 hK8 => ?_
    refine C.region ?_
    refine O.lssI s31_1 s30_1 ?_
    refine O.nil ?_
    refine hK8 _ _ ?_
    refine C.seqK fun K9 hK9 => ?_
    refine C.condD rfl (fun c32 => ?_) (fun c32 => ?_)
    ·
      have hi2 : i < Cn.bads.length := by omega
      have hi3 : Cn.bads.length = 5 := rfl
      have hlb29 := h29.lt
      refine C.skip ?_
      refine hK9 _ _ ?_
      refine C.seqK fun K10 hK10 => ?_
      refine C.block fun K11 hK11 => ?_
      refine C.seqK fun K12 hK12 => ?_
      refine C.region ?_
      refine O.idx Tryz.underlying67 Tryz.sizeOf32 rfl s29_1 (hbads.keep e_1) s31_1 (by omega) (fun a33 h33 => ?_)
      refine O.loadSl Tryz.isAgg32 rfl h33 (fun v34 h34 => ?_)
      refine O.asg ?_
      refine O.nil ?_
      refine hK12 _ _ ?_
      refine C.seqK fun K13 hK13 => ?_
      refine C.region ?_
      refine O.mv ?_
      refine O.build (cells := #[.slice none 0 0, .slice none 0 0, .slice none 0 0]) rfl (by kernel_rfl) ?_
      refine O.call Tryz.call35 (args3 rfl rfl rfl) (isN_spec v34 Cn.bads[i] _ (.slice none 0 0) (.slice none 0 0) (.slice none 0 0) Cn.nil0 (fun _ => False) _ h34 (Nat.le_trans (Cn.bads_len i hi2) (by decide)) (fun j hj => by have hj : j = b29 ∨ j < wb.heap.size := hj; omega) (mx.keep (Ext.trans (Ext.trans (Ext.trans (Ext.trans (Ext.trans (Ext.trans (Ext.trans (Ext.trans (Ext.trans (Ext.trans (Ext.new (Ext.trans (Ext.trans (Ext.trans (Ext.trans e1 e2) e3) e4) e5) e6 (by rintro i hi rfl; omega)) e7) e8) e9) e10) e11) e12) e13) e14) e15) e_1)) (Sl.nil _ _ _) (Sl.nil _ _ _) (Sl.nil _ _ _) (fun _ h => h.elim) (Cn.bads_no i hi2)) ?_
      rintro v_37 w17 ⟨rfl, e17⟩
      have z17 := e17.size
      refine O.not rfl ?_
      refine O.cast (v' := .bool false) rfl ?_
      refine O.nil ?_
      refine hK13 _ _ ?_
      refine C.condF rfl ?_
      refine C.skip ?_
      refine hK11 _ _ ?_
      refine hK10 _ _ ?_
      refine C.region ?_
      refine O.addI s31_1 rfl (by unfold InI; omega) ?_
      refine O.mv ?_
      refine O.nil ?_
      refine ⟨(i + 1), ⟨rfl, s1_1, s29_1, s30_1, (Ext.trans e_1 e17), ?_⟩, by first | omega | (simp only []; omega)⟩
      omega
    ·
      refine C.exit ?_
      refine hK7 _ _ ?_
      refine hK5 _ _ ?_
      refine C.seqK fun K14 hK14 => ?_
      refine C.region ?_
      refine O.litn [.int .u8 0, .int .u8 0, .int .u8 0, .int .u8 7, .int .u8 7] Tryz.underlying32 ti5 ts5 tz5 rfl (by decide) (by decide) rfl (by simp [Value.oneCell']) (fun b40 w18 hb40 hz40 e18 => ?_)
      have z18 := e18.size
      have h40 := hz40.own
      have hl40 := h40.lt
      have h40s : Sl byteE w18 (fun k => k = b40) (.slice (some ⟨b40, 0, none⟩) 5 5) [0, 0, 0, 7, 7] := Sl.of_own (G := byteF) h40 rfl (Nat.le_refl _) (by unfold maxLen; omega) (by simp [byteF])
      refine O.build (cells := #[.slice none 0 0, .slice none 0 0, .slice none 0 0]) rfl (by kernel_rfl) ?_
      refine O.call Tryz.call36 (args4 rfl rfl rfl rfl) (begins_spec (.slice (some ⟨b40, 0, none⟩) 5 5) [0, 0, 0, 7, 7] _ (.slice none 0 0) (.slice none 0 0) (.slice none 0 0) Cn.nil0 (fun _ => False) 3 0 _ h40s (by decide) (fun j hj => by have hj : j = b40 := hj; have := h40.lt; omega) (mx.keep (Ext.trans (Ext.trans (Ext.trans (Ext.trans (Ext.trans (Ext.trans (Ext.trans (Ext.trans (Ext.trans (Ext.trans (Ext.trans (Ext.new (Ext.trans (Ext.trans (Ext.trans (Ext.trans e1 e2) e3) e4) e5) e6 (by rintro i hi rfl; omega)) e7) e8) e9) e10) e11) e12) e13) e14) e15) e_1) e18)) (Sl.nil _ _ _) (Sl.nil _ _ _) (Sl.nil _ _ _) (fun _ h => h.elim) Cn.pref_front) ?_
      rintro v_42 w19 ⟨rfl, e19⟩
      have z19 := e19.size
      refine O.mv ?_
      refine O.yes rfl rfl ?_
      refine O.litn [.int .u8 7, .int .u8 7] Tryz.underlying32 ti5 ts5 tz5 rfl (by decide) (by decide) rfl (by simp [Value.oneCell']) (fun b44 w20 hb44 hz44 e20 => ?_)
      have z20 := e20.size
      have h44 := hz44.own
      have hl44 := h44.lt
      have h44s : Sl byteE w20 (fun k => k = b44) (.slice (some ⟨b44, 0, none⟩) 2 2) [7, 7] := Sl.of_own (G := byteF) h44 rfl (Nat.le_refl _) (by unfold maxLen; omega) (by simp [byteF])
      refine O.yes rfl rfl ?_
      refine O.build (cells := #[.slice none 0 0, .slice none 0 0, .slice none 0 0]) rfl (by kernel_rfl) ?_
      refine O.yes rfl rfl ?_
      refine O.call Tryz.call36 (args4 rfl rfl rfl rfl) (begins_spec (.slice (some ⟨b44, 0, none⟩) 2 2) [7, 7] _ (.slice none 0 0) (.slice none 0 0) (.slice none 0 0) Cn.nil0 (fun _ => False) 0 12 _ h44s (by decide) (fun j hj => by have hj : j = b44 := hj; have := h44.lt; omega) (mx.keep (Ext.trans (Ext.trans (Ext.trans (Ext.trans (Ext.trans (Ext.trans (Ext.trans (Ext.trans (Ext.trans (Ext.trans (Ext.trans (Ext.trans (Ext.trans (Ext.new (Ext.trans (Ext.trans (Ext.trans (Ext.trans e1 e2) e3) e4) e5) e6 (by rintro i hi rfl; omega)) e7) e8) e9) e10) e11) e12) e13) e14) e15) e_1) e18) e19) e20)) (Sl.nil _ _ _) (Sl.nil _ _ _) (Sl.nil _ _ _) (fun _ h => h.elim) (Cn.pref_short (by decide))) ?_
      rintro v_46 w21 ⟨rfl, e21⟩
      have z21 := e21.size
      refine O.pickT rfl ?_
      refine O.mv ?_
      refine O.yes rfl rfl ?_
      refine O.litn [.int .u8 0, .int .u8 0, .int .u8 0, .int .u8 1, .int .u8 2, .int .u8 3, .int .u8 0, .int .u8 0] Tryz.underlying32 ti5 ts5 tz5 rfl (by decide) (by decide) rfl (by simp [Value.oneCell']) (fun b49 w22 hb49 hz49 e22 => ?_)
      have z22 := e22.size
      have h49 := hz49.own
      have hl49 := h49.lt
      have h49s : Sl byteE w22 (fun k => k = b49) (.slice (some ⟨b49, 0, none⟩) 8 8) [0, 0, 0, 1, 2, 3, 0, 0] := Sl.of_own (G := byteF) h49 rfl (Nat.le_refl _) (by unfold maxLen; omega) (by simp [byteF])
      refine O.yes rfl rfl ?_
      refine O.call Tryz.call32 (args3 rfl rfl rfl) (counts_spec (.slice (some ⟨b49, 0, none⟩) 8 8) [0, 0, 0, 1, 2, 3, 0, 0] _ 2 0 _ h49s (by decide) (fun j hj => by have hj : j = b49 := hj; have := h49.lt; omega) (mx.keep (Ext.trans (Ext.trans (Ext.trans (Ext.trans (Ext.trans (Ext.trans (Ext.trans (Ext.trans (Ext.trans (Ext.trans (Ext.trans (Ext.trans (Ext.trans (Ext.trans (Ext.trans (Ext.new (Ext.trans (Ext.trans (Ext.trans (Ext.trans e1 e2) e3) e4) e5) e6 (by rintro i hi rfl; omega)) e7) e8) e9) e10) e11) e12) e13) e14) e15) e_1) e18) e19) e20) e21) e22)) Cn.count_two) ?_
      rintro v_50 w23 ⟨rfl, e23⟩
      have z23 := e23.size
      refine O.pickT rfl ?_
      refine O.mv ?_
      refine O.yes rfl rfl ?_
      refine O.call Tryz.call32 (args3 rfl rfl rfl) (counts_spec (.slice none 0 0) [] (fun _ => False) 0 0 _ (Sl.nil _ _ _) (by decide) (fun _ h => h.elim) (mx.keep (Ext.trans (Ext.trans (Ext.trans (Ext.trans (Ext.trans (Ext.trans (Ext.trans (Ext.trans (Ext.trans (Ext.trans (Ext.trans (Ext.trans (Ext.trans (Ext.trans (Ext.trans (Ext.trans (Ext.new (Ext.trans (Ext.trans (Ext.trans (Ext.trans e1 e2) e3) e4) e5) e6 (by rintro i hi rfl; omega)) e7) e8) e9) e10) e11) e12) e13) e14) e15) e_1) e18) e19) e20) e21) e22) e23)) Cn.count_nil) ?_
      rintro v_53 w24 ⟨rfl, e24⟩
      have z24 := e24.size
      refine O.pickT rfl ?_
      refine O.mv ?_
      refine O.yes rfl rfl ?_
      refine O.litn [.int .u8 0, .int .u8 0, .int .u8 0, .int .u8 0] Tryz.underlying32 ti5 ts5 tz5 rfl (by decide) (by decide) rfl (by simp [Value.oneCell']) (fun b56 w25 hb56 hz56 e25 => ?_)
      have z25 := e25.size
      have h56 := hz56.own
      have hl56 := h56.lt
      have h56s : Sl byteE w25 (fun k => k = b56) (.slice (some ⟨b56, 0, none⟩) 4 4) [0, 0, 0, 0] := Sl.of_own (G := byteF) h56 rfl (Nat.le_refl _) (by unfold maxLen; omega) (by simp [byteF])
      refine O.yes rfl rfl ?_
      refine O.call Tryz.call32 (args3 rfl rfl rfl) (counts_spec (.slice (some ⟨b56, 0, none⟩) 4 4) [0, 0, 0, 0] _ 0 12 _ h56s (by decide) (fun j hj => by have hj : j = b56 := hj; have := h56.lt; omega) (mx.keep (Ext.trans (Ext.trans (Ext.trans (Ext.trans (Ext.trans (Ext.trans (Ext.trans (Ext.trans (Ext.trans (Ext.trans (Ext.trans (Ext.trans (Ext.trans (Ext.trans (Ext.trans (Ext.trans (Ext.trans (Ext.trans (Ext.new (Ext.trans (Ext.trans (Ext.trans (Ext.trans e1 e2) e3) e4) e5) e6 (by rintro i hi rfl; omega)) e7) e8) e9) e10) e11) e12) e13) e14) e15) e_1) e18) e19) e20) e21) e22) e23) e24) e25)) Cn.count_four) ?_
      rintro v_57 w26 ⟨rfl, e26⟩
      have z26 := e26.size
      refine O.pickT rfl ?_
      refine O.mv ?_
      refine O.yes rfl rfl ?_
      refine O.litn [.int .u8 1, .int .u8 2, .int .u8 3, .int .u8 1, .int .u8 5, .int .u8 9] Tryz.underlying32 ti5 ts5 tz5 rfl (by decide) (by decide) rfl (by simp [Value.oneCell']) (fun b60 w27 hb60 hz60 e27 => ?_)
      have z27 := e27.size
      have h60 := hz60.own
      have hl60 := h60.lt
      have h60s : Sl byteE w27 (fun k => k = b60) (.slice (some ⟨b60, 0, none⟩) 6 6) [1, 2, 3, 1, 5, 9] := Sl.of_own (G := byteF) h60 rfl (Nat.le_refl _) (by unfold maxLen; omega) (by simp [byteF])
      refine O.yes rfl rfl ?_
      refine O.fieldAd Tryz.underlying28 rfl Tryz.sizeOf25 (by decide) s1_1 ?_
      refine O.yes rfl rfl ?_
      refine O.loadOA Tryz.isAgg25 Tryz.sizeOf25 rfl ((((((((((((((((((((hs6.keep e7).keep e8).keep e9).keep e10).keep e11).keep e12).keep e13).keep e14).keep e15).keep e_1).keep e18).keep e19).keep e20).keep e21).keep e22).keep e23).keep e24).keep e25).keep e26).keep e27) (Nat.le_of_ble_eq_true rfl) ?_
      refine O.yes rfl rfl ?_
      refine O.call Tryz.call53 (args3 rfl rfl rfl) (wseen_spec (.slice (some ⟨b60, 0, none⟩) 6 6) [1, 2, 3, 1, 5, 9] _ (.slice (some ⟨b5, 0, none⟩) 1 1) (.slice (some ⟨b7, 0, none⟩) 1 1) Cn.exam.1 (fun j => j < wk.heap.size) 0 _ h60s (by decide) (fun j hj => by have hj : j = b60 := hj; have := h60.lt; omega) (mx.keep (Ext.trans (Ext.trans (Ext.trans (Ext.trans (Ext.trans (Ext.trans (Ext.trans (Ext.trans (Ext.trans (Ext.trans (Ext.trans (Ext.trans (Ext.trans (Ext.trans (Ext.trans (Ext.trans (Ext.trans (Ext.trans (Ext.trans (Ext.trans (Ext.new (Ext.trans (Ext.trans (Ext.trans (Ext.trans e1 e2) e3) e4) e5) e6 (by rintro i hi rfl; omega)) e7) e8) e9) e10) e11) e12) e13) e14) e15) e_1) e18) e19) e20) e21) e22) e23) e24) e25) e26) e27)) ((((((((((((((((((((he1.keep e7).keep e8).keep e9).keep e10).keep e11).keep e12).keep e13).keep e14).keep e15).keep e_1).keep e18).keep e19).keep e20).keep e21).keep e22).keep e23).keep e24).keep e25).keep e26).keep e27) ((((((((((((((((((((he2.keep e7).keep e8).keep e9).keep e10).keep e11).keep e12).keep e13).keep e14).keep e15).keep e_1).keep e18).keep e19).keep e20).keep e21).keep e22).keep e23).keep e24).keep e25).keep e26).keep e27) (fun j hj => by have hj : j < wk.heap.size := hj; omega) Cn.ctx_yes) ?_
      rintro v_63 w28 ⟨rfl, e28⟩
      have z28 := e28.size
      refine O.pickT rfl ?_
      refine O.mv ?_
      refine O.yes rfl rfl ?_
      refine O.litn [.int .u8 1, .int .u8 2, .int .u8 3] Tryz.underlying32 ti5 ts5 tz5 rfl (by decide) (by decide) rfl (by simp [Value.oneCell']) (fun b66 w29 hb66 hz66 e29 => ?_)
      have z29 := e29.size
      have h66 := hz66.own
      have hl66 := h66.lt
      have h66s : Sl byteE w29 (fun k => k = b66) (.slice (some ⟨b66, 0, none⟩) 3 3) [1, 2, 3] := Sl.of_own (G := byteF) h66 rfl (Nat.le_refl _) (by unfold maxLen; omega) (by simp [byteF])
      refine O.yes rfl rfl ?_
      refine O.build (cells := #[.slice none 0 0, .slice none 0 0]) rfl (by kernel_rfl) ?_
      refine O.yes rfl rfl ?_
      refine O.call Tryz.call53 (args3 rfl rfl rfl) (wseen_spec (.slice (some ⟨b66, 0, none⟩) 3 3) [1, 2, 3] _ (.slice none 0 0) (.slice none 0 0) ([], []) (fun _ => False) 12 _ h66s (by decide) (fun j hj => by have hj : j = b66 := hj; have := h66.lt; omega) (mx.keep (Ext.trans (Ext.trans (Ext.trans (Ext.trans (Ext.trans (Ext.trans (Ext.trans (Ext.trans (Ext.trans (Ext.trans (Ext.trans (Ext.trans (Ext.trans (Ext.trans (Ext.trans (Ext.trans (Ext.trans (Ext.trans (Ext.trans (Ext.trans (Ext.trans (Ext.trans (Ext.new (Ext.trans (Ext.trans (Ext.trans (Ext.trans e1 e2) e3) e4) e5) e6 (by rintro i hi rfl; omega)) e7) e8) e9) e10) e11) e12) e13) e14) e15) e_1) e18) e19) e20) e21) e22) e23) e24) e25) e26) e27) e28) e29)) (Sl.nil _ _ _) (Sl.nil _ _ _) (fun _ h => h.elim) Cn.ctx_no) ?_
      rintro v_68 w30 ⟨rfl, e30⟩
      have z30 := e30.size
      refine O.pickT rfl ?_
      refine O.asg ?_
      refine O.nil ?_
      refine hK14 _ _ ?_
      refine C.ret ?_
      refine Outs.one rfl rfl ?_
      exact ⟨rfl, (Ext.trans (Ext.trans (Ext.trans (Ext.trans (Ext.trans (Ext.trans (Ext.trans (Ext.trans (Ext.trans (Ext.trans (Ext.trans (Ext.trans (Ext.trans (Ext.trans (Ext.trans (Ext.trans (Ext.trans (Ext.trans (Ext.trans (Ext.trans (Ext.trans (Ext.trans (Ext.trans (Ext.new (Ext.trans (Ext.trans (Ext.trans (Ext.trans e1 e2) e3) e4) e5) e6 (by rintro i hi rfl; omega)) e7) e8) e9) e10) e11) e12) e13) e14) e15) e_1) e18) e19) e20) e21) e22) e23) e24) e25) e26) e27) e28) e29) e30)⟩

end Go.Proofs.YtnkcmaoaagnopaaGreatDoor
end
section
/-
  The walks of two laws of reading. Conditions: slices as they lie in memory.
-/
namespace Go.Proofs.YtnkcmaoaagnopaaGreatDoor
open Go.Pn Go.RowKit Go.Proofs
attribute [local irreducible] O C D

end Go.Proofs.YtnkcmaoaagnopaaGreatDoor
end
section
/-
  The walk that writes over what was read. Conditions: what is written may be written.
-/
namespace Go.Proofs.YtnkcmaoaagnopaaGreatDoor
open Go.Pn Go.RowKit Go.Proofs
attribute [local irreducible] O C D

theorem inf22 : ∃ ie, Tryz.prog.info? 22 = some ie ∧ ie.size = 1 ∧ ie.bytes = 24 ∧ ie.zero = some (.slice none 0 0) := by
  have h : (Tryz.prog.info? 22).isSome = true := by kernel_rfl
  exact ⟨(Tryz.prog.info? 22).get h, (Option.some_get h).symm, by kernel_rfl, by kernel_rfl, by kernel_rfl⟩
set_option maxHeartbeats 4000000 in
theorem stain_spec (p1 p2 p3 : Raw) (ps : List Raw) (F : Nat → Prop) (B0 : Nat) (w : World) (hst : Stn 51 56 53 w F p1 p2 p3 ps 1000000) (hF : ∀ j, F j → B0 ≤ j ∧ j < w.heap.size) (hp3 : p3.2.1 ≤ 1000000) :
    Ret Tryz.prog 56 #[.agg #[slv p1, slv p2, slv p3]] w (fun v w' => v = .tuple #[] ∧ Ext (fun j => B0 ≤ j) w w') := by
  obtain ⟨ie22, ti22, ts22, tb22, tz22⟩ := inf22
  obtain ⟨K, hKe⟩ : ∃ K, K = 1000000 := ⟨_, rfl⟩
  rw [← hKe] at hst
  have hmx : maxLen = 9223372036854775807 := rfl
  refine enter (args := [.agg #[slv p1, slv p2, slv p3]]) (n := 77) Tryz.func56 rfl rfl (Nat.le_of_ble_eq_true rfl) ?_
  refine C.seqK fun K1 hK1 => ?_
  refine C.region ?_
  refine O.box (v := .agg #[slv p1, slv p2, slv p3]) rfl (fun b1 w1 hb1 hz1 e1 => ?_)
  have z1 := e1.size
  have h1 := hz1.own
  have hl1 := h1.lt
  refine O.nil ?_
  refine hK1 _ _ ?_
  refine C.seqK fun K2 hK2 => ?_
  refine C.seqK fun K3 hK3 => ?_
  refine C.region ?_
  refine O.fieldAd Tryz.underlying28 rfl Tryz.sizeOf25 (by decide) rfl ?_
  refine O.fieldAd Tryz.underlying25 rfl Tryz.sizeOf23 (by decide) rfl ?_
  refine O.loadO Tryz.isAgg23 rfl h1 rfl ?_
  refine O.fieldAd Tryz.underlying28 rfl Tryz.sizeOf25 (by decide) rfl ?_
  refine O.fieldAd Tryz.underlying25 rfl Tryz.sizeOf22 (by decide) rfl ?_
  refine O.loadO Tryz.isAgg22 rfl h1 rfl ?_
  refine O.litn [slv p1, slv p2] Tryz.underlying127 ti22 ts22 tz22 rfl (by decide) (by decide) rfl (by intro u hu; simp only [List.mem_cons, List.not_mem_nil, or_false] at hu; rcases hu with rfl | rfl <;> rfl) (fun b13 w2 hb13 hz13 e2 => ?_)
  have z2 := e2.size
  have h13 := hz13.own
  have hl13 := h13.lt
  refine O.lenL Tryz.underlying127 rfl ?_
  refine O.mv ?_
  refine O.nil ?_
  refine hK3 _ _ ?_
  refine C.block fun K4 hK4 => ?_
  refine C.loop0 (σ := Nat) (fun f0 w0 i f wz => f 15 = .int .i64 ((i : Int)) ∧ f 1 = f0 1 ∧ f 13 = f0 13 ∧ f 14 = f0 14 ∧ Ext (fun j => B0 ≤ j) w wz ∧ Own wz b1 28 [slv p1, slv p2, slv p3] ∧ Stn 51 56 53 wz F p1 p2 p3 ps (K) ∧ Own wz b13 22 [slv p1, slv p2] ∧ i ≤ 2) (fun i => 2 - i) 0 ?_ ?_
  ·
    refine ⟨rfl, rfl, rfl, rfl, (Ext.new (Ext.new (Ext.refl _ _) e1 (by intro i hi hk; first | exact hk.elim | ((try dsimp only at hk); (try dsimp only); omega))) e2 (by intro i hi hk; first | exact hk.elim | ((try dsimp only at hk); (try dsimp only); omega))), (h1.keep e2), ((hst.keep e1).keep e2), h13, ?_⟩
    exact Nat.zero_le _
  ·
    rintro i f_1 w3 ⟨s15_1, s1_1, s13_1, s14_1, e_1, r0_1, r1_1, r2_1, hi⟩
    have z_1 := e_1.size
    refine C.seqK fun K5 hK5 => ?_
    refine C.region ?_
    refine O.lssI s15_1 s14_1 ?_
    refine O.nil ?_
    refine hK5 _ _ ?_
    refine C.seqK fun K6 hK6 => ?_
    refine C.condD rfl (fun c16 => ?_) (fun c16 => ?_)
    ·
      obtain ⟨q, hqv, hq⟩ : ∃ q, [slv p1, slv p2][i]? = some (slv q) ∧ (q = p1 ∨ q = p2) := by
        match i, (show i < 2 by omega) with
        | 0, _ => exact ⟨p1, rfl, .inl rfl⟩
        | 1, _ => exact ⟨p2, rfl, .inr rfl⟩
      refine C.skip ?_
      refine hK6 _ _ ?_
      refine C.seqK fun K7 hK7 => ?_
      refine C.block fun K8 hK8 => ?_
      refine C.seqK fun K9 hK9 => ?_
      refine C.region ?_
      refine O.idxO Tryz.underlying127 Tryz.sizeOf22 s13_1 s15_1 (by omega) ?_
      refine O.loadO Tryz.isAgg22 rfl r2_1 (show [slv p1, slv p2][0 + Int.toNat (i : Int) * 1]? = some (slv q) by simpa using hqv) ?_
      refine O.asg ?_
      refine O.nil ?_
      refine hK9 _ _ ?_
      refine C.seqK fun K10 hK10 => ?_
      refine C.region ?_
      refine O.asg ?_
      refine O.nil ?_
      refine hK10 _ _ ?_
      refine C.block fun K11 hK11 => ?_
      refine C.loop0 (σ := Nat) (fun f0 w0 j f wz => f 4 = .int .i64 ((j : Int)) ∧ f 1 = f0 1 ∧ f 3 = f0 3 ∧ f 13 = f0 13 ∧ f 14 = f0 14 ∧ f 15 = f0 15 ∧ Ext (fun j => B0 ≤ j) w wz ∧ Own wz b1 28 [slv p1, slv p2, slv p3] ∧ Stn 51 56 53 wz F p1 p2 p3 ps (K) ∧ Own wz b13 22 [slv p1, slv p2] ∧ j ≤ maxLen) (fun j => q.2.1 - j) 0 ?_ ?_
      ·
        refine ⟨rfl, rfl, rfl, rfl, rfl, rfl, (Ext.new (Ext.refl _ _) e_1 (by intro i hi hk; first | exact hk.elim | ((try dsimp only at hk); (try dsimp only); omega))), r0_1, r1_1, r2_1, ?_⟩
        exact Nat.zero_le _
      ·
        rintro j f_2 w4 ⟨s4_2, s1_2, s3_2, s13_2, s14_2, s15_2, e_2, r0_2, r1_2, r2_2, hj⟩
        have z_2 := e_2.size
        refine C.seqK fun K12 hK12 => ?_
        refine C.seqK fun K13 hK13 => ?_
        refine C.region ?_
        refine O.mv ?_
        refine O.mv ?_
        refine O.lenL Tryz.underlying22 s3_2 ?_
        refine O.lssI s4_2 rfl ?_
        refine O.nil ?_
        refine hK13 _ _ ?_
        refine C.condD rfl (fun c22 => ?_) (fun c22 => ?_)
        ·
          obtain ⟨xs, hx⟩ := (r1_2).dots hq
          have hxl := hx.len
          have hxm := hx.1.2
          have hxw := hx.1
          refine C.skip ?_
          refine hK12 _ _ ?_
          refine C.seqK fun K14 hK14 => ?_
          refine C.block fun K15 hK15 => ?_
          refine C.region ?_
          refine O.mv ?_
          refine O.mv ?_
          obtain ⟨g27, cap27, hv27⟩ := OwnF.ptr hxw (by omega)
          have ho27 := hxw
          rw [hv27] at ho27
          refine O.idxO Tryz.underlying22 Tryz.sizeOf51 (Eq.trans s3_2 hv27) s4_2 (by omega) ?_
          refine O.fieldAd Tryz.underlying51 rfl Tryz.sizeOf3 (by decide) rfl ?_
          refine O.loadC (G := Dt.dotF) (i := j) (off := 1) (by simp [Dt.dotF]) Tryz.isAgg3 rfl ho27 (by omega) rfl ?_
          refine O.addW rfl rfl ?_
          obtain ⟨g31, cap31, hv31⟩ := OwnF.ptr hxw (by omega)
          have ho31 := hxw
          rw [hv31] at ho31
          refine O.idxO Tryz.underlying22 Tryz.sizeOf51 (Eq.trans s3_2 hv31) s4_2 (by omega) ?_
          refine O.fieldAd Tryz.underlying51 rfl Tryz.sizeOf3 (by decide) rfl ?_
          refine O.storeS (G := Dt.dotF) (i := j) (off := 1) (by simp [Dt.dotF]) Tryz.sizeOf3 rfl rfl rfl ho31 (by omega) (by decide) (fun w5 cr5 hg5 hw5 e5 z5 => ?_)
          obtain ⟨hB31, hC31⟩ := hF g31 (hx.2 g31 (by rw [hv31]; rfl))
          replace e5 : Ext (fun j => B0 ≤ j ∧ j < w.heap.size) w4 w5 := e5.mono (fun k _ hk => by have h0 : k = g31 := hk; subst h0; exact ⟨hB31, hC31⟩)
          have hste5 : Stn 51 56 53 w5 F p1 p2 p3 ps (K) := by rw [hw5]; exact (r1_2).setD (by decide) (by decide) hg5
          refine O.nil ?_
          refine hK15 _ _ ?_
          refine hK14 _ _ ?_
          refine C.region ?_
          refine O.mv ?_
          refine O.addI s4_2 rfl (by unfold InI; omega) ?_
          refine O.asg ?_
          refine O.nil ?_
          refine ⟨(j + 1), ⟨rfl, s1_2, s3_2, s13_2, s14_2, s15_2, (Ext.new (Ext.new (Ext.refl _ _) e_2 (by intro i hi hk; first | exact hk.elim | ((try dsimp only at hk); (try dsimp only); omega))) e5 (by intro i hi hk; first | exact hk.elim | ((try dsimp only at hk); (try dsimp only); omega))), (r0_2.keepM e5 (by intro h; (try dsimp only at h); omega)), hste5, (r2_2.keepM e5 (by intro h; (try dsimp only at h); omega)), ?_⟩, by first | omega | (simp only []; omega)⟩
          omega
        ·
          refine C.exit ?_
          refine hK11 _ _ ?_
          refine hK8 _ _ ?_
          refine hK7 _ _ ?_
          refine C.region ?_
          refine O.addI (Eq.trans s15_2 s15_1) rfl (by unfold InI; omega) ?_
          refine O.mv ?_
          refine O.nil ?_
          refine ⟨(i + 1), ⟨rfl, (Eq.trans s1_2 s1_1), (Eq.trans s13_2 s13_1), (Eq.trans s14_2 s14_1), (Ext.new (Ext.refl _ _) e_2 (by intro i hi hk; first | exact hk.elim | ((try dsimp only at hk); (try dsimp only); omega))), r0_2, r1_2, r2_2, ?_⟩, by first | omega | (simp only []; omega)⟩
          omega
    ·
      refine C.exit ?_
      refine hK4 _ _ ?_
      refine hK2 _ _ ?_
      refine C.seqK fun K16 hK16 => ?_
      refine C.region ?_
      refine O.asg ?_
      refine O.nil ?_
      refine hK16 _ _ ?_
      refine C.block fun K17 hK17 => ?_
      refine C.loop0 (σ := Nat) (fun f0 w0 i f wz => f 5 = .int .i64 ((i : Int)) ∧ f 1 = f0 1 ∧ Ext (fun j => B0 ≤ j) w wz ∧ Own wz b1 28 [slv p1, slv p2, slv p3] ∧ Stn 51 56 53 wz F p1 p2 p3 ps (K + i) ∧ i ≤ p3.2.1) (fun i => p3.2.1 - i) 0 ?_ ?_
      ·
        refine ⟨rfl, rfl, (Ext.new (Ext.refl _ _) e_1 (by intro i hi hk; first | exact hk.elim | ((try dsimp only at hk); (try dsimp only); omega))), r0_1, r1_1, ?_⟩
        exact Nat.zero_le _
      ·
        rintro i f_3 w6 ⟨s5_3, s1_3, e_3, r0_3, r1_3, hi⟩
        have z_3 := e_3.size
        refine C.seqK fun K18 hK18 => ?_
        refine C.seqK fun K19 hK19 => ?_
        refine C.region ?_
        refine O.mv ?_
        refine O.fieldAd Tryz.underlying28 rfl Tryz.sizeOf26 (by decide) (Eq.trans s1_3 s1_1) ?_
        refine O.loadO Tryz.isAgg26 rfl r0_3 rfl ?_
        refine O.lenL Tryz.underlying26 rfl ?_
        refine O.lssI s5_3 rfl ?_
        refine O.nil ?_
        refine hK19 _ _ ?_
        refine C.condD rfl (fun c38 => ?_) (fun c38 => ?_)
        ·
          refine C.skip ?_
          refine hK18 _ _ ?_
          refine C.seqK fun K20 hK20 => ?_
          refine C.block fun K21 hK21 => ?_
          refine C.seqK fun K22 hK22 => ?_
          refine C.seqK fun K23 hK23 => ?_
          refine C.region ?_
          refine O.asg ?_
          refine O.nil ?_
          refine hK23 _ _ ?_
          refine C.block fun K24 hK24 => ?_
          refine C.loop0 (σ := Nat) (fun f0 w0 j f wz => f 6 = .int .i64 ((j : Int)) ∧ f 1 = f0 1 ∧ f 5 = f0 5 ∧ Ext (fun j => B0 ≤ j) w wz ∧ Own wz b1 28 [slv p1, slv p2, slv p3] ∧ Stn 51 56 53 wz F p1 p2 p3 ps (K + i) ∧ j ≤ maxLen) (fun j => maxLen - j) 0 ?_ ?_
          ·
            refine ⟨rfl, rfl, rfl, (Ext.new (Ext.refl _ _) e_3 (by intro i hi hk; first | exact hk.elim | ((try dsimp only at hk); (try dsimp only); omega))), r0_3, r1_3, ?_⟩
            exact Nat.zero_le _
          ·
            rintro j f_4 w7 ⟨s6_4, s1_4, s5_4, e_4, r0_4, r1_4, hj⟩
            have z_4 := e_4.size
            obtain ⟨raw, hraw, hps, hK⟩ := (r1_4).d3
            have hrl := hraw.len
            have hi2 : i < raw.length := by omega
            have hrw := hraw.1
            obtain ⟨ms, hms⟩ := (r1_4).m raw[i].2 (by rw [← hps]; exact List.mem_map.2 ⟨_, List.getElem_mem hi2, rfl⟩)
            have hml := hms.len
            have hmw := hms.1
            have hmm := hms.1.2
            refine C.seqK fun K25 hK25 => ?_
            refine C.seqK fun K26 hK26 => ?_
            refine C.region ?_
            refine O.mv ?_
            refine O.fieldAd Tryz.underlying28 rfl Tryz.sizeOf26 (by decide) (Eq.trans s1_4 (Eq.trans s1_3 s1_1)) ?_
            refine O.loadO Tryz.isAgg26 rfl r0_4 rfl ?_
            refine O.mv ?_
            obtain ⟨g45, cap45, hv45⟩ := OwnF.ptr hrw (by omega)
            have ho45 := hrw
            rw [hv45] at ho45
            refine O.idxO Tryz.underlying26 Tryz.sizeOf56 (Eq.trans rfl hv45) (Eq.trans s5_4 s5_3) (by omega) ?_
            refine O.fieldAd Tryz.underlying56 rfl Tryz.sizeOf54 (by decide) rfl ?_
            refine O.loadC (G := itemF) (i := i) (off := 1) (by simp [itemF]) Tryz.isAgg54 rfl ho45 (by omega) rfl ?_
            refine O.lenL Tryz.underlying54 rfl ?_
            refine O.lssI s6_4 rfl ?_
            refine O.nil ?_
            refine hK26 _ _ ?_
            refine C.condD rfl (fun c49 => ?_) (fun c49 => ?_)
            ·
              refine C.skip ?_
              refine hK25 _ _ ?_
              refine C.seqK fun K27 hK27 => ?_
              refine C.block fun K28 hK28 => ?_
              refine C.region ?_
              refine O.fieldAd Tryz.underlying28 rfl Tryz.sizeOf26 (by decide) (Eq.trans s1_4 (Eq.trans s1_3 s1_1)) ?_
              refine O.loadO Tryz.isAgg26 rfl r0_4 rfl ?_
              refine O.mv ?_
              obtain ⟨g55, cap55, hv55⟩ := OwnF.ptr hrw (by omega)
              have ho55 := hrw
              rw [hv55] at ho55
              refine O.idxO Tryz.underlying26 Tryz.sizeOf56 (Eq.trans rfl hv55) (Eq.trans s5_4 s5_3) (by omega) ?_
              refine O.fieldAd Tryz.underlying56 rfl Tryz.sizeOf54 (by decide) rfl ?_
              refine O.loadC (G := itemF) (i := i) (off := 1) (by simp [itemF]) Tryz.isAgg54 rfl ho55 (by omega) rfl ?_
              refine O.mv ?_
              obtain ⟨g59, cap59, hv59⟩ := OwnF.ptr hmw (by omega)
              have ho59 := hmw
              rw [hv59] at ho59
              refine O.idxO Tryz.underlying54 Tryz.sizeOf53 (Eq.trans rfl hv59) s6_4 (by omega) ?_
              refine O.fieldAd Tryz.underlying53 rfl Tryz.sizeOf3 (by decide) rfl ?_
              refine O.loadC (G := markF) (i := j) (off := 2) (by simp [markF]) Tryz.isAgg3 rfl ho59 (by omega) rfl ?_
              refine O.addW rfl rfl ?_
              obtain ⟨g63, cap63, hv63⟩ := OwnF.ptr hmw (by omega)
              have ho63 := hmw
              rw [hv63] at ho63
              refine O.idxO Tryz.underlying54 Tryz.sizeOf53 (Eq.trans rfl hv63) s6_4 (by omega) ?_
              refine O.fieldAd Tryz.underlying53 rfl Tryz.sizeOf3 (by decide) rfl ?_
              refine O.storeS (G := markF) (i := j) (off := 2) (by simp [markF]) Tryz.sizeOf3 rfl rfl rfl ho63 (by omega) (by decide) (fun w8 cr8 hg8 hw8 e8 z8 => ?_)
              obtain ⟨hB63, hC63⟩ := hF g63 (hms.2 g63 (by rw [hv63]; rfl))
              replace e8 : Ext (fun j => B0 ≤ j ∧ j < w.heap.size) w7 w8 := e8.mono (fun k _ hk => by have h0 : k = g63 := hk; subst h0; exact ⟨hB63, hC63⟩)
              have hste8 : Stn 51 56 53 w8 F p1 p2 p3 ps (K + i) := by rw [hw8]; exact (r1_4).setM (by decide) (by decide) hg8
              refine O.nil ?_
              refine hK28 _ _ ?_
              refine hK27 _ _ ?_
              refine C.region ?_
              refine O.mv ?_
              refine O.addI s6_4 rfl (by unfold InI; omega) ?_
              refine O.asg ?_
              refine O.nil ?_
              refine ⟨(j + 1), ⟨rfl, s1_4, s5_4, (Ext.new (Ext.new (Ext.refl _ _) e_4 (by intro i hi hk; first | exact hk.elim | ((try dsimp only at hk); (try dsimp only); omega))) e8 (by intro i hi hk; first | exact hk.elim | ((try dsimp only at hk); (try dsimp only); omega))), (r0_4.keepM e8 (by intro h; (try dsimp only at h); omega)), hste8, ?_⟩, by first | omega | (simp only []; omega)⟩
              omega
            ·
              refine C.exit ?_
              refine hK24 _ _ ?_
              refine hK22 _ _ ?_
              refine C.drawB (wB := (bare w7)) (by kernel_rfl) fun w9 e9 => ?_
              have z9 := e9.size
              refine D.take (i := 0) rfl rfl rfl rfl (by kernel_rfl) (Ext.bare (Ext.new (Ext.refl (fun _ => True) _) e9 (fun _ _ _ => trivial))) ⟨_, rfl⟩ (fun w_ hw_ N_ hN => (O.fieldAd Tryz.underlying28 rfl Tryz.sizeOf26 (by decide) (Eq.trans s1_4 (Eq.trans s1_3 s1_1)) (O.nil hN))) ?_
              refine D.take (i := 2) rfl rfl rfl rfl (by kernel_rfl) (Ext.bare (Ext.new (Ext.refl (fun _ => True) _) e9 (fun _ _ _ => trivial))) ⟨pure _, rfl⟩ (fun w_ hw_ N_ hN => (O.mv (O.nil hN))) ?_
              refine D.take (i := 3) rfl rfl rfl rfl (by kernel_rfl) (Ext.bare (Ext.new (Ext.refl (fun _ => True) _) e9 (fun _ _ _ => trivial))) ⟨_, rfl⟩ (fun w_ hw_ N_ hN => (O.fieldAd Tryz.underlying28 rfl Tryz.sizeOf26 (by decide) (Eq.trans s1_4 (Eq.trans s1_3 s1_1)) (O.nil hN))) ?_
              refine D.take (i := 5) rfl rfl rfl rfl (by kernel_rfl) (Ext.bare (Ext.new (Ext.refl (fun _ => True) _) e9 (fun _ _ _ => trivial))) ⟨pure _, rfl⟩ (fun w_ hw_ N_ hN => (O.mv (O.nil hN))) ?_
              refine D.many [1, 4] (by kernel_rfl) (by decide) ⟨?_, ?_, trivial⟩
              ·
                refine D.stepU rfl rfl ?_
                refine O.loadO Tryz.isAgg26 rfl (r0_4.keep e9) rfl ?_
                refine O.nil ⟨(Ext.bare (Ext.new (Ext.refl (fun _ => True) _) e9 (fun _ _ _ => trivial))), ?_⟩
                refine D.one (i := 4) rfl rfl (by kernel_rfl) ?_
                refine O.loadO Tryz.isAgg26 rfl (r0_4.keep e9) rfl ?_
                refine O.nil ⟨(Ext.bare (Ext.new (Ext.refl (fun _ => True) _) e9 (fun _ _ _ => trivial))), ?_⟩
                obtain ⟨g71, cap71, hv71⟩ := OwnF.ptr (hrw.keep e9) (by omega)
                have ho71 := (hrw.keep e9)
                rw [hv71] at ho71
                refine D.take (i := 6) rfl rfl rfl rfl (by kernel_rfl) (Ext.bare (Ext.new (Ext.refl (fun _ => True) _) e9 (fun _ _ _ => trivial))) ⟨_, rfl⟩ (fun w_ hw_ N_ hN => (O.idxO Tryz.underlying26 Tryz.sizeOf56 (Eq.trans rfl hv71) (Eq.trans s5_4 s5_3) (by omega) (O.nil hN))) ?_
                refine D.take (i := 7) rfl rfl rfl rfl (by kernel_rfl) (Ext.bare (Ext.new (Ext.refl (fun _ => True) _) e9 (fun _ _ _ => trivial))) ⟨_, rfl⟩ (fun w_ hw_ N_ hN => (O.fieldAd Tryz.underlying56 rfl Tryz.sizeOf9 (by decide) rfl (O.nil hN))) ?_
                refine D.one (i := 8) rfl rfl (by kernel_rfl) ?_
                refine O.loadC (G := itemF) (i := i) (off := 0) (by simp [itemF]) Tryz.isAgg9 rfl ho71 (by omega) rfl ?_
                refine O.nil ⟨(Ext.bare (Ext.new (Ext.refl (fun _ => True) _) e9 (fun _ _ _ => trivial))), ?_⟩
                refine D.take (i := 9) rfl rfl rfl rfl (by kernel_rfl) (Ext.bare (Ext.new (Ext.refl (fun _ => True) _) e9 (fun _ _ _ => trivial))) ⟨_, rfl⟩ (fun w_ hw_ N_ hN => (O.addS rfl rfl (by have q9 := hK raw[i] (List.getElem_mem hi2); show raw[i].1.length + 1 ≤ _; omega) (O.nil hN))) ?_
                obtain ⟨g75, cap75, hv75⟩ := OwnF.ptr (hrw.keep e9) (by omega)
                have ho75 := (hrw.keep e9)
                rw [hv75] at ho75
                refine D.take (i := 10) rfl rfl rfl rfl (by kernel_rfl) (Ext.bare (Ext.new (Ext.refl (fun _ => True) _) e9 (fun _ _ _ => trivial))) ⟨_, rfl⟩ (fun w_ hw_ N_ hN => (O.idxO Tryz.underlying26 Tryz.sizeOf56 (Eq.trans rfl hv75) (Eq.trans s5_4 s5_3) (by omega) (O.nil hN))) ?_
                refine D.take (i := 11) rfl rfl rfl rfl (by kernel_rfl) (Ext.bare (Ext.new (Ext.refl (fun _ => True) _) e9 (fun _ _ _ => trivial))) ⟨_, rfl⟩ (fun w_ hw_ N_ hN => (O.fieldAd Tryz.underlying56 rfl Tryz.sizeOf9 (by decide) rfl (O.nil hN))) ?_
                refine D.one (i := 12) rfl rfl (by kernel_rfl) ?_
                refine O.storeS (G := itemF) (i := i) (off := 0) (by simp [itemF]) Tryz.sizeOf9 rfl rfl rfl ho75 (by omega) (by decide) (fun w10 cr10 hg10 hw10 e10 z10 => ?_)
                obtain ⟨hB75, hC75⟩ := hF g75 (hraw.2 g75 (by rw [hv75]; rfl))
                replace e10 : Ext (fun j => B0 ≤ j ∧ j < w.heap.size) w9 w10 := e10.mono (fun k _ hk => by have h0 : k = g75 := hk; subst h0; exact ⟨hB75, hC75⟩)
                have hste10 : Stn 51 56 53 w10 F p1 p2 p3 ps (K + i + 1) := by rw [hw10]; exact ((r1_4.keep e9)).setN (by decide) (by decide) (by have q9 := hK raw[i] (List.getElem_mem hi2); rw [List.length_append]; show raw[i].1.length + 1 ≤ _; omega) hg10
                refine O.nil ⟨(Ext.bare (Ext.new (Ext.new (Ext.refl (fun _ => True) _) e9 (fun _ _ _ => trivial)) e10 (fun _ _ _ => trivial))), ?_⟩
                refine D.done (by kernel_rfl) ?_
                refine hK21 _ _ ?_
                refine hK20 _ _ ?_
                refine C.region ?_
                refine O.mv ?_
                refine O.addI (Eq.trans s5_4 s5_3) rfl (by unfold InI; omega) ?_
                refine O.asg ?_
                refine O.nil ?_
                refine ⟨(i + 1), ⟨rfl, (Eq.trans s1_4 s1_3), (Ext.new (Ext.new (Ext.new (Ext.refl _ _) e_4 (by intro i hi hk; first | exact hk.elim | ((try dsimp only at hk); (try dsimp only); omega))) e9 (by intro i hi hk; first | exact hk.elim | ((try dsimp only at hk); (try dsimp only); omega))) e10 (by intro i hi hk; first | exact hk.elim | ((try dsimp only at hk); (try dsimp only); omega))), ((r0_4.keep e9).keepM e10 (by intro h; (try dsimp only at h); omega)), hste10, ?_⟩, by first | omega | (simp only []; omega)⟩
                omega
              ·
                refine D.stepU rfl rfl ?_
                refine O.loadO Tryz.isAgg26 rfl (r0_4.keep e9) rfl ?_
                refine O.nil ⟨(Ext.bare (Ext.new (Ext.refl (fun _ => True) _) e9 (fun _ _ _ => trivial))), ?_⟩
                obtain ⟨g71, cap71, hv71⟩ := OwnF.ptr (hrw.keep e9) (by omega)
                have ho71 := (hrw.keep e9)
                rw [hv71] at ho71
                refine D.take (i := 6) rfl rfl rfl rfl (by kernel_rfl) (Ext.bare (Ext.new (Ext.refl (fun _ => True) _) e9 (fun _ _ _ => trivial))) ⟨_, rfl⟩ (fun w_ hw_ N_ hN => (O.idxO Tryz.underlying26 Tryz.sizeOf56 (Eq.trans rfl hv71) (Eq.trans s5_4 s5_3) (by omega) (O.nil hN))) ?_
                refine D.take (i := 7) rfl rfl rfl rfl (by kernel_rfl) (Ext.bare (Ext.new (Ext.refl (fun _ => True) _) e9 (fun _ _ _ => trivial))) ⟨_, rfl⟩ (fun w_ hw_ N_ hN => (O.fieldAd Tryz.underlying56 rfl Tryz.sizeOf9 (by decide) rfl (O.nil hN))) ?_
                refine D.many [1, 8] (by kernel_rfl) (by decide) ⟨?_, ?_, trivial⟩
                ·
                  refine D.stepU rfl rfl ?_
                  refine O.loadO Tryz.isAgg26 rfl (r0_4.keep e9) rfl ?_
                  refine O.nil ⟨(Ext.bare (Ext.new (Ext.refl (fun _ => True) _) e9 (fun _ _ _ => trivial))), ?_⟩
                  refine D.one (i := 8) rfl rfl (by kernel_rfl) ?_
                  refine O.loadC (G := itemF) (i := i) (off := 0) (by simp [itemF]) Tryz.isAgg9 rfl ho71 (by omega) rfl ?_
                  refine O.nil ⟨(Ext.bare (Ext.new (Ext.refl (fun _ => True) _) e9 (fun _ _ _ => trivial))), ?_⟩
                  refine D.take (i := 9) rfl rfl rfl rfl (by kernel_rfl) (Ext.bare (Ext.new (Ext.refl (fun _ => True) _) e9 (fun _ _ _ => trivial))) ⟨_, rfl⟩ (fun w_ hw_ N_ hN => (O.addS rfl rfl (by have q9 := hK raw[i] (List.getElem_mem hi2); show raw[i].1.length + 1 ≤ _; omega) (O.nil hN))) ?_
                  obtain ⟨g75, cap75, hv75⟩ := OwnF.ptr (hrw.keep e9) (by omega)
                  have ho75 := (hrw.keep e9)
                  rw [hv75] at ho75
                  refine D.take (i := 10) rfl rfl rfl rfl (by kernel_rfl) (Ext.bare (Ext.new (Ext.refl (fun _ => True) _) e9 (fun _ _ _ => trivial))) ⟨_, rfl⟩ (fun w_ hw_ N_ hN => (O.idxO Tryz.underlying26 Tryz.sizeOf56 (Eq.trans rfl hv75) (Eq.trans s5_4 s5_3) (by omega) (O.nil hN))) ?_
                  refine D.take (i := 11) rfl rfl rfl rfl (by kernel_rfl) (Ext.bare (Ext.new (Ext.refl (fun _ => True) _) e9 (fun _ _ _ => trivial))) ⟨_, rfl⟩ (fun w_ hw_ N_ hN => (O.fieldAd Tryz.underlying56 rfl Tryz.sizeOf9 (by decide) rfl (O.nil hN))) ?_
                  refine D.one (i := 12) rfl rfl (by kernel_rfl) ?_
                  refine O.storeS (G := itemF) (i := i) (off := 0) (by simp [itemF]) Tryz.sizeOf9 rfl rfl rfl ho75 (by omega) (by decide) (fun w11 cr11 hg11 hw11 e11 z11 => ?_)
                  obtain ⟨hB75, hC75⟩ := hF g75 (hraw.2 g75 (by rw [hv75]; rfl))
                  replace e11 : Ext (fun j => B0 ≤ j ∧ j < w.heap.size) w9 w11 := e11.mono (fun k _ hk => by have h0 : k = g75 := hk; subst h0; exact ⟨hB75, hC75⟩)
                  have hste11 : Stn 51 56 53 w11 F p1 p2 p3 ps (K + i + 1) := by rw [hw11]; exact ((r1_4.keep e9)).setN (by decide) (by decide) (by have q9 := hK raw[i] (List.getElem_mem hi2); rw [List.length_append]; show raw[i].1.length + 1 ≤ _; omega) hg11
                  refine O.nil ⟨(Ext.bare (Ext.new (Ext.new (Ext.refl (fun _ => True) _) e9 (fun _ _ _ => trivial)) e11 (fun _ _ _ => trivial))), ?_⟩
                  refine D.done (by kernel_rfl) ?_
                  refine hK21 _ _ ?_
                  refine hK20 _ _ ?_
                  refine C.region ?_
                  refine O.mv ?_
                  refine O.addI (Eq.trans s5_4 s5_3) rfl (by unfold InI; omega) ?_
                  refine O.asg ?_
                  refine O.nil ?_
                  refine ⟨(i + 1), ⟨rfl, (Eq.trans s1_4 s1_3), (Ext.new (Ext.new (Ext.new (Ext.refl _ _) e_4 (by intro i hi hk; first | exact hk.elim | ((try dsimp only at hk); (try dsimp only); omega))) e9 (by intro i hi hk; first | exact hk.elim | ((try dsimp only at hk); (try dsimp only); omega))) e11 (by intro i hi hk; first | exact hk.elim | ((try dsimp only at hk); (try dsimp only); omega))), ((r0_4.keep e9).keepM e11 (by intro h; (try dsimp only at h); omega)), hste11, ?_⟩, by first | omega | (simp only []; omega)⟩
                  omega
                ·
                  refine D.stepU rfl rfl ?_
                  refine O.loadC (G := itemF) (i := i) (off := 0) (by simp [itemF]) Tryz.isAgg9 rfl ho71 (by omega) rfl ?_
                  refine O.nil ⟨(Ext.bare (Ext.new (Ext.refl (fun _ => True) _) e9 (fun _ _ _ => trivial))), ?_⟩
                  refine D.take (i := 9) rfl rfl rfl rfl (by kernel_rfl) (Ext.bare (Ext.new (Ext.refl (fun _ => True) _) e9 (fun _ _ _ => trivial))) ⟨_, rfl⟩ (fun w_ hw_ N_ hN => (O.addS rfl rfl (by have q9 := hK raw[i] (List.getElem_mem hi2); show raw[i].1.length + 1 ≤ _; omega) (O.nil hN))) ?_
                  refine D.one (i := 1) rfl rfl (by kernel_rfl) ?_
                  refine O.loadO Tryz.isAgg26 rfl (r0_4.keep e9) rfl ?_
                  refine O.nil ⟨(Ext.bare (Ext.new (Ext.refl (fun _ => True) _) e9 (fun _ _ _ => trivial))), ?_⟩
                  obtain ⟨g75, cap75, hv75⟩ := OwnF.ptr (hrw.keep e9) (by omega)
                  have ho75 := (hrw.keep e9)
                  rw [hv75] at ho75
                  refine D.take (i := 10) rfl rfl rfl rfl (by kernel_rfl) (Ext.bare (Ext.new (Ext.refl (fun _ => True) _) e9 (fun _ _ _ => trivial))) ⟨_, rfl⟩ (fun w_ hw_ N_ hN => (O.idxO Tryz.underlying26 Tryz.sizeOf56 (Eq.trans rfl hv75) (Eq.trans s5_4 s5_3) (by omega) (O.nil hN))) ?_
                  refine D.take (i := 11) rfl rfl rfl rfl (by kernel_rfl) (Ext.bare (Ext.new (Ext.refl (fun _ => True) _) e9 (fun _ _ _ => trivial))) ⟨_, rfl⟩ (fun w_ hw_ N_ hN => (O.fieldAd Tryz.underlying56 rfl Tryz.sizeOf9 (by decide) rfl (O.nil hN))) ?_
                  refine D.one (i := 12) rfl rfl (by kernel_rfl) ?_
                  refine O.storeS (G := itemF) (i := i) (off := 0) (by simp [itemF]) Tryz.sizeOf9 rfl rfl rfl ho75 (by omega) (by decide) (fun w12 cr12 hg12 hw12 e12 z12 => ?_)
                  obtain ⟨hB75, hC75⟩ := hF g75 (hraw.2 g75 (by rw [hv75]; rfl))
                  replace e12 : Ext (fun j => B0 ≤ j ∧ j < w.heap.size) w9 w12 := e12.mono (fun k _ hk => by have h0 : k = g75 := hk; subst h0; exact ⟨hB75, hC75⟩)
                  have hste12 : Stn 51 56 53 w12 F p1 p2 p3 ps (K + i + 1) := by rw [hw12]; exact ((r1_4.keep e9)).setN (by decide) (by decide) (by have q9 := hK raw[i] (List.getElem_mem hi2); rw [List.length_append]; show raw[i].1.length + 1 ≤ _; omega) hg12
                  refine O.nil ⟨(Ext.bare (Ext.new (Ext.new (Ext.refl (fun _ => True) _) e9 (fun _ _ _ => trivial)) e12 (fun _ _ _ => trivial))), ?_⟩
                  refine D.done (by kernel_rfl) ?_
                  refine hK21 _ _ ?_
                  refine hK20 _ _ ?_
                  refine C.region ?_
                  refine O.mv ?_
                  refine O.addI (Eq.trans s5_4 s5_3) rfl (by unfold InI; omega) ?_
                  refine O.asg ?_
                  refine O.nil ?_
                  refine ⟨(i + 1), ⟨rfl, (Eq.trans s1_4 s1_3), (Ext.new (Ext.new (Ext.new (Ext.refl _ _) e_4 (by intro i hi hk; first | exact hk.elim | ((try dsimp only at hk); (try dsimp only); omega))) e9 (by intro i hi hk; first | exact hk.elim | ((try dsimp only at hk); (try dsimp only); omega))) e12 (by intro i hi hk; first | exact hk.elim | ((try dsimp only at hk); (try dsimp only); omega))), ((r0_4.keep e9).keepM e12 (by intro h; (try dsimp only at h); omega)), hste12, ?_⟩, by first | omega | (simp only []; omega)⟩
                  omega
        ·
          refine C.exit ?_
          refine hK17 _ _ ?_
          refine Outs.none rfl ?_
          exact ⟨rfl, (Ext.new (Ext.refl _ _) e_3 (by intro i hi hk; first | exact hk.elim | ((try dsimp only at hk); (try dsimp only); omega)))⟩

end Go.Proofs.YtnkcmaoaagnopaaGreatDoor
end
section
/-
  The walk of the law of reading: both readers agree, and what was read may be written over. Conditions: slices as they lie in memory.
-/
namespace Go.Proofs.YtnkcmaoaagnopaaGreatDoor
open Go.Pn Go.RowKit Go.Proofs
attribute [local irreducible] O C D

theorem is_spec (v0 : Value) (l : List UInt8) (F : Nat → Prop) (vb1 vb2 vb3 : Value) (b : Cn.Cart) (Fb : Nat → Prop) (g : Bool) (w : World) (hl : Sl byteE w F v0 l) (hL : l.length ≤ 1000000) (hF : ∀ j, F j → j < w.heap.size) (mx : Mx w) (hbv : Sl Dt.dotF.enc w Fb vb1 b.1.1) (hbc : Sl Dt.dotF.enc w Fb vb2 b.1.2) (hbi : Sl itemE w Fb vb3 b.2) (hFb : ∀ k, Fb k → k < w.heap.size) (hr : Cn.CartRes l (if g then b else Cn.nil0) (if g then 0 else 12)) :
    Ret Tryz.prog 35 #[v0, .agg #[vb1, vb2, vb3], .bool g] w (fun v w' => v = .bool true ∧ Le w w') := by
  cases g
  · exact isN_spec v0 l F vb1 vb2 vb3 b Fb w hl hL hF mx hbv hbc hbi hFb hr
  · exact isY_spec v0 l F vb1 vb2 vb3 b Fb w hl hL hF mx hbv hbc hbi hFb hr
set_option maxHeartbeats 8000000 in
theorem right_spec (p0 : Option Addr × Nat × Nat) (l : List UInt8) (F : Nat → Prop) (w : World) (hl : Sl byteE w F (slv p0) l) (hL9 : l.length ≤ 900000) (hF : ∀ j, F j → j < w.heap.size) (mx : Mx w) :
    Ret Tryz.prog 30 #[slv p0] w (fun v w' => v = .bool true ∧ Le w w') := by
  obtain ⟨ie5, ti5, ts5, tb5, tz5⟩ := inf5
  have hL : l.length ≤ 1000000 := by omega
  have hll := hl.le
  have hgl := mx.lt
  have _hF9 := hF
  refine enter (args := [slv p0]) (n := 83) Tryz.func30 rfl rfl (Nat.le_of_ble_eq_true rfl) ?_
  refine C.seqK fun K1 hK1 => ?_
  refine C.region ?_
  refine O.asg ?_
  refine O.nil ?_
  refine hK1 _ _ ?_
  refine C.seqK fun K2 hK2 => ?_
  refine C.region ?_
  refine O.mv ?_
  refine O.appF (G := byteF) Tryz.underlying32 ti5 tz5 ts5 rfl rfl rfl (OwnF.nil _ _ _ _) hl (by rw [tb5]; simp; omega) (by unfold maxLen; simp; omega) (Nat.le_refl _) (fun v12 w1 h12 e1 => ?_)
  replace e1 : Le w w1 := e1.mono (fun _ _ h => h)
  have z1 := e1.size
  have h12s := h12.sl
  replace h12 : OwnF byteF 5 w.heap.size w1 v12 l := h12
  have h12b := h12.bk_ge
  replace h12s := h12.sl
  refine O.asg ?_
  refine O.nil ?_
  refine hK2 _ _ ?_
  refine C.seqK fun K3 hK3 => ?_
  refine C.region ?_
  refine O.mv ?_
  refine O.call Tryz.call54 (args1 rfl) (xprefix_spec p0 l F _ (hl.keep e1) hL9 (fun j hj => by have q1 := hF j hj; omega)) ?_
  rintro v_15 w2 ⟨vav15, vbv15, vcv15, cv15, knv15, fv15, rfl, hxv15, hyv15, hzv15, hgv15, hrv15, e2⟩
  have z2 := e2.size
  obtain ⟨p1, rfl⟩ := hxv15.slv
  obtain ⟨p2, rfl⟩ := hyv15.slv
  obtain ⟨p3, rfl⟩ := hzv15.slv
  obtain ⟨hg1, hg2, hg3, hg4⟩ := hgv15
  refine O.mv ?_
  refine O.extract rfl rfl ?_
  refine O.extract rfl rfl ?_
  refine O.extract rfl rfl ?_
  refine O.alloc Tryz.zeroValue28 (fun b4 w3 hb4 hz4 e3 => ?_)
  have z3 := e3.size
  have h4 := hz4.own
  have hl4 := h4.lt
  refine O.storeA (vs := [slv p1, slv p2, slv p3]) Tryz.sizeOf28 rfl rfl rfl (by simp [slv, Value.oneCell']) h4 (Nat.le_of_ble_eq_true rfl) (fun w4 hs4 e4 z4 => ?_)
  refine O.asg ?_
  refine O.asg ?_
  refine O.nil ?_
  refine hK3 _ _ ?_
  refine C.seqK fun K4 hK4 => ?_
  refine C.join (fun f w f' w' => Le w w' ∧ f' 0 = f 0 ∧ f' 2 = f 2 ∧ f' 3 = f 3 ∧ f' 4 = f 4 ∧ f' 5 = f 5 ∧ f' 6 = .bool (decide (fv15 = true ∧ Cn.valid cv15 = true))) ?_ ?_
  ·
    refine C.region ?_
    refine O.mv ?_
    refine O.mv ?_
    refine O.split (x := .tmp 20) rfl (fun c20 => ?_) (fun c20 => ?_)
    ·
      refine O.yes rfl (isT' rfl c20) ?_
      refine O.loadOA Tryz.isAgg28 Tryz.sizeOf28 rfl hs4 (Nat.le_of_ble_eq_true rfl) ?_
      refine O.yes rfl (isT' rfl c20) ?_
      refine O.call Tryz.call19 (args1 rfl) (cartValid_spec (slv p1) (slv p2) (slv p3) cv15 _ _ ((hxv15.keep e3).keepM e4 (by intro k hk h; first | (have q1 := hF k hk; (try dsimp only at h); omega) | (have q1 := hF2 k hk; (try dsimp only at h); omega) | (have q1 := hFb k hk; (try dsimp only at h); omega) | ((try dsimp only at hk); (try dsimp only at h); omega))) ((hyv15.keep e3).keepM e4 (by intro k hk h; first | (have q1 := hF k hk; (try dsimp only at h); omega) | (have q1 := hF2 k hk; (try dsimp only at h); omega) | (have q1 := hFb k hk; (try dsimp only at h); omega) | ((try dsimp only at hk); (try dsimp only at h); omega))) ((hzv15.keep e3).keepM e4 (by intro k hk h; first | (have q1 := hF k hk; (try dsimp only at h); omega) | (have q1 := hF2 k hk; (try dsimp only at h); omega) | (have q1 := hFb k hk; (try dsimp only at h); omega) | ((try dsimp only at hk); (try dsimp only at h); omega))) (fun j hj => by have q1 := hj.2; omega) hg3 hg4 (mx.keep (Ext.new (Ext.trans (Ext.trans e1 e2) e3) e4 (by rintro i hi rfl; omega)))) ?_
      rintro v_22 w5 ⟨rfl, e5⟩
      have z5 := e5.size
      refine O.pickT (isT' rfl c20) ?_
      refine O.asg ?_
      refine O.nil ?_
      exact ⟨e5, rfl, rfl, rfl, rfl, rfl, (Eq.trans rfl (congrArg Value.bool (by first | (have q9 : fv15 = _ := ‹_›; simp [q9]) | simp_all)))⟩
    ·
      refine O.no rfl (noB (isF' rfl c20) rfl) ?_
      refine O.no rfl (noB (isF' rfl c20) rfl) ?_
      refine O.pickF (isF' rfl c20) ?_
      refine O.asg ?_
      refine O.nil ?_
      exact ⟨(Le.refl _), rfl, rfl, rfl, rfl, rfl, (Eq.trans rfl (congrArg Value.bool (by first | (have q9 : fv15 = _ := ‹_›; simp [q9]) | simp_all)))⟩
  ·
    rintro f_1 w6 ⟨e_1, s0_1, s2_1, s3_1, s4_1, s5_1, s6_1⟩
    have z_1 := e_1.size
    refine hK4 _ _ ?_
    refine C.seqK fun K5 hK5 => ?_
    refine C.seqK fun K6 hK6 => ?_
    refine C.region ?_
    refine O.mv ?_
    refine O.loadOA Tryz.isAgg28 Tryz.sizeOf28 s4_1 (hs4.keep e_1) (Nat.le_of_ble_eq_true rfl) ?_
    refine O.mv ?_
    refine O.mv ?_
    refine O.cut 5 (fun f f' => f' 32 = .bool (decide ((fv15 = true ∧ Cn.valid cv15 = true) ∧ (knv15 : Int) = (l.length : Int))) ∧ f' 0 = f 0 ∧ f' 2 = f 2 ∧ f' 3 = f 3 ∧ f' 4 = f 4 ∧ f' 5 = f 5 ∧ f' 6 = f 6 ∧ f' 24 = f 24 ∧ f' 25 = f 25) ?_ ?_
    ·
      refine O.splitD (x := .tmp 27) s6_1 (fun c27 => ?_) (fun c27 => ?_)
      ·
        refine O.yes rfl (isT s6_1 c27) ?_
        refine O.mv ?_
        refine O.yes rfl (isT s6_1 c27) ?_
        refine O.mv ?_
        refine O.yes rfl (isT s6_1 c27) ?_
        refine O.len Tryz.underlying32 s0_1 (hl.keep (Ext.trans (Ext.new (Ext.trans (Ext.trans e1 e2) e3) e4 (by rintro i hi rfl; omega)) e_1)) ?_
        refine O.yes rfl (isT s6_1 c27) ?_
        refine O.eqlI s5_1 rfl ?_
        refine O.pickT (isT s6_1 c27) ?_
        refine O.nil ?_
        refine ⟨⟨?_, rfl, rfl, rfl, rfl, rfl, rfl, rfl, rfl⟩, rfl⟩
        first | exact rfl | exact Eq.trans rfl (congrArg Value.bool (dAnd (by assumption))) | exact Eq.trans rfl (congrArg Value.bool (dAndF (by assumption))) | exact Eq.trans rfl (congrArg Value.bool (dOr (by assumption))) | exact Eq.trans rfl (congrArg Value.bool (dOrT (by assumption)))
      ·
        refine O.no rfl (noB (isF s6_1 c27) rfl) ?_
        refine O.no rfl (noB (isF s6_1 c27) rfl) ?_
        refine O.no rfl (noB (isF s6_1 c27) rfl) ?_
        refine O.no rfl (noB (isF s6_1 c27) rfl) ?_
        refine O.pickF (isF s6_1 c27) ?_
        refine O.nil ?_
        refine ⟨⟨?_, rfl, rfl, rfl, rfl, rfl, rfl, rfl, rfl⟩, rfl⟩
        first | exact rfl | exact Eq.trans rfl (congrArg Value.bool (dAnd (by assumption))) | exact Eq.trans rfl (congrArg Value.bool (dAndF (by assumption))) | exact Eq.trans rfl (congrArg Value.bool (dOr (by assumption))) | exact Eq.trans rfl (congrArg Value.bool (dOrT (by assumption)))
    ·
      rintro f_2 ⟨s32_2, s0_2, s2_2, s3_2, s4_2, s5_2, s6_2, s24_2, s25_2⟩
      refine O.call Tryz.call35 (args3 (Eq.trans s24_2 s3_1) s25_2 s32_2) (is_spec v12 l (bk v12) (slv p1) (slv p2) (slv p3) cv15 _ _ _ ((((h12s.keep e2).keep e3).keepM e4 (fun k hk h => by have := h12.bk_ge k hk; (try dsimp only at h); omega)).keep e_1) hL (fun j hj => by have q1 := h12b j hj; omega) (mx.keep (Ext.trans (Ext.new (Ext.trans (Ext.trans e1 e2) e3) e4 (by rintro i hi rfl; omega)) e_1)) (((hxv15.keep e3).keepM e4 (by intro k hk h; first | (have q1 := hF k hk; (try dsimp only at h); omega) | (have q1 := hF2 k hk; (try dsimp only at h); omega) | (have q1 := hFb k hk; (try dsimp only at h); omega) | ((try dsimp only at hk); (try dsimp only at h); omega))).keep e_1) (((hyv15.keep e3).keepM e4 (by intro k hk h; first | (have q1 := hF k hk; (try dsimp only at h); omega) | (have q1 := hF2 k hk; (try dsimp only at h); omega) | (have q1 := hFb k hk; (try dsimp only at h); omega) | ((try dsimp only at hk); (try dsimp only at h); omega))).keep e_1) (((hzv15.keep e3).keepM e4 (by intro k hk h; first | (have q1 := hF k hk; (try dsimp only at h); omega) | (have q1 := hF2 k hk; (try dsimp only at h); omega) | (have q1 := hFb k hk; (try dsimp only at h); omega) | ((try dsimp only at hk); (try dsimp only at h); omega))).keep e_1) (fun j hj => by have q1 := hj.2; omega) (hrv15.res rfl)) ?_
      rintro v_33 w7 ⟨rfl, e7⟩
      have z7 := e7.size
      refine O.not rfl ?_
      refine O.cast (v' := .bool false) rfl ?_
      refine O.nil ?_
      refine hK6 _ _ ?_
      refine C.condF rfl ?_
      refine C.skip ?_
      refine hK5 _ _ ?_
      refine C.seqK fun K7 hK7 => ?_
      refine C.seqK fun K8 hK8 => ?_
      refine C.join (fun f w f' w' => Le w w' ∧ f' 0 = f 0 ∧ f' 2 = f 2 ∧ f' 3 = f 3 ∧ f' 52 = .bool false) ?_ ?_
      ·
        refine C.region ?_
        refine O.mv ?_
        refine O.mv ?_
        refine O.splitD (x := .tmp 36) (Eq.trans s6_2 s6_1) (fun c36 => ?_) (fun c36 => ?_)
        ·
          refine O.yes rfl (isT (Eq.trans s6_2 s6_1) c36) ?_
          refine O.mv ?_
          refine O.yes rfl (isT (Eq.trans s6_2 s6_1) c36) ?_
          refine O.loadOA Tryz.isAgg28 Tryz.sizeOf28 (Eq.trans s4_2 s4_1) ((hs4.keep e_1).keep e7) (Nat.le_of_ble_eq_true rfl) ?_
          refine O.yes rfl (isT (Eq.trans s6_2 s6_1) c36) ?_
          refine O.mv ?_
          refine O.yes rfl (isT (Eq.trans s6_2 s6_1) c36) ?_
          refine O.call Tryz.call36 (args4 (Eq.trans s3_2 s3_1) rfl (Eq.trans s5_2 s5_1) rfl) (begins_spec v12 l (bk v12) (slv p1) (slv p2) (slv p3) cv15 _ knv15 0 _ (((((h12s.keep e2).keep e3).keepM e4 (fun k hk h => by have := h12.bk_ge k hk; (try dsimp only at h); omega)).keep e_1).keep e7) hL (fun j hj => by have q1 := h12b j hj; omega) (mx.keep (Ext.trans (Ext.trans (Ext.new (Ext.trans (Ext.trans e1 e2) e3) e4 (by rintro i hi rfl; omega)) e_1) e7)) ((((hxv15.keep e3).keepM e4 (by intro k hk h; first | (have q1 := hF k hk; (try dsimp only at h); omega) | (have q1 := hF2 k hk; (try dsimp only at h); omega) | (have q1 := hFb k hk; (try dsimp only at h); omega) | ((try dsimp only at hk); (try dsimp only at h); omega))).keep e_1).keep e7) ((((hyv15.keep e3).keepM e4 (by intro k hk h; first | (have q1 := hF k hk; (try dsimp only at h); omega) | (have q1 := hF2 k hk; (try dsimp only at h); omega) | (have q1 := hFb k hk; (try dsimp only at h); omega) | ((try dsimp only at hk); (try dsimp only at h); omega))).keep e_1).keep e7) ((((hzv15.keep e3).keepM e4 (by intro k hk h; first | (have q1 := hF k hk; (try dsimp only at h); omega) | (have q1 := hF2 k hk; (try dsimp only at h); omega) | (have q1 := hFb k hk; (try dsimp only at h); omega) | ((try dsimp only at hk); (try dsimp only at h); omega))).keep e_1).keep e7) (fun j hj => by have q1 := hj.2; omega) (hrv15.pref c36)) ?_
          rintro v_40 w8 ⟨rfl, e8⟩
          have z8 := e8.size
          refine O.yes rfl (isT (Eq.trans s6_2 s6_1) c36) ?_
          refine O.not rfl ?_
          refine O.cast (v' := .bool false) rfl ?_
          refine O.pickT (isT (Eq.trans s6_2 s6_1) c36) ?_
          refine O.mv ?_
          refine O.yes rfl rfl ?_
          refine O.mv ?_
          refine O.yes rfl rfl ?_
          refine O.not (Eq.trans s6_2 s6_1) ?_
          refine O.yes rfl rfl ?_
          refine O.mv ?_
          refine O.split (x := .tmp 46) rfl (fun c46 => ?_) (fun c46 => ?_)
          ·
            exfalso; simp [c36] at c46
          ·
            refine O.no rfl (noB (isF' rfl c46) rfl) ?_
            refine O.no rfl (noB (isF' rfl c46) rfl) ?_
            refine O.no rfl (noB (isF' rfl c46) rfl) ?_
            refine O.no rfl (noB (isF' rfl c46) rfl) ?_
            refine O.yes rfl rfl ?_
            refine O.pickF (isF' rfl c46) ?_
            refine O.pickF rfl ?_
            refine O.nil ?_
            exact ⟨e8, rfl, rfl, rfl, rfl⟩
        ·
          refine O.no rfl (noB (isF (Eq.trans s6_2 s6_1) c36) rfl) ?_
          refine O.no rfl (noB (isF (Eq.trans s6_2 s6_1) c36) rfl) ?_
          refine O.no rfl (noB (isF (Eq.trans s6_2 s6_1) c36) rfl) ?_
          refine O.no rfl (noB (isF (Eq.trans s6_2 s6_1) c36) rfl) ?_
          refine O.no rfl (noB (isF (Eq.trans s6_2 s6_1) c36) rfl) ?_
          refine O.pickF (isF (Eq.trans s6_2 s6_1) c36) ?_
          refine O.mv ?_
          refine O.yes rfl rfl ?_
          refine O.mv ?_
          refine O.yes rfl rfl ?_
          refine O.not (Eq.trans s6_2 s6_1) ?_
          refine O.yes rfl rfl ?_
          refine O.mv ?_
          refine O.split (x := .tmp 46) rfl (fun c46 => ?_) (fun c46 => ?_)
          ·
            refine O.yes rfl (isT' rfl c46) ?_
            refine O.mv ?_
            refine O.yes rfl (isT' rfl c46) ?_
            refine O.build (cells := #[.slice none 0 0, .slice none 0 0, .slice none 0 0]) rfl (by kernel_rfl) ?_
            refine O.yes rfl (isT' rfl c46) ?_
            refine O.call Tryz.call36 (args4 (Eq.trans s3_2 s3_1) rfl rfl rfl) (begins_spec v12 l (bk v12) (.slice none 0 0) (.slice none 0 0) (.slice none 0 0) Cn.nil0 (fun _ => False) 0 12 _ (((((h12s.keep e2).keep e3).keepM e4 (fun k hk h => by have := h12.bk_ge k hk; (try dsimp only at h); omega)).keep e_1).keep e7) hL (fun j hj => by have q1 := h12b j hj; omega) (mx.keep (Ext.trans (Ext.trans (Ext.new (Ext.trans (Ext.trans e1 e2) e3) e4 (by rintro i hi rfl; omega)) e_1) e7)) (Sl.nil _ _ _) (Sl.nil _ _ _) (Sl.nil _ _ _) (fun _ h => h.elim) (.inr ⟨rfl, rfl, rfl, hrv15.none c36⟩)) ?_
            rintro v_49 w9 ⟨rfl, e9⟩
            have z9 := e9.size
            refine O.yes rfl (isT' rfl c46) ?_
            refine O.not rfl ?_
            refine O.cast (v' := .bool false) rfl ?_
            refine O.yes rfl rfl ?_
            refine O.pickT (isT' rfl c46) ?_
            refine O.pickF rfl ?_
            refine O.nil ?_
            exact ⟨e9, rfl, rfl, rfl, rfl⟩
          ·
            exfalso; simp [c36] at c46
      ·
        rintro f_3 w10 ⟨e_3, s0_3, s2_3, s3_3, s52_3⟩
        have z_3 := e_3.size
        refine hK8 _ _ ?_
        refine C.condF s52_3 ?_
        refine C.skip ?_
        refine hK7 _ _ ?_
        refine C.seqK fun K9 hK9 => ?_
        refine C.region ?_
        refine O.mv ?_
        refine O.call Tryz.call55 (args1 (Eq.trans s0_3 (Eq.trans s0_2 s0_1))) (xcontext_spec p0 l F _ (hl.keep (Ext.trans (Ext.trans (Ext.trans (Ext.new (Ext.trans (Ext.trans e1 e2) e3) e4 (by rintro i hi rfl; omega)) e_1) e7) e_3)) hL9 (fun j hj => by have q1 := hF j hj; omega)) ?_
        rintro v_55 w11 ⟨vav55, vbv55, xv55, fv55, rfl, hxv55, hyv55, hnv55, hrv55, e11⟩
        have z11 := e11.size
        obtain ⟨q1, rfl⟩ := hxv55.slv
        obtain ⟨q2, rfl⟩ := hyv55.slv
        refine O.mv ?_
        refine O.extract rfl rfl ?_
        refine O.extract rfl rfl ?_
        refine O.alloc Tryz.zeroValue25 (fun b7 w12 hb7 hz7 e12 => ?_)
        have z12 := e12.size
        have h7 := hz7.own
        have hl7 := h7.lt
        refine O.storeA (vs := [slv q1, slv q2]) Tryz.sizeOf25 rfl rfl rfl (by simp [slv, Value.oneCell']) h7 (Nat.le_of_ble_eq_true rfl) (fun w13 hs13 e13 z13 => ?_)
        refine O.asg ?_
        refine O.nil ?_
        refine hK9 _ _ ?_
        refine C.seqK fun K10 hK10 => ?_
        refine C.seqK fun K11 hK11 => ?_
        refine C.join (fun f w f' w' => Le w w' ∧ f' 0 = f 0 ∧ f' 2 = f 2 ∧ f' 3 = f 3 ∧ f' 7 = f 7 ∧ f' 62 = .bool (decide (fv55 = true ∧ Cn.isCompact xv55 = true))) ?_ ?_
        ·
          refine C.region ?_
          refine O.mv ?_
          refine O.mv ?_
          refine O.split (x := .tmp 59) rfl (fun c59 => ?_) (fun c59 => ?_)
          ·
            refine O.yes rfl (isT' rfl c59) ?_
            refine O.loadOA Tryz.isAgg25 Tryz.sizeOf25 rfl hs13 (Nat.le_of_ble_eq_true rfl) ?_
            refine O.yes rfl (isT' rfl c59) ?_
            refine O.call Tryz.call17 (args1 rfl) (isCompact_spec (slv q1) (slv q2) xv55 _ _ ((hxv55.keep e12).keepM e13 (by intro k hk h; first | (have q1 := hF k hk; (try dsimp only at h); omega) | (have q1 := hF2 k hk; (try dsimp only at h); omega) | (have q1 := hFb k hk; (try dsimp only at h); omega) | ((try dsimp only at hk); (try dsimp only at h); omega))) ((hyv55.keep e12).keepM e13 (by intro k hk h; first | (have q1 := hF k hk; (try dsimp only at h); omega) | (have q1 := hF2 k hk; (try dsimp only at h); omega) | (have q1 := hFb k hk; (try dsimp only at h); omega) | ((try dsimp only at hk); (try dsimp only at h); omega)))) ?_
            rintro v_61 w14 ⟨rfl, e14⟩
            have z14 := e14.size
            refine O.pickT (isT' rfl c59) ?_
            refine O.nil ?_
            exact ⟨e14, rfl, rfl, rfl, rfl, (Eq.trans rfl (congrArg Value.bool (by first | (have q9 : fv55 = _ := ‹_›; simp [q9]) | simp_all)))⟩
          ·
            refine O.no rfl (noB (isF' rfl c59) rfl) ?_
            refine O.no rfl (noB (isF' rfl c59) rfl) ?_
            refine O.pickF (isF' rfl c59) ?_
            refine O.nil ?_
            exact ⟨(Le.refl _), rfl, rfl, rfl, rfl, (Eq.trans rfl (congrArg Value.bool (by first | (have q9 : fv55 = _ := ‹_›; simp [q9]) | simp_all)))⟩
        ·
          rintro f_4 w15 ⟨e_4, s0_4, s2_4, s3_4, s7_4, s62_4⟩
          have z_4 := e_4.size
          refine hK11 _ _ ?_
          refine C.condD s62_4 (fun c62 => ?_) (fun c62 => ?_)
          ·
            refine C.seqK fun K12 hK12 => ?_
            refine C.region ?_
            refine O.mv ?_
            refine O.loadOA Tryz.isAgg25 Tryz.sizeOf25 s7_4 (hs13.keep e_4) (Nat.le_of_ble_eq_true rfl) ?_
            refine O.call Tryz.call53 (args3 (Eq.trans s3_4 (Eq.trans s3_3 (Eq.trans s3_2 s3_1))) rfl rfl) (wseen_spec v12 l (bk v12) (slv q1) (slv q2) xv55 _ 0 _ ((((((((((h12s.keep e2).keep e3).keepM e4 (fun k hk h => by have := h12.bk_ge k hk; (try dsimp only at h); omega)).keep e_1).keep e7).keep e_3).keep e11).keep e12).keepM e13 (fun k hk h => by have := h12.bk_ge k hk; (try dsimp only at h); omega)).keep e_4) hL (fun j hj => by have q1 := h12b j hj; omega) (mx.keep (Ext.trans (Ext.new (Ext.trans (Ext.trans (Ext.trans (Ext.trans (Ext.trans (Ext.new (Ext.trans (Ext.trans e1 e2) e3) e4 (by rintro i hi rfl; omega)) e_1) e7) e_3) e11) e12) e13 (by rintro i hi rfl; omega)) e_4)) (((hxv55.keep e12).keepM e13 (by intro k hk h; first | (have q1 := hF k hk; (try dsimp only at h); omega) | (have q1 := hF2 k hk; (try dsimp only at h); omega) | (have q1 := hFb k hk; (try dsimp only at h); omega) | ((try dsimp only at hk); (try dsimp only at h); omega))).keep e_4) (((hyv55.keep e12).keepM e13 (by intro k hk h; first | (have q1 := hF k hk; (try dsimp only at h); omega) | (have q1 := hF2 k hk; (try dsimp only at h); omega) | (have q1 := hFb k hk; (try dsimp only at h); omega) | ((try dsimp only at hk); (try dsimp only at h); omega))).keep e_4) (fun j hj => by have q1 := hj.2; omega) (hrv55.yes c62)) ?_
            rintro v_65 w16 ⟨rfl, e16⟩
            have z16 := e16.size
            refine O.not rfl ?_
            refine O.cast (v' := .bool false) rfl ?_
            refine O.nil ?_
            refine hK12 _ _ ?_
            refine C.condF rfl ?_
            refine C.skip ?_
            refine hK10 _ _ ?_
            refine C.seqK fun K13 hK13 => ?_
            refine C.region ?_
            refine O.mv ?_
            refine O.call Tryz.call34 (args1 (Eq.trans s3_4 (Eq.trans s3_3 (Eq.trans s3_2 s3_1)))) (dcart_spec v12 l (bk v12) _ (((((((((((h12s.keep e2).keep e3).keepM e4 (fun k hk h => by have := h12.bk_ge k hk; (try dsimp only at h); omega)).keep e_1).keep e7).keep e_3).keep e11).keep e12).keepM e13 (fun k hk h => by have := h12.bk_ge k hk; (try dsimp only at h); omega)).keep e_4).keep e16) hL (fun j hj => by have q1 := h12b j hj; omega) (mx.keep (Ext.trans (Ext.trans (Ext.new (Ext.trans (Ext.trans (Ext.trans (Ext.trans (Ext.trans (Ext.new (Ext.trans (Ext.trans e1 e2) e3) e4 (by rintro i hi rfl; omega)) e_1) e7) e_3) e11) e12) e13 (by rintro i hi rfl; omega)) e_4) e16))) ?_
            rintro v_73 w17 ⟨vav73, vbv73, vcv73, cv73, env73, rfl, hxv73, hyv73, hzv73, hgv73, hpv73, e17⟩
            have z17 := e17.size
            obtain ⟨hg1, hg2, hg3, hg4⟩ := hgv73
            obtain ⟨a1, a2, a3, ps, rfl, rfl, rfl, hst⟩ := Stn.of hxv73 hyv73 hzv73 (fun x hx => (hg4 x hx).1)
            have hal : a3.2.1 ≤ 1000000 := by obtain ⟨raw, hraw, hps, _⟩ := hzv73; rw [hraw.len, hps]; exact hg3
            refine O.mv ?_
            refine O.extract rfl rfl ?_
            refine O.extract rfl rfl ?_
            refine O.alloc Tryz.zeroValue28 (fun b9 w18 hb9 hz9 e18 => ?_)
            have z18 := e18.size
            have h9 := hz9.own
            have hl9 := h9.lt
            refine O.storeA (vs := [slv a1, slv a2, slv a3]) Tryz.sizeOf28 rfl rfl rfl (by simp [slv, Value.oneCell']) h9 (Nat.le_of_ble_eq_true rfl) (fun w19 hs19 e19 z19 => ?_)
            refine O.asg ?_
            refine O.nil ?_
            refine hK13 _ _ ?_
            refine C.seqK fun K14 hK14 => ?_
            refine C.region ?_
            refine O.loadOA Tryz.isAgg28 Tryz.sizeOf28 rfl hs19 (Nat.le_of_ble_eq_true rfl) ?_
            refine O.call Tryz.call56 (args1 rfl) (stain_spec a1 a2 a3 ps _ _ _ ((hst.keep e18).keepM e19 (by intro k hk h; first | (have q1 := hF k hk; (try dsimp only at h); omega) | (have q1 := hF2 k hk; (try dsimp only at h); omega) | (have q1 := hFb k hk; (try dsimp only at h); omega) | ((try dsimp only at hk); (try dsimp only at h); omega))) (fun j hj => ⟨hj.1, by have q1 := hj.2; omega⟩) hal) ?_
            rintro v_77 w20 ⟨rfl, e20⟩
            have z20 := e20.size
            refine O.nil ?_
            refine hK14 _ _ ?_
            refine C.seqK fun K15 hK15 => ?_
            refine C.region ?_
            refine O.mv ?_
            refine O.bytesS Tryz.underlying32 Tryz.underlying5 Tryz.underlying9 (Eq.trans s3_4 (Eq.trans s3_3 (Eq.trans s3_2 s3_1))) (((((((((((((((h12s.keep e2).keep e3).keepM e4 (fun k hk h => by have := h12.bk_ge k hk; (try dsimp only at h); omega)).keep e_1).keep e7).keep e_3).keep e11).keep e12).keepM e13 (fun k hk h => by have := h12.bk_ge k hk; (try dsimp only at h); omega)).keep e_4).keep e16).keep e17).keep e18).keepM e19 (fun k hk h => by have := h12.bk_ge k hk; (try dsimp only at h); omega)).keepM e20 (by intro j hj h; have q1 := h12b j hj; (try dsimp only at h); omega)) ?_
            refine O.mv ?_
            refine O.bytesS Tryz.underlying32 Tryz.underlying5 Tryz.underlying9 (Eq.trans s0_4 (Eq.trans s0_3 (Eq.trans s0_2 s0_1))) (hl.keep (Ext.new (Ext.new (Ext.trans (Ext.trans (Ext.trans (Ext.trans (Ext.new (Ext.trans (Ext.trans (Ext.trans (Ext.trans (Ext.trans (Ext.new (Ext.trans (Ext.trans e1 e2) e3) e4 (by rintro i hi rfl; omega)) e_1) e7) e_3) e11) e12) e13 (by rintro i hi rfl; omega)) e_4) e16) e17) e18) e19 (by rintro i hi rfl; omega)) e20 (by intro i hi h; (try dsimp only at h); omega))) ?_
            refine O.eqlS rfl rfl ?_
            refine O.cast (v' := .bool true) (congrArg Value.bool (by exact decide_eq_true rfl)) ?_
            refine O.asg ?_
            refine O.nil ?_
            refine hK15 _ _ ?_
            refine C.ret ?_
            refine Outs.one rfl rfl ?_
            exact ⟨rfl, (Ext.new (Ext.new (Ext.trans (Ext.trans (Ext.trans (Ext.trans (Ext.new (Ext.trans (Ext.trans (Ext.trans (Ext.trans (Ext.trans (Ext.new (Ext.trans (Ext.trans e1 e2) e3) e4 (by rintro i hi rfl; omega)) e_1) e7) e_3) e11) e12) e13 (by rintro i hi rfl; omega)) e_4) e16) e17) e18) e19 (by rintro i hi rfl; omega)) e20 (by intro i hi h; (try dsimp only at h); omega))⟩
          ·
            refine C.seqK fun K16 hK16 => ?_
            refine C.region ?_
            refine O.mv ?_
            refine O.build (cells := #[.slice none 0 0, .slice none 0 0]) rfl (by kernel_rfl) ?_
            refine O.call Tryz.call53 (args3 (Eq.trans s3_4 (Eq.trans s3_3 (Eq.trans s3_2 s3_1))) rfl rfl) (wseen_spec v12 l (bk v12) (.slice none 0 0) (.slice none 0 0) ([], []) (fun _ => False) 12 _ ((((((((((h12s.keep e2).keep e3).keepM e4 (fun k hk h => by have := h12.bk_ge k hk; (try dsimp only at h); omega)).keep e_1).keep e7).keep e_3).keep e11).keep e12).keepM e13 (fun k hk h => by have := h12.bk_ge k hk; (try dsimp only at h); omega)).keep e_4) hL (fun j hj => by have q1 := h12b j hj; omega) (mx.keep (Ext.trans (Ext.new (Ext.trans (Ext.trans (Ext.trans (Ext.trans (Ext.trans (Ext.new (Ext.trans (Ext.trans e1 e2) e3) e4 (by rintro i hi rfl; omega)) e_1) e7) e_3) e11) e12) e13 (by rintro i hi rfl; omega)) e_4)) (Sl.nil _ _ _) (Sl.nil _ _ _) (fun _ h => h.elim) (hrv55.no c62)) ?_
            rintro v_69 w21 ⟨rfl, e21⟩
            have z21 := e21.size
            refine O.not rfl ?_
            refine O.cast (v' := .bool false) rfl ?_
            refine O.nil ?_
            refine hK16 _ _ ?_
            refine C.condF rfl ?_
            refine C.skip ?_
            refine hK10 _ _ ?_
            refine C.seqK fun K17 hK17 => ?_
            refine C.region ?_
            refine O.mv ?_
            refine O.call Tryz.call34 (args1 (Eq.trans s3_4 (Eq.trans s3_3 (Eq.trans s3_2 s3_1)))) (dcart_spec v12 l (bk v12) _ (((((((((((h12s.keep e2).keep e3).keepM e4 (fun k hk h => by have := h12.bk_ge k hk; (try dsimp only at h); omega)).keep e_1).keep e7).keep e_3).keep e11).keep e12).keepM e13 (fun k hk h => by have := h12.bk_ge k hk; (try dsimp only at h); omega)).keep e_4).keep e21) hL (fun j hj => by have q1 := h12b j hj; omega) (mx.keep (Ext.trans (Ext.trans (Ext.new (Ext.trans (Ext.trans (Ext.trans (Ext.trans (Ext.trans (Ext.new (Ext.trans (Ext.trans e1 e2) e3) e4 (by rintro i hi rfl; omega)) e_1) e7) e_3) e11) e12) e13 (by rintro i hi rfl; omega)) e_4) e21))) ?_
            rintro v_73 w22 ⟨vav73, vbv73, vcv73, cv73, env73, rfl, hxv73, hyv73, hzv73, hgv73, hpv73, e22⟩
            have z22 := e22.size
            obtain ⟨hg1, hg2, hg3, hg4⟩ := hgv73
            obtain ⟨a1, a2, a3, ps, rfl, rfl, rfl, hst⟩ := Stn.of hxv73 hyv73 hzv73 (fun x hx => (hg4 x hx).1)
            have hal : a3.2.1 ≤ 1000000 := by obtain ⟨raw, hraw, hps, _⟩ := hzv73; rw [hraw.len, hps]; exact hg3
            refine O.mv ?_
            refine O.extract rfl rfl ?_
            refine O.extract rfl rfl ?_
            refine O.alloc Tryz.zeroValue28 (fun b9 w23 hb9 hz9 e23 => ?_)
            have z23 := e23.size
            have h9 := hz9.own
            have hl9 := h9.lt
            refine O.storeA (vs := [slv a1, slv a2, slv a3]) Tryz.sizeOf28 rfl rfl rfl (by simp [slv, Value.oneCell']) h9 (Nat.le_of_ble_eq_true rfl) (fun w24 hs24 e24 z24 => ?_)
            refine O.asg ?_
            refine O.nil ?_
            refine hK17 _ _ ?_
            refine C.seqK fun K18 hK18 => ?_
            refine C.region ?_
            refine O.loadOA Tryz.isAgg28 Tryz.sizeOf28 rfl hs24 (Nat.le_of_ble_eq_true rfl) ?_
            refine O.call Tryz.call56 (args1 rfl) (stain_spec a1 a2 a3 ps _ _ _ ((hst.keep e23).keepM e24 (by intro k hk h; first | (have q1 := hF k hk; (try dsimp only at h); omega) | (have q1 := hF2 k hk; (try dsimp only at h); omega) | (have q1 := hFb k hk; (try dsimp only at h); omega) | ((try dsimp only at hk); (try dsimp only at h); omega))) (fun j hj => ⟨hj.1, by have q1 := hj.2; omega⟩) hal) ?_
            rintro v_77 w25 ⟨rfl, e25⟩
            have z25 := e25.size
            refine O.nil ?_
            refine hK18 _ _ ?_
            refine C.seqK fun K19 hK19 => ?_
            refine C.region ?_
            refine O.mv ?_
            refine O.bytesS Tryz.underlying32 Tryz.underlying5 Tryz.underlying9 (Eq.trans s3_4 (Eq.trans s3_3 (Eq.trans s3_2 s3_1))) (((((((((((((((h12s.keep e2).keep e3).keepM e4 (fun k hk h => by have := h12.bk_ge k hk; (try dsimp only at h); omega)).keep e_1).keep e7).keep e_3).keep e11).keep e12).keepM e13 (fun k hk h => by have := h12.bk_ge k hk; (try dsimp only at h); omega)).keep e_4).keep e21).keep e22).keep e23).keepM e24 (fun k hk h => by have := h12.bk_ge k hk; (try dsimp only at h); omega)).keepM e25 (by intro j hj h; have q1 := h12b j hj; (try dsimp only at h); omega)) ?_
            refine O.mv ?_
            refine O.bytesS Tryz.underlying32 Tryz.underlying5 Tryz.underlying9 (Eq.trans s0_4 (Eq.trans s0_3 (Eq.trans s0_2 s0_1))) (hl.keep (Ext.new (Ext.new (Ext.trans (Ext.trans (Ext.trans (Ext.trans (Ext.new (Ext.trans (Ext.trans (Ext.trans (Ext.trans (Ext.trans (Ext.new (Ext.trans (Ext.trans e1 e2) e3) e4 (by rintro i hi rfl; omega)) e_1) e7) e_3) e11) e12) e13 (by rintro i hi rfl; omega)) e_4) e21) e22) e23) e24 (by rintro i hi rfl; omega)) e25 (by intro i hi h; (try dsimp only at h); omega))) ?_
            refine O.eqlS rfl rfl ?_
            refine O.cast (v' := .bool true) (congrArg Value.bool (by exact decide_eq_true rfl)) ?_
            refine O.asg ?_
            refine O.nil ?_
            refine hK19 _ _ ?_
            refine C.ret ?_
            refine Outs.one rfl rfl ?_
            exact ⟨rfl, (Ext.new (Ext.new (Ext.trans (Ext.trans (Ext.trans (Ext.trans (Ext.new (Ext.trans (Ext.trans (Ext.trans (Ext.trans (Ext.trans (Ext.new (Ext.trans (Ext.trans e1 e2) e3) e4 (by rintro i hi rfl; omega)) e_1) e7) e_3) e11) e12) e13 (by rintro i hi rfl; omega)) e_4) e21) e22) e23) e24 (by rintro i hi rfl; omega)) e25 (by intro i hi h; (try dsimp only at h); omega))⟩

end Go.Proofs.YtnkcmaoaagnopaaGreatDoor
end
section
/-
  The walks of three laws of reading. Conditions: slices as they lie in memory.
-/
namespace Go.Proofs.YtnkcmaoaagnopaaGreatDoor
open Go.Pn Go.RowKit Go.Proofs
attribute [local irreducible] O C D

set_option maxHeartbeats 8000000 in
theorem decodeSpoilt_spec (va1 va2 va3 : Value) (a : Cn.Cart) (F : Nat → Prop) (x1 : BitVec 16) (x2 : BitVec 8) (v0 : Value) (l : List UInt8) (F2 : Nat → Prop) (w : World) (hav : Sl Dt.dotF.enc w F va1 a.1.1) (hac : Sl Dt.dotF.enc w F va2 a.1.2) (hai : Sl itemE w F va3 a.2) (hF : ∀ k, F k → k < w.heap.size) (hl : Sl byteE w F2 v0 l) (hF2 : ∀ k, F2 k → k < w.heap.size) (mx : Mx w) :
    Ret Tryz.prog 9 #[.agg #[va1, va2, va3], .int .u16 ((x1).toNat : Int), .int .u8 ((x2).toNat : Int), v0] w (fun v w' => v = .bool true ∧ Le w w') := by
  obtain ⟨ie5, ti5, ts5, tb5, tz5⟩ := inf5
  have hll := hl.le
  have hgl := mx.lt
  have hx2 := x2.isLt
  have _hF2 := hF2
  refine enter (args := [.agg #[va1, va2, va3], .int .u16 ((x1).toNat : Int), .int .u8 ((x2).toNat : Int), v0]) (n := 62) Tryz.func9 rfl rfl (Nat.le_of_ble_eq_true rfl) ?_
  refine C.seqK fun K1 hK1 => ?_
  refine C.region ?_
  refine O.box (v := .agg #[va1, va2, va3]) rfl (fun b4 w1 hb4 hz4 e1 => ?_)
  have z1 := e1.size
  have h4 := hz4.own
  have hl4 := h4.lt
  refine O.asg ?_
  refine O.nil ?_
  refine hK1 _ _ ?_
  refine C.seqK fun K2 hK2 => ?_
  refine C.seqK fun K3 hK3 => ?_
  refine C.region ?_
  refine O.loadOA Tryz.isAgg28 Tryz.sizeOf28 rfl h4 (Nat.le_of_ble_eq_true rfl) ?_
  refine O.call Tryz.call13 (args1 rfl) (small_spec va1 va2 va3 a F _ (hav.keep e1) (hac.keep e1) (hai.keep e1)) ?_
  rintro v_14 w2 ⟨rfl, e2⟩
  have z2 := e2.size
  refine O.not rfl ?_
  refine O.mv ?_
  refine O.split (x := .tmp 16) rfl (fun c16 => ?_) (fun c16 => ?_)
  ·
    refine O.no rfl (noB (isT' rfl c16) rfl) ?_
    refine O.no rfl (noB (isT' rfl c16) rfl) ?_
    refine O.no rfl (noB (isT' rfl c16) rfl) ?_
    refine O.pickT (isT' rfl c16) ?_
    refine O.nil ?_
    refine hK3 _ _ ?_
    refine C.condT rfl ?_
    refine C.seqK fun K4 hK4 => ?_
    refine C.region ?_
    refine O.call Tryz.call29 (argsN) (wknown_spec _ ((mx.keep e1).keep e2)) ?_
    rintro v_21 w3 ⟨rfl, e3⟩
    have z3 := e3.size
    refine O.asg ?_
    refine O.nil ?_
    refine hK4 _ _ ?_
    refine C.ret ?_
    refine Outs.one rfl rfl ?_
    exact ⟨rfl, (Ext.trans (Ext.trans e1 e2) e3)⟩
  ·
    have hsm : Cn.small a = true := by simpa using c16
    obtain ⟨hs1, hs2, hs3, hs4⟩ := Cn.small_iff hsm
    have hn : a.2.length ≤ 1000000 := by omega
    have hS : ∀ x ∈ a.2, x.1.length ≤ 1000000 ∧ x.2.length ≤ 1000000 := fun x hx => by have := hs4 x hx; omega
    have hp : a.1.1.length ≤ 1000000 := by omega
    have hq : a.1.2.length ≤ 1000000 := by omega
    have hbs := Cn.bytes_small hsm
    refine O.yes rfl (isF' rfl c16) ?_
    refine O.mv ?_
    refine O.yes rfl (isF' rfl c16) ?_
    refine O.len Tryz.underlying32 rfl ((hl.keep e1).keep e2) ?_
    refine O.yes rfl (isF' rfl c16) ?_
    refine O.gtrI rfl rfl ?_
    refine O.pickF (isF' rfl c16) ?_
    refine O.nil ?_
    refine hK3 _ _ ?_
    refine C.condD rfl (fun c20 => ?_) (fun c20 => ?_)
    ·
      refine C.seqK fun K5 hK5 => ?_
      refine C.region ?_
      refine O.call Tryz.call29 (argsN) (wknown_spec _ ((mx.keep e1).keep e2)) ?_
      rintro v_21 w4 ⟨rfl, e4⟩
      have z4 := e4.size
      refine O.asg ?_
      refine O.nil ?_
      refine hK5 _ _ ?_
      refine C.ret ?_
      refine Outs.one rfl rfl ?_
      exact ⟨rfl, (Ext.trans (Ext.trans e1 e2) e4)⟩
    ·
      refine C.skip ?_
      refine hK2 _ _ ?_
      refine C.seqK fun K6 hK6 => ?_
      refine C.region ?_
      refine O.loadOA Tryz.isAgg28 Tryz.sizeOf28 rfl (h4.keep e2) (Nat.le_of_ble_eq_true rfl) ?_
      refine O.call Tryz.call22 (args1 rfl) (rbytes_spec va1 va2 va3 a F _ ((hav.keep e1).keep e2) ((hac.keep e1).keep e2) ((hai.keep e1).keep e2) (fun j hj => by have q1 := hF j hj; omega) hn hS hp hq) ?_
      rintro v_23 w5 ⟨e5, h23⟩
      have z5 := e5.size
      have h23s := h23.sl
      obtain ⟨p23, rfl⟩ := h23s.slv
      have h23b := h23.bk_ge
      have hcb : (Cn.ctxB a.1).length ≤ (Cn.bytes a).length := by unfold Cn.bytes; rw [List.length_append]; omega
      refine O.asg ?_
      refine O.nil ?_
      refine hK6 _ _ ?_
      refine C.seqK fun K7 hK7 => ?_
      refine C.region ?_
      refine O.mv ?_
      refine O.convUI (m := 16) Tryz.underlying47 Tryz.underlying3 rfl (by decide) ?_
      refine O.mv ?_
      refine O.len Tryz.underlying32 rfl h23s ?_
      refine O.addI rfl rfl (by unfold InI; omega) ?_
      refine O.remI rfl rfl (by omega) ?_
      obtain ⟨fr, hfr, hfl⟩ : ∃ fr : Nat, (x1.toNat : Int) % (((Cn.bytes a).length : Int) + 1) = (fr : Int) ∧ fr ≤ (Cn.bytes a).length := ⟨x1.toNat % ((Cn.bytes a).length + 1), by rw [Int.natCast_emod, Int.natCast_add]; rfl, by have := Nat.mod_lt x1.toNat (show 0 < (Cn.bytes a).length + 1 by omega); omega⟩
      refine O.cast (v' := .int .i64 (fr : Int)) (congrArg (Value.int .i64) hfr) ?_
      refine O.asg ?_
      refine O.nil ?_
      refine hK7 _ _ ?_
      refine C.seqK fun K8 hK8 => ?_
      refine C.region ?_
      refine O.mv ?_
      refine O.len Tryz.underlying32 rfl h23s ?_
      refine O.mv ?_
      refine O.mv ?_
      refine O.convUI (m := 8) Tryz.underlying5 Tryz.underlying3 rfl (by decide) ?_
      refine O.addI rfl rfl (by unfold InI; omega) ?_
      refine O.minI rfl rfl ?_
      obtain ⟨tt, htt, htl⟩ : ∃ tt : Nat, min ((Cn.bytes a).length : Int) ((fr : Int) + (x2.toNat : Int)) = (tt : Int) ∧ tt ≤ (Cn.bytes a).length := ⟨min (Cn.bytes a).length (fr + x2.toNat), by omega, by omega⟩
      refine O.cast (v' := .int .i64 (tt : Int)) (congrArg (Value.int .i64) htt) ?_
      refine O.asg ?_
      refine O.nil ?_
      refine hK8 _ _ ?_
      refine C.seqK fun K9 hK9 => ?_
      refine C.draw (by kernel_rfl) fun w6 e6 => ?_
      have z6 := e6.size
      refine D.take (i := 0) rfl rfl rfl rfl (by kernel_rfl) (Le.refl _) ⟨pure _, rfl⟩ (fun w_ hw_ N_ hN => (O.mv (O.nil hN))) ?_
      refine D.take (i := 1) rfl rfl rfl rfl (by kernel_rfl) (Le.refl _) ⟨pure _, rfl⟩ (fun w_ hw_ N_ hN => (O.mv (O.nil hN))) ?_
      have hb39 := Sl.sub (P := Tryz.prog) (0) (fr) Tryz.underlying32 Tryz.sizeOf5 (by rfl) (h23s.keep e6) (Nat.zero_le _) (by omega)
      obtain ⟨v39, hs39, hr39⟩ := hb39
      refine D.take (i := 2) rfl rfl rfl rfl (by kernel_rfl) (Le.refl _) ⟨_, rfl⟩ (fun w_ hw_ N_ hN => (O.subR rfl hr39 (.inl ⟨rfl, rfl⟩) (.inr ⟨_, _, rfl, rfl⟩) (O.nil hN))) ?_
      refine D.take (i := 4) rfl rfl rfl rfl (by kernel_rfl) (Le.refl _) ⟨pure _, rfl⟩ (fun w_ hw_ N_ hN => (O.mv (O.nil hN))) ?_
      refine D.take (i := 6) rfl rfl rfl rfl (by kernel_rfl) (Le.refl _) ⟨pure _, rfl⟩ (fun w_ hw_ N_ hN => (O.mv (O.nil hN))) ?_
      refine D.take (i := 7) rfl rfl rfl rfl (by kernel_rfl) (Le.refl _) ⟨pure _, rfl⟩ (fun w_ hw_ N_ hN => (O.mv (O.nil hN))) ?_
      have hb45 := Sl.sub (P := Tryz.prog) (tt) ((Cn.bytes a).length) Tryz.underlying32 Tryz.sizeOf5 (by rfl) (h23s.keep e6) (by omega) (Nat.le_refl _)
      obtain ⟨v45, hs45, hr45⟩ := hb45
      refine D.take (i := 8) rfl rfl rfl rfl (by kernel_rfl) (Le.refl _) ⟨_, rfl⟩ (fun w_ hw_ N_ hN => (O.subR rfl hr45 (.inr ⟨_, _, rfl, rfl⟩) (.inl ⟨rfl, rfl⟩) (O.nil hN))) ?_
      refine D.one (i := 3) rfl rfl (by kernel_rfl) ?_
      refine O.appF (G := byteF) Tryz.underlying32 ti5 tz5 ts5 rfl rfl rfl (OwnF.nil _ _ _ _) hs39 (by rw [tb5]; simp; omega) (by unfold maxLen; simp; omega) (Nat.le_refl _) (fun v40 w7 h40 e7 => ?_)
      replace e7 : Le w6 w7 := e7.mono (fun _ _ h => h)
      have z7 := e7.size
      have h40s := h40.sl
      refine O.nil ⟨e7, ?_⟩
      refine D.one (i := 5) rfl rfl (by kernel_rfl) ?_
      refine O.appF (G := byteF) Tryz.underlying32 ti5 tz5 ts5 rfl rfl rfl h40 (((((hl.keep e1).keep e2).keep e5).keep e6).keep e7) (by rw [tb5]; simp; omega) (by unfold maxLen; simp; omega) (by omega) (fun v42 w8 h42 e8 => ?_)
      have z8 := e8.size
      have h42s := h42.sl
      refine O.nil ⟨(Ext.new e7 e8 (by intro i hi h; have := h40.bk_ge i h; omega)), ?_⟩
      refine D.one (i := 9) rfl rfl (by kernel_rfl) ?_
      refine O.appF (G := byteF) Tryz.underlying32 ti5 tz5 ts5 rfl rfl rfl h42 ((hs45.keep e7).keepM e8 (by intro j hj h; have q2 := h40.bk_ge j h; have q1 := h23b j hj; omega)) (by rw [tb5]; simp; omega) (by unfold maxLen; simp; omega) (by omega) (fun v46 w9 h46 e9 => ?_)
      have z9 := e9.size
      have h46s := h46.sl
      refine O.nil ⟨(Ext.new (Ext.new e7 e8 (by intro i hi h; have := h40.bk_ge i h; omega)) e9 (by intro i hi h; have := h42.bk_ge i h; omega)), ?_⟩
      have h46s := h46.sl
      obtain ⟨p46, rfl⟩ := h46s.slv
      refine D.take (i := 10) rfl rfl rfl rfl (by kernel_rfl) (Ext.new (Ext.new e7 e8 (by intro i hi h; have := h40.bk_ge i h; omega)) e9 (by intro i hi h; have := h42.bk_ge i h; omega)) ⟨pure _, rfl⟩ (fun w_ hw_ N_ hN => (O.asg (O.nil hN))) ?_
      refine D.done (by kernel_rfl) ?_
      refine hK9 _ _ ?_
      refine C.seqK fun K10 hK10 => ?_
      refine C.region ?_
      refine O.mv ?_
      refine O.call Tryz.call30 (args1 rfl) (right_spec p23 (Cn.bytes a) (bk (slv p23)) _ ((((h23s.keep e6).keep e7).keepM e8 (by intro j hj h; have q2 := h40.bk_ge j h; have q1 := h23b j hj; omega)).keepM e9 (by intro j hj h; have q2 := h42.bk_ge j h; have q1 := h23b j hj; omega)) (by omega) (fun j hj => by have q1 := (((((h23.keep e6).keep e7).keepM e8 (by intro j hj h; have q2 := h40.bk_ge j h; have q1 := h23b j hj; omega)).keepM e9 (by intro j hj h; have q2 := h42.bk_ge j h; have q1 := h23b j hj; omega))).bk_ge j hj; omega) (mx.keep (Ext.new (Ext.new (Ext.trans (Ext.trans (Ext.trans (Ext.trans e1 e2) e5) e6) e7) e8 (by intro i hi h; have := h40.bk_ge i h; omega)) e9 (by intro i hi h; have := h42.bk_ge i h; omega)))) ?_
      rintro v_48 w10 ⟨rfl, e10⟩
      have z10 := e10.size
      refine O.mv ?_
      refine O.yes rfl rfl ?_
      refine O.mv ?_
      refine O.yes rfl rfl ?_
      refine O.call Tryz.call30 (args1 rfl) (right_spec p46 (_) (bk (slv p46)) _ (h46s.keep e10) (by simp only [List.length_append, List.length_take, List.length_drop, List.length_nil]; omega) (fun j hj => by have q1 := ((h46.keep e10)).bk_ge j hj; omega) (mx.keep (Ext.trans (Ext.new (Ext.new (Ext.trans (Ext.trans (Ext.trans (Ext.trans e1 e2) e5) e6) e7) e8 (by intro i hi h; have := h40.bk_ge i h; omega)) e9 (by intro i hi h; have := h42.bk_ge i h; omega)) e10))) ?_
      rintro v_51 w11 ⟨rfl, e11⟩
      have z11 := e11.size
      refine O.pickT rfl ?_
      refine O.mv ?_
      refine O.yes rfl rfl ?_
      refine O.fieldAd Tryz.underlying28 rfl Tryz.sizeOf25 (by decide) rfl ?_
      refine O.yes rfl rfl ?_
      refine O.loadOA Tryz.isAgg25 Tryz.sizeOf25 rfl ((((((((h4.keep e2).keep e5).keep e6).keep e7).keepM e8 (by intro h; have := h40.bk_ge _ h; omega)).keepM e9 (by intro h; have := h42.bk_ge _ h; omega)).keep e10).keep e11) (Nat.le_of_ble_eq_true rfl) ?_
      refine O.yes rfl rfl ?_
      refine O.call Tryz.call18 (args1 rfl) (rctx_spec va1 va2 a.1 F _ (hav.keep (Ext.trans (Ext.trans (Ext.new (Ext.new (Ext.trans (Ext.trans (Ext.trans (Ext.trans e1 e2) e5) e6) e7) e8 (by intro i hi h; have := h40.bk_ge i h; omega)) e9 (by intro i hi h; have := h42.bk_ge i h; omega)) e10) e11)) (hac.keep (Ext.trans (Ext.trans (Ext.new (Ext.new (Ext.trans (Ext.trans (Ext.trans (Ext.trans e1 e2) e5) e6) e7) e8 (by intro i hi h; have := h40.bk_ge i h; omega)) e9 (by intro i hi h; have := h42.bk_ge i h; omega)) e10) e11)) hp hq) ?_
      rintro v_56 w12 ⟨e12, h56⟩
      have z12 := e12.size
      have h56s := h56.sl
      obtain ⟨p56, rfl⟩ := h56s.slv
      refine O.yes rfl rfl ?_
      refine O.call Tryz.call30 (args1 rfl) (right_spec p56 (Cn.ctxB a.1) (bk (slv p56)) _ h56s (by omega) (fun j hj => by have q1 := (h56).bk_ge j hj; omega) (mx.keep (Ext.trans (Ext.trans (Ext.trans (Ext.new (Ext.new (Ext.trans (Ext.trans (Ext.trans (Ext.trans e1 e2) e5) e6) e7) e8 (by intro i hi h; have := h40.bk_ge i h; omega)) e9 (by intro i hi h; have := h42.bk_ge i h; omega)) e10) e11) e12))) ?_
      rintro v_57 w13 ⟨rfl, e13⟩
      have z13 := e13.size
      refine O.pickT rfl ?_
      refine O.mv ?_
      refine O.yes rfl rfl ?_
      refine O.call Tryz.call29 (argsN) (wknown_spec _ (mx.keep (Ext.trans (Ext.trans (Ext.trans (Ext.trans (Ext.new (Ext.new (Ext.trans (Ext.trans (Ext.trans (Ext.trans e1 e2) e5) e6) e7) e8 (by intro i hi h; have := h40.bk_ge i h; omega)) e9 (by intro i hi h; have := h42.bk_ge i h; omega)) e10) e11) e12) e13))) ?_
      rintro v_60 w14 ⟨rfl, e14⟩
      have z14 := e14.size
      refine O.pickT rfl ?_
      refine O.asg ?_
      refine O.nil ?_
      refine hK10 _ _ ?_
      refine C.ret ?_
      refine Outs.one rfl rfl ?_
      exact ⟨rfl, (Ext.trans (Ext.trans (Ext.trans (Ext.trans (Ext.trans (Ext.new (Ext.new (Ext.trans (Ext.trans (Ext.trans (Ext.trans e1 e2) e5) e6) e7) e8 (by intro i hi h; have := h40.bk_ge i h; omega)) e9 (by intro i hi h; have := h42.bk_ge i h; omega)) e10) e11) e12) e13) e14)⟩

end Go.Proofs.YtnkcmaoaagnopaaGreatDoor
end
