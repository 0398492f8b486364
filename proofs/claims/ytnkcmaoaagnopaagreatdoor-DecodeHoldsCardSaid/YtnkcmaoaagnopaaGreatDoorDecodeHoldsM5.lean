/-
  The walks that read parts of a cart. Conditions: slices as they lie in memory.
-/
import Derived.Test.YtnkcmaoaagnopaaGreatDoorDecodeHoldsM4
import Derived.Test.YtnkcmaoaagnopaaGreatDoorDecodeHoldsM2
import Derived.Test.YtnkcmaoaagnopaaGreatDoorDecodeHoldsM1
section
namespace Go.Proofs.YtnkcmaoaagnopaaGreatDoor
open Go.Pn Go.RowKit Go.Proofs
attribute [local irreducible] O C D

theorem Mx.keepM {M : Nat → Prop} {w w' : World} (h : Mx w) (e : Ext M w w') (hM : ¬ M 0) : Mx w' := by obtain ⟨m, hm⟩ := h.h; exact ⟨m, hm.keepM e hM⟩
theorem Mx.lt {w : World} (h : Mx w) : 0 < w.heap.size := by obtain ⟨m, hm⟩ := h.h; exact hm.lt
theorem must_spec (e : Int) (w : World) :
    RetZ Tryz.prog 105 #[.int .i64 (e)] w (fun v w' => v = .tuple #[] ∧ e = 0 ∧ Le w w') (fun ch w' => ch = [{ v := .iface 150 (.agg #[]), recovered := false }] ∧ e ≠ 0 ∧ Le w w') := by
  refine enterZ (args := [.int .i64 (e)]) (n := 6) Tryz.func105 rfl rfl (Nat.le_of_ble_eq_true rfl) ?_
  refine C.seqK fun K1 hK1 => ?_
  refine C.region ?_
  refine O.mv ?_
  refine O.neqI rfl rfl ?_
  refine O.nil ?_
  refine hK1 _ _ ?_
  refine C.condD rfl (fun c3 => ?_) (fun c3 => ?_)
  ·
    refine C.region ?_
    refine O.build (cells := #[]) rfl (by kernel_rfl) ?_
    refine O.mkI Tryz.underlying150 rfl rfl ?_
    refine O.panics rfl ?_
    exact ⟨rfl, c3, (Le.refl _)⟩
  ·
    refine C.skip ?_
    refine Outs.none rfl ?_
    exact ⟨rfl, by omega, (Le.refl _)⟩

theorem num_spec (b : Nat) (vr : Value) (l : List UInt8) (k : Nat) (F : Nat → Prop) (most : BitVec 64) (w : World) (ho : Own w b 152 [.bool true, vr, .int .i64 ((k : Int))]) (hl : Sl byteE w F vr l) (hk : k ≤ l.length) (hF : ∀ j, F j → j ≠ b ∧ j < w.heap.size) (hL : l.length ≤ 1000000) :
    RetZ Tryz.prog 108 #[.pointer (some ⟨b, 0, none⟩), .int .u64 ((most).toNat : Int)] w (fun v w' => ∃ (n : BitVec 64) (k' : Nat), v = .int .u64 (n.toNat : Int) ∧ Own w' b 152 [.bool true, vr, .int .i64 ((k' : Int))] ∧ n.toNat ≤ most.toNat ∧ Cn.SegN n l k k' ∧ Ext (fun j => j = b) w w') (fun ch w' => ch = [{ v := .iface 150 (.agg #[]), recovered := false }] ∧ Cn.NumQ most.toNat l k ∧ Ext (fun j => j = b) w w') := by
  have _hF9 := hF
  have _hk9 := hk
  have hbl := ho.lt
  have hll := hl.le
  refine enterZ (args := [.pointer (some ⟨b, 0, none⟩), .int .u64 ((most).toNat : Int)]) (n := 16) Tryz.func108 rfl rfl (Nat.le_of_ble_eq_true rfl) ?_
  refine C.seqK fun K1 hK1 => ?_
  refine C.region ?_
  refine O.asg ?_
  refine O.nil ?_
  refine hK1 _ _ ?_
  refine C.seqK fun K2 hK2 => ?_
  refine C.region ?_
  refine O.mv ?_
  refine O.mv ?_
  refine O.call Tryz.call123 (args2 rfl rfl) (rdNum_spec b vr l k F most _ ho hl hk (fun j hj => by have q1 := hF j hj; omega) hL) ?_
  rintro v_10 w1 ⟨nv10, env10, knv10, rfl, hov10, hcv10, e1⟩
  have z1 := e1.size
  refine O.mv ?_
  refine O.extract rfl rfl ?_
  refine O.extract rfl rfl ?_
  refine O.asg ?_
  refine O.asg ?_
  refine O.nil ?_
  refine hK2 _ _ ?_
  refine C.seqK fun K3 hK3 => ?_
  refine C.region ?_
  refine O.mv ?_
  refine O.callZ Tryz.call105 (args1 rfl) (must_spec _ _) (fun ch_ wz_ hz_ => ?_) ?_
  ·
    rcases hcv10 with ⟨q1, _⟩ | ⟨q1, q2, q3, q4⟩
    · exact absurd q1 hz_.2.1
    · exact ⟨hz_.1, q4, Ext.trans (Ext.new (Ext.refl _ _) e1 (by intro i hi hk; first | exact hk.elim | ((try dsimp only at hk); (try dsimp only); omega))) (Le.to hz_.2.2)⟩
  rintro v_14 w2 ⟨rfl, hzv14, e2⟩
  have z2 := e2.size
  refine O.nil ?_
  refine hK3 _ _ ?_
  refine C.seqK fun K4 hK4 => ?_
  refine C.region ?_
  refine O.mv ?_
  refine O.asg ?_
  refine O.nil ?_
  refine hK4 _ _ ?_
  refine C.ret ?_
  refine Outs.one rfl rfl ?_
  rcases hcv10 with ⟨q1, q2, q3⟩ | ⟨q1, _⟩
  · exact ⟨nv10, knv10, rfl, (hov10.keep e2), q2, q3, (Ext.new (Ext.new (Ext.refl _ _) e1 (by intro i hi hk; first | exact hk.elim | ((try dsimp only at hk); (try dsimp only); omega))) e2 (by intro i hi hk; first | exact hk.elim | ((try dsimp only at hk); (try dsimp only); omega)))⟩
  · exfalso; omega

theorem one_spec (b : Nat) (vr : Value) (l : List UInt8) (k : Nat) (F : Nat → Prop) (w : World) (ho : Own w b 152 [.bool true, vr, .int .i64 ((k : Int))]) (hl : Sl byteE w F vr l) (hk : k ≤ l.length) (hF : ∀ j, F j → j ≠ b ∧ j < w.heap.size) (hL : l.length ≤ 1000000) :
    RetZ Tryz.prog 125 #[.pointer (some ⟨b, 0, none⟩)] w (fun v w' => ∃ (d : Dt.Dot) (k' : Nat), v = Dt.dv d ∧ Own w' b 152 [.bool true, vr, .int .i64 ((k' : Int))] ∧ Cn.dotQ d ∧ Cn.Seg (Cn.dotB d) l k k' ∧ Ext (fun j => j = b) w w') (fun ch w' => ch = [{ v := .iface 150 (.agg #[]), recovered := false }] ∧ Cn.No Cn.dotQ Cn.dotB l k ∧ Ext (fun j => j = b) w w') := by
  have _hF9 := hF
  have _hk9 := hk
  have hbl := ho.lt
  have hll := hl.le
  refine enterZ (args := [.pointer (some ⟨b, 0, none⟩)]) (n := 12) Tryz.func125 rfl rfl (Nat.le_of_ble_eq_true rfl) ?_
  refine C.seqK fun K1 hK1 => ?_
  refine C.region ?_
  refine O.alloc Tryz.zeroValue51 (fun b2 w1 hb2 hz2 e1 => ?_)
  have z1 := e1.size
  have h2 := hz2.own
  have hl2 := h2.lt
  refine O.nil ?_
  refine hK1 _ _ ?_
  refine C.seqK fun K2 hK2 => ?_
  refine C.region ?_
  refine O.mv ?_
  refine O.callZ Tryz.call108 (args2 rfl rfl) (num_spec b vr l k F 65535#64 _ (ho.keep e1) (hl.keep e1) hk (fun j hj => by have q1 := hF j hj; omega) hL) (fun ch_ wz_ hz_ => ?_) ?_
  ·
    exact ⟨hz_.1, Cn.no_dot1 hz_.2.1, Ext.trans (Ext.new (Ext.refl _ _) e1 (by intro i hi hk; first | exact hk.elim | ((try dsimp only at hk); (try dsimp only); omega))) hz_.2.2⟩
  rintro v_5 w2 ⟨nv5, knv5, rfl, hov5, hqv5, hsv5, e2⟩
  have z2 := e2.size
  refine O.asg ?_
  refine O.nil ?_
  refine hK2 _ _ ?_
  refine C.seqK fun K3 hK3 => ?_
  refine C.region ?_
  refine O.mv ?_
  refine O.convU64I Tryz.underlying49 Tryz.underlying3 rfl ?_
  refine O.mv ?_
  refine O.callZ Tryz.call108 (args2 rfl rfl) (num_spec b vr l knv5 F 4294967295#64 _ hov5 ((hl.keep e1).keepM e2 (by intro k hk h; first | (have q1 := hF k hk; (try dsimp only at h); omega) | ((try dsimp only at hk); (try dsimp only at h); omega))) hsv5.2.2 (fun j hj => by have q1 := hF j hj; omega) hL) (fun ch_ wz_ hz_ => ?_) ?_
  ·
    exact ⟨hz_.1, Cn.no_dot2 hsv5 hqv5 hz_.2.1, Ext.trans (Ext.new (Ext.new (Ext.refl _ _) e1 (by intro i hi hk; first | exact hk.elim | ((try dsimp only at hk); (try dsimp only); omega))) e2 (by intro i hi hk; first | exact hk.elim | ((try dsimp only at hk); (try dsimp only); omega))) hz_.2.2⟩
  rintro v_9 w3 ⟨nv9, knv9, rfl, hov9, hqv9, hsv9, e3⟩
  have z3 := e3.size
  refine O.convU64I Tryz.underlying49 Tryz.underlying3 rfl ?_
  refine O.build (cells := #[.int .i64 nv5.toInt, .int .i64 nv9.toInt]) rfl (by kernel_rfl) ?_
  refine O.storeA (vs := [.int .i64 nv5.toInt, .int .i64 nv9.toInt]) Tryz.sizeOf51 rfl rfl rfl (by simp [Value.oneCell']) ((h2.keepM e2 (by intro h; (try dsimp only at h); omega)).keepM e3 (by intro h; (try dsimp only at h); omega)) (Nat.le_of_ble_eq_true rfl) (fun w4 hs4 e4 z4 => ?_)
  refine O.nil ?_
  refine hK3 _ _ ?_
  refine C.ret ?_
  refine Outs.cellA rfl Tryz.isAgg51 Tryz.sizeOf51 rfl hs4 rfl ?_
  exact ⟨(nv5.toInt, nv9.toInt), knv9, rfl, (hov9.keepM e4 (by intro h; (try dsimp only at h); omega)), Cn.dotQ_mk hqv5 hqv9, Cn.seg_dot hsv5 hsv9, (Ext.new (Ext.new (Ext.new (Ext.new (Ext.refl _ _) e1 (by intro i hi hk; first | exact hk.elim | ((try dsimp only at hk); (try dsimp only); omega))) e2 (by intro i hi hk; first | exact hk.elim | ((try dsimp only at hk); (try dsimp only); omega))) e3 (by intro i hi hk; first | exact hk.elim | ((try dsimp only at hk); (try dsimp only); omega))) e4 (by intro i hi hk; first | exact hk.elim | ((try dsimp only at hk); (try dsimp only); omega)))⟩

set_option maxHeartbeats 1000000 in
theorem ddots_spec (b : Nat) (vr : Value) (l : List UInt8) (k : Nat) (F : Nat → Prop) (w : World) (ho : Own w b 152 [.bool true, vr, .int .i64 ((k : Int))]) (hl : Sl byteE w F vr l) (hk : k ≤ l.length) (hF : ∀ j, F j → j ≠ b ∧ j < w.heap.size) (hL : l.length ≤ 1000000) :
    RetZ Tryz.prog 121 #[.pointer (some ⟨b, 0, none⟩)] w (fun v w' => ∃ (ds : List Dt.Dot) (k' : Nat), Own w' b 152 [.bool true, vr, .int .i64 ((k' : Int))] ∧ Fre Dt.dotF 51 w' (fun j => w.heap.size ≤ j ∧ j < w'.heap.size) v ds ∧ ds.length ≤ l.length ∧ Cn.manyQ Cn.dotQ ds ∧ Cn.Seg (Cn.manyB Cn.dotB ds) l k k' ∧ Ext (fun j => j = b) w w') (fun ch w' => ch = [{ v := .iface 150 (.agg #[]), recovered := false }] ∧ Cn.No (Cn.manyQ Cn.dotQ) (Cn.manyB Cn.dotB) l k ∧ Ext (fun j => j = b) w w') := by
  have _hF9 := hF
  have _hk9 := hk
  have hbl := ho.lt
  have hll := hl.le
  obtain ⟨ie51, ti51, ts51, tb51, tz51⟩ := inf51
  refine enterZ (args := [.pointer (some ⟨b, 0, none⟩)]) (n := 17) Tryz.func121 rfl rfl (Nat.le_of_ble_eq_true rfl) ?_
  refine C.seqK fun K1 hK1 => ?_
  refine C.region ?_
  refine O.asg ?_
  refine O.nil ?_
  refine hK1 _ _ ?_
  refine C.seqK fun K2 hK2 => ?_
  refine C.region ?_
  refine O.asg ?_
  refine O.nil ?_
  refine hK2 _ _ ?_
  refine C.seqK fun K3 hK3 => ?_
  refine C.seqK fun K4 hK4 => ?_
  refine C.region ?_
  refine O.mv ?_
  refine O.callZ Tryz.call108 (args2 rfl rfl) (num_spec b vr l k F 18446744073709551615#64 _ ho hl hk (fun j hj => by have q1 := hF j hj; omega) hL) (fun ch_ wz_ hz_ => ?_) ?_
  ·
    exact ⟨hz_.1, Cn.no_many1 (Cn.numA_of hz_.2.1 (by decide)) Cn.dotB_ge (by omega), Ext.trans (Ext.refl _ _) hz_.2.2⟩
  rintro v_6 w1 ⟨nv6, knv6, rfl, hov6, hqv6, hsv6, e1⟩
  have z1 := e1.size
  refine O.asg ?_
  refine O.nil ?_
  refine hK4 _ _ ?_
  refine C.block fun K5 hK5 => ?_
  refine C.loop0 (σ := List Dt.Dot × Value × Nat) (fun f0 w0 ⟨ds, vs, kc⟩ f wz => f 3 = vs ∧ f 4 = .int .u64 ((BitVec.ofNat 64 (nv6.toNat - ds.length)).toNat : Int) ∧ f 0 = f0 0 ∧ f 2 = f0 2 ∧ Ext (fun j => j = b) w wz ∧ Own wz b 152 [.bool true, vr, .int .i64 ((kc : Int))] ∧ OwnF Dt.dotF 51 w.heap.size wz vs ds ∧ ds.length ≤ nv6.toNat ∧ Cn.manyQ Cn.dotQ ds ∧ Cn.Seg (ds.flatMap Cn.dotB) l knv6 kc) (fun ⟨ds, vs, kc⟩ => nv6.toNat - ds.length) ([], .slice none 0 0, knv6) ?_ ?_
  ·
    refine ⟨rfl, (Eq.trans rfl (congrArg (fun q : BitVec 64 => Value.int .u64 (q.toNat : Int)) (by simp))), rfl, rfl, (Ext.new (Ext.refl _ _) e1 (by intro i hi hk; first | exact hk.elim | ((try dsimp only at hk); (try dsimp only); omega))), hov6, (OwnF.nil _ _ _ _), ?_⟩
    exact ⟨Nat.zero_le _, Cn.manyQ_nil, Cn.Seg.nil hsv6.2.2⟩
  ·
    rintro ⟨ds, vs, kc⟩ f_1 w2 ⟨s3_1, s4_1, s0_1, s2_1, e_1, r0_1, r1_1, ⟨hj, hQ, hS⟩⟩
    have z_1 := e_1.size
    have r1_1s := r1_1.sl
    have hln := Cn.seg_len Cn.dotB_ge hS
    have hNl := nv6.isLt
    refine C.seqK fun K6 hK6 => ?_
    refine C.seqK fun K7 hK7 => ?_
    refine C.region ?_
    refine O.mv ?_
    refine O.gtrU (m := 64) (b := 0#64) s4_1 rfl ?_
    refine O.nil ?_
    refine hK7 _ _ ?_
    refine C.condD rfl (fun c8 => ?_) (fun c8 => ?_)
    ·
      have hj2 : ds.length < nv6.toNat := by have q := (Cn.pos_ofNat (m := nv6.toNat - ds.length) (by omega)).1 c8; omega
      refine C.skip ?_
      refine hK6 _ _ ?_
      refine C.seqK fun K8 hK8 => ?_
      refine C.block fun K9 hK9 => ?_
      refine C.region ?_
      refine O.mv ?_
      refine O.mv ?_
      refine O.callZ Tryz.call125 (args1 s0_1) (one_spec b vr l kc F _ r0_1 (hl.keepM e_1 (by intro k hk h; first | (have q1 := hF k hk; (try dsimp only at h); omega) | ((try dsimp only at hk); (try dsimp only at h); omega))) hS.2.2 (fun j hj => by have q1 := hF j hj; omega) hL) (fun ch_ wz_ hz_ => ?_) ?_
      ·
        exact ⟨hz_.1, Cn.no_many2 hsv6 Cn.pre_dotQ hQ hS hj2 hz_.2.1, Ext.trans (Ext.new (Ext.refl _ _) e_1 (by intro i hi hk; first | exact hk.elim | ((try dsimp only at hk); (try dsimp only); omega))) hz_.2.2⟩
      rintro v_13 w3 ⟨dv13, knv13, rfl, hov13, hqv13, hsv13, e3⟩
      have z3 := e3.size
      refine O.litG (G := Dt.dotF) [dv13] Tryz.underlying22 ti51 ts51 tz51 rfl (by decide) (by decide) rfl (fun b14 w4 hb14 hz14 e4 => ?_)
      have z4 := e4.size
      have h14 := hz14.own
      have hq14 := Sl.litG (n := 1) h14 rfl (by unfold maxLen; omega)
      refine O.appF (G := Dt.dotF) Tryz.underlying22 ti51 tz51 ts51 rfl s3_1 rfl ((r1_1.keepM e3 (fun k hk h => by have := r1_1.bk_ge k hk; (try dsimp only at h); omega)).keep e4) hq14 (by rw [tb51]; simp; omega) (by unfold maxLen; simp; omega) (by omega) (fun v15 w5 h15 e5 => ?_)
      have e5m : Ext (fun j => w.heap.size ≤ j) w4 w5 := e5.mono (fun j _ hj => by have := ((r1_1.keepM e3 (fun k hk h => by have := r1_1.bk_ge k hk; (try dsimp only at h); omega)).keep e4).bk_ge j hj; omega)
      have z5 := e5.size
      have h15s := h15.sl
      refine O.asg ?_
      refine O.nil ?_
      refine hK9 _ _ ?_
      refine hK8 _ _ ?_
      refine C.region ?_
      refine O.mv ?_
      refine O.subU (m := 64) (b := 1#64) rfl rfl s4_1 rfl ?_
      refine O.asg ?_
      refine O.nil ?_
      refine ⟨(ds ++ [dv13], v15, knv13), ⟨rfl, (Eq.trans rfl (congrArg (fun q : BitVec 64 => Value.int .u64 (q.toNat : Int)) (by rw [Cn.dec_ofNat (by omega) (by omega), List.length_append]; rfl))), s0_1, s2_1, (Ext.new (Ext.new (Ext.new (Ext.new (Ext.refl _ _) e_1 (by intro i hi hk; first | exact hk.elim | ((try dsimp only at hk); (try dsimp only); omega))) e3 (by intro i hi hk; first | exact hk.elim | ((try dsimp only at hk); (try dsimp only); omega))) e4 (by intro i hi hk; first | exact hk.elim | ((try dsimp only at hk); (try dsimp only); omega))) e5m (by intro i hi hk; first | exact hk.elim | ((try dsimp only at hk); (try dsimp only); omega))), ((hov13.keep e4).keepM e5 (by intro h; have := ((r1_1.keepM e3 (fun k hk h => by have := r1_1.bk_ge k hk; (try dsimp only at h); omega)).keep e4).bk_ge _ h; omega)), h15, ?_⟩, by show nv6.toNat - (ds ++ [dv13]).length < nv6.toNat - ds.length; rw [List.length_append]; show nv6.toNat - (ds.length + 1) < _; omega⟩
      exact ⟨by rw [List.length_append]; exact hj2, Cn.manyQ_snoc hQ hqv13, Cn.Seg.snoc hS hsv13⟩
    ·
      have hj3 : ds.length = nv6.toNat := by have q := mt (Cn.pos_ofNat (m := nv6.toNat - ds.length) (by omega)).2 c8; omega
      refine C.exit ?_
      refine hK5 _ _ ?_
      refine hK3 _ _ ?_
      refine C.seqK fun K10 hK10 => ?_
      refine C.region ?_
      refine O.mv ?_
      refine O.asg ?_
      refine O.nil ?_
      refine hK10 _ _ ?_
      refine C.ret ?_
      refine Outs.one rfl s3_1 ?_
      exact ⟨ds, kc, r0_1, (r1_1).fre (fun j hj => by have := (r1_1).bk_ge j hj; exact ⟨by omega, by omega⟩), by omega, hQ, Cn.seg_many hsv6 hS hj3, (Ext.new (Ext.refl _ _) e_1 (by intro i hi hk; first | exact hk.elim | ((try dsimp only at hk); (try dsimp only); omega)))⟩

set_option maxHeartbeats 1000000 in
theorem dseen_spec (b : Nat) (vr : Value) (l : List UInt8) (k : Nat) (F : Nat → Prop) (w : World) (ho : Own w b 152 [.bool true, vr, .int .i64 ((k : Int))]) (hl : Sl byteE w F vr l) (hk : k ≤ l.length) (hF : ∀ j, F j → j ≠ b ∧ j < w.heap.size) (hL : l.length ≤ 1000000) :
    RetZ Tryz.prog 104 #[.pointer (some ⟨b, 0, none⟩)] w (fun v w' => ∃ (v1 v2 : Value) (x : Cn.Ctx) (k' : Nat), v = .agg #[v1, v2] ∧ Own w' b 152 [.bool true, vr, .int .i64 ((k' : Int))] ∧ Fre Dt.dotF 51 w' (fun j => w.heap.size ≤ j ∧ j < w'.heap.size) v1 x.1 ∧ Fre Dt.dotF 51 w' (fun j => w.heap.size ≤ j ∧ j < w'.heap.size) v2 x.2 ∧ (x.1.length ≤ l.length ∧ x.2.length ≤ l.length) ∧ Cn.isCompact x = true ∧ Cn.Seg (Cn.ctxB x) l k k' ∧ Ext (fun j => j = b) w w') (fun ch w' => ch = [{ v := .iface 150 (.agg #[]), recovered := false }] ∧ Cn.No Cn.comp Cn.ctxB l k ∧ Ext (fun j => j = b) w w') := by
  have _hF9 := hF
  have _hk9 := hk
  have hbl := ho.lt
  have hll := hl.le
  refine enterZ (args := [.pointer (some ⟨b, 0, none⟩)]) (n := 16) Tryz.func104 rfl rfl (Nat.le_of_ble_eq_true rfl) ?_
  refine C.seqK fun K1 hK1 => ?_
  refine C.region ?_
  refine O.alloc Tryz.zeroValue25 (fun b2 w1 hb2 hz2 e1 => ?_)
  have z1 := e1.size
  have h2 := hz2.own
  have hl2 := h2.lt
  refine O.nil ?_
  refine hK1 _ _ ?_
  refine C.seqK fun K2 hK2 => ?_
  refine C.region ?_
  refine O.mv ?_
  refine O.callZ Tryz.call121 (args1 rfl) (ddots_spec b vr l k F _ (ho.keep e1) (hl.keep e1) hk (fun j hj => by have q1 := hF j hj; omega) hL) (fun ch_ wz_ hz_ => ?_) ?_
  ·
    exact ⟨hz_.1, Cn.no_comp (Cn.no_ctx1 hz_.2.1), Ext.trans (Ext.new (Ext.refl _ _) e1 (by intro i hi hk; first | exact hk.elim | ((try dsimp only at hk); (try dsimp only); omega))) hz_.2.2⟩
  rintro v_5 w2 ⟨dsv5, knv5, hov5, hlv5, hnv5, hqv5, hsv5, e2⟩
  have z2 := e2.size
  obtain ⟨p5, rfl⟩ := hlv5.slv
  have hls5 := hlv5.sl
  refine O.build (cells := #[slv p5, .slice none 0 0]) rfl (by kernel_rfl) ?_
  refine O.alloc Tryz.zeroValue25 (fun b3 w3 hb3 hz3 e3 => ?_)
  have z3 := e3.size
  have h3 := hz3.own
  have hl3 := h3.lt
  refine O.storeA (vs := [slv p5, .slice none 0 0]) Tryz.sizeOf25 rfl rfl rfl (by simp [slv, Value.oneCell']) h3 (Nat.le_of_ble_eq_true rfl) (fun w4 hs4 e4 z4 => ?_)
  refine O.nil ?_
  refine hK2 _ _ ?_
  refine C.seqK fun K3 hK3 => ?_
  refine C.region ?_
  refine O.mv ?_
  refine O.callZ Tryz.call121 (args1 rfl) (ddots_spec b vr l knv5 F _ ((hov5.keep e3).keepM e4 (by intro h; (try dsimp only at h); omega)) ((((hl.keep e1).keepM e2 (by intro k hk h; first | (have q1 := hF k hk; (try dsimp only at h); omega) | ((try dsimp only at hk); (try dsimp only at h); omega))).keep e3).keepM e4 (by intro k hk h; first | (have q1 := hF k hk; (try dsimp only at h); omega) | (have q1 := hF2 k hk; (try dsimp only at h); omega) | (have q1 := hFb k hk; (try dsimp only at h); omega) | ((try dsimp only at hk); (try dsimp only at h); omega))) hsv5.2.2 (fun j hj => by have q1 := hF j hj; omega) hL) (fun ch_ wz_ hz_ => ?_) ?_
  ·
    exact ⟨hz_.1, Cn.no_comp (Cn.no_ctx2 hsv5 hqv5 hz_.2.1), Ext.trans (Ext.new (Ext.new (Ext.new (Ext.new (Ext.refl _ _) e1 (by intro i hi hk; first | exact hk.elim | ((try dsimp only at hk); (try dsimp only); omega))) e2 (by intro i hi hk; first | exact hk.elim | ((try dsimp only at hk); (try dsimp only); omega))) e3 (by intro i hi hk; first | exact hk.elim | ((try dsimp only at hk); (try dsimp only); omega))) e4 (by intro i hi hk; first | exact hk.elim | ((try dsimp only at hk); (try dsimp only); omega))) hz_.2.2⟩
  rintro v_8 w5 ⟨dsv8, knv8, hov8, hlv8, hnv8, hqv8, hsv8, e5⟩
  have z5 := e5.size
  obtain ⟨p8, rfl⟩ := hlv8.slv
  have hls8 := hlv8.sl
  refine O.fieldAd Tryz.underlying25 rfl Tryz.sizeOf22 (by decide) rfl ?_
  refine O.store Tryz.sizeOf22 rfl rfl rfl (hs4.keepM e5 (by intro h; (try dsimp only at h); omega)) (by simp) (fun w6 hs6 e6 z6 => ?_)
  try simp only [Nat.zero_add] at hs6
  refine O.nil ?_
  refine hK3 _ _ ?_
  refine C.seqK fun K4 hK4 => ?_
  refine C.seqK fun K5 hK5 => ?_
  refine C.region ?_
  refine O.loadOA Tryz.isAgg25 Tryz.sizeOf25 rfl hs6 (Nat.le_of_ble_eq_true rfl) ?_
  refine O.call Tryz.call17 (args1 rfl) (isCompact_spec (slv p5) (slv p8) (dsv5, dsv8) (fun _ => True) _ ((((((hls5.keep e3).keepM e4 (by intro k hk h; first | (have q1 := hF k hk; (try dsimp only at h); omega) | (have q1 := hF2 k hk; (try dsimp only at h); omega) | (have q1 := hFb k hk; (try dsimp only at h); omega) | ((try dsimp only at hk); (try dsimp only at h); omega))).keepM e5 (by intro k hk h; first | (have q1 := hF k hk; (try dsimp only at h); omega) | ((try dsimp only at hk); (try dsimp only at h); omega))).keepM e6 (by intro k hk h; first | (have q1 := hF k hk; (try dsimp only at h); omega) | (have q1 := hF2 k hk; (try dsimp only at h); omega) | (have q1 := hFb k hk; (try dsimp only at h); omega) | ((try dsimp only at hk); (try dsimp only at h); omega)))).weak fun _ _ => trivial) (((hls8.keepM e6 (by intro k hk h; first | (have q1 := hF k hk; (try dsimp only at h); omega) | (have q1 := hF2 k hk; (try dsimp only at h); omega) | (have q1 := hFb k hk; (try dsimp only at h); omega) | ((try dsimp only at hk); (try dsimp only at h); omega)))).weak fun _ _ => trivial)) ?_
  rintro v_11 w7 ⟨rfl, e7⟩
  have z7 := e7.size
  refine O.not rfl ?_
  refine O.nil ?_
  refine hK5 _ _ ?_
  refine C.cond rfl (fun c12 => ?_) (fun c12 => ?_)
  ·
    refine C.region ?_
    refine O.build (cells := #[]) rfl (by kernel_rfl) ?_
    refine O.mkI Tryz.underlying150 rfl rfl ?_
    refine O.panics rfl ?_
    exact ⟨rfl, Cn.no_comp3 (Cn.seg_ctx hsv5 hsv8) ⟨hqv5, hqv8⟩ (by simpa using c12), (Ext.new (Ext.new (Ext.new (Ext.new (Ext.new (Ext.new (Ext.new (Ext.refl _ _) e1 (by intro i hi hk; first | exact hk.elim | ((try dsimp only at hk); (try dsimp only); omega))) e2 (by intro i hi hk; first | exact hk.elim | ((try dsimp only at hk); (try dsimp only); omega))) e3 (by intro i hi hk; first | exact hk.elim | ((try dsimp only at hk); (try dsimp only); omega))) e4 (by intro i hi hk; first | exact hk.elim | ((try dsimp only at hk); (try dsimp only); omega))) e5 (by intro i hi hk; first | exact hk.elim | ((try dsimp only at hk); (try dsimp only); omega))) e6 (by intro i hi hk; first | exact hk.elim | ((try dsimp only at hk); (try dsimp only); omega))) e7 (by intro i hi hk; first | exact hk.elim | ((try dsimp only at hk); (try dsimp only); omega)))⟩
  ·
    refine C.skip ?_
    refine hK4 _ _ ?_
    refine C.seqK fun K6 hK6 => ?_
    refine C.region ?_
    refine O.loadOA Tryz.isAgg25 Tryz.sizeOf25 rfl (hs6.keep e7) (Nat.le_of_ble_eq_true rfl) ?_
    refine O.storeA (vs := [slv p5, slv p8]) Tryz.sizeOf25 rfl rfl rfl (by simp [slv, Value.oneCell']) ((((((h2.keepM e2 (by intro h; (try dsimp only at h); omega)).keep e3).keepM e4 (by intro h; (try dsimp only at h); omega)).keepM e5 (by intro h; (try dsimp only at h); omega)).keepM e6 (by intro h; (try dsimp only at h); omega)).keep e7) (Nat.le_of_ble_eq_true rfl) (fun w8 hs8 e8 z8 => ?_)
    refine O.nil ?_
    refine hK6 _ _ ?_
    refine C.ret ?_
    refine Outs.cellA rfl Tryz.isAgg25 Tryz.sizeOf25 rfl hs8 rfl ?_
    exact ⟨slv p5, slv p8, (dsv5, dsv8), knv8, rfl, (((hov8.keepM e6 (by intro h; (try dsimp only at h); omega)).keep e7).keepM e8 (by intro h; (try dsimp only at h); omega)), (((((((hlv5.keep e3).keepM e4 (by intro k hk h; first | (have q1 := hF k hk; (try dsimp only at h); omega) | (have q1 := hF2 k hk; (try dsimp only at h); omega) | (have q1 := hFb k hk; (try dsimp only at h); omega) | ((try dsimp only at hk); (try dsimp only at h); omega))).keepM e5 (by intro k hk h; first | (have q1 := hF k hk; (try dsimp only at h); omega) | ((try dsimp only at hk); (try dsimp only at h); omega))).keepM e6 (by intro k hk h; first | (have q1 := hF k hk; (try dsimp only at h); omega) | (have q1 := hF2 k hk; (try dsimp only at h); omega) | (have q1 := hFb k hk; (try dsimp only at h); omega) | ((try dsimp only at hk); (try dsimp only at h); omega))).keep e7).keepM e8 (by intro k hk h; first | (have q1 := hF k hk; (try dsimp only at h); omega) | (have q1 := hF2 k hk; (try dsimp only at h); omega) | (have q1 := hFb k hk; (try dsimp only at h); omega) | ((try dsimp only at hk); (try dsimp only at h); omega)))).weak (by intro j hj; (try dsimp only at hj); (try dsimp only); omega), ((((hlv8.keepM e6 (by intro k hk h; first | (have q1 := hF k hk; (try dsimp only at h); omega) | (have q1 := hF2 k hk; (try dsimp only at h); omega) | (have q1 := hFb k hk; (try dsimp only at h); omega) | ((try dsimp only at hk); (try dsimp only at h); omega))).keep e7).keepM e8 (by intro k hk h; first | (have q1 := hF k hk; (try dsimp only at h); omega) | (have q1 := hF2 k hk; (try dsimp only at h); omega) | (have q1 := hFb k hk; (try dsimp only at h); omega) | ((try dsimp only at hk); (try dsimp only at h); omega)))).weak (by intro j hj; (try dsimp only at hj); (try dsimp only); omega), ⟨hnv5, hnv8⟩, by simpa using c12, Cn.seg_ctx hsv5 hsv8, (Ext.new (Ext.new (Ext.new (Ext.new (Ext.new (Ext.new (Ext.new (Ext.new (Ext.refl _ _) e1 (by intro i hi hk; first | exact hk.elim | ((try dsimp only at hk); (try dsimp only); omega))) e2 (by intro i hi hk; first | exact hk.elim | ((try dsimp only at hk); (try dsimp only); omega))) e3 (by intro i hi hk; first | exact hk.elim | ((try dsimp only at hk); (try dsimp only); omega))) e4 (by intro i hi hk; first | exact hk.elim | ((try dsimp only at hk); (try dsimp only); omega))) e5 (by intro i hi hk; first | exact hk.elim | ((try dsimp only at hk); (try dsimp only); omega))) e6 (by intro i hi hk; first | exact hk.elim | ((try dsimp only at hk); (try dsimp only); omega))) e7 (by intro i hi hk; first | exact hk.elim | ((try dsimp only at hk); (try dsimp only); omega))) e8 (by intro i hi hk; first | exact hk.elim | ((try dsimp only at hk); (try dsimp only); omega)))⟩

set_option maxHeartbeats 2000000 in
theorem ditem_spec (b : Nat) (vr : Value) (l : List UInt8) (k : Nat) (F : Nat → Prop) (w : World) (ho : Own w b 152 [.bool true, vr, .int .i64 ((k : Int))]) (hl : Sl byteE w F vr l) (hk : k ≤ l.length) (hF : ∀ j, F j → j ≠ b ∧ j < w.heap.size) (hL : l.length ≤ 1000000) :
    RetZ Tryz.prog 109 #[.pointer (some ⟨b, 0, none⟩)] w (fun v w' => ∃ (s : List UInt8) (vm : Value) (ms : List MarkT) (k' : Nat), v = .agg #[str s, vm] ∧ Own w' b 152 [.bool true, vr, .int .i64 ((k' : Int))] ∧ Fre markF 53 w' (fun j => w.heap.size ≤ j ∧ j < w'.heap.size) vm ms ∧ ms.length ≤ l.length ∧ Cn.itemQ (s, ms) ∧ Cn.Seg (Cn.itemB (s, ms)) l k k' ∧ Ext (fun j => j = b) w w') (fun ch w' => ch = [{ v := .iface 150 (.agg #[]), recovered := false }] ∧ Cn.No Cn.itemQ Cn.itemB l k ∧ Ext (fun j => j = b) w w') := by
  have _hF9 := hF
  have _hk9 := hk
  have hbl := ho.lt
  have hll := hl.le
  obtain ⟨ie53, ti53, ts53, tb53, tz53⟩ := inf53
  refine enterZ (args := [.pointer (some ⟨b, 0, none⟩)]) (n := 40) Tryz.func109 rfl rfl (Nat.le_of_ble_eq_true rfl) ?_
  refine C.seqK fun K1 hK1 => ?_
  refine C.region ?_
  refine O.alloc Tryz.zeroValue56 (fun b2 w1 hb2 hz2 e1 => ?_)
  have z1 := e1.size
  have h2 := hz2.own
  have hl2 := h2.lt
  refine O.nil ?_
  refine hK1 _ _ ?_
  refine C.seqK fun K2 hK2 => ?_
  refine C.region ?_
  refine O.mv ?_
  refine O.call Tryz.call124 (args2 rfl rfl) (rdStr_spec b vr l k F 64 _ (ho.keep e1) (hl.keep e1) hk (fun j hj => by have q1 := hF j hj; omega) hL (by unfold InI; omega)) ?_
  rintro v_10 w2 ⟨nv10, env10, knv10, rfl, hov10, hcv10, e2⟩
  have z2 := e2.size
  refine O.mv ?_
  refine O.extract rfl rfl ?_
  refine O.extract rfl rfl ?_
  refine O.asg ?_
  refine O.asg ?_
  refine O.nil ?_
  refine hK2 _ _ ?_
  refine C.seqK fun K3 hK3 => ?_
  refine C.region ?_
  refine O.mv ?_
  refine O.callZ Tryz.call105 (args1 rfl) (must_spec _ _) (fun ch_ wz_ hz_ => ?_) ?_
  ·
    rcases hcv10 with ⟨q1, _⟩ | ⟨q1, q2, q4⟩
    · exact absurd q1 hz_.2.1
    · exact ⟨hz_.1, Cn.no_item1 q4, Ext.trans (Ext.new (Ext.new (Ext.refl _ _) e1 (by intro i hi hk; first | exact hk.elim | ((try dsimp only at hk); (try dsimp only); omega))) e2 (by intro i hi hk; first | exact hk.elim | ((try dsimp only at hk); (try dsimp only); omega))) (Le.to hz_.2.2)⟩
  rintro v_14 w3 ⟨rfl, hzv14, e3⟩
  have z3 := e3.size
  obtain ⟨q1, hnm, hsg10⟩ : env10 = 0 ∧ Cn.nameQ nv10 ∧ Cn.Seg (Cn.strB nv10) l k knv10 := by
    rcases hcv10 with ⟨q1, q2, q3⟩ | ⟨q1, _⟩
    · exact ⟨q1, q2, q3⟩
    · exfalso; omega
  refine O.nil ?_
  refine hK3 _ _ ?_
  refine C.seqK fun K4 hK4 => ?_
  refine C.region ?_
  refine O.mv ?_
  refine O.build (cells := #[str nv10, .slice none 0 0]) rfl (by kernel_rfl) ?_
  refine O.alloc Tryz.zeroValue56 (fun b5 w4 hb5 hz5 e4 => ?_)
  have z4 := e4.size
  have h5 := hz5.own
  have hl5 := h5.lt
  refine O.storeA (vs := [str nv10, .slice none 0 0]) Tryz.sizeOf56 rfl rfl rfl (ones2 rfl) h5 (Nat.le_of_ble_eq_true rfl) (fun w5 hs5 e5 z5 => ?_)
  refine O.nil ?_
  refine hK4 _ _ ?_
  refine C.seqK fun K5 hK5 => ?_
  refine C.seqK fun K6 hK6 => ?_
  refine C.region ?_
  refine O.mv ?_
  refine O.callZ Tryz.call108 (args2 rfl rfl) (num_spec b vr l knv10 F 18446744073709551615#64 _ (((hov10.keep e3).keep e4).keepM e5 (by intro h; (try dsimp only at h); omega)) (((((hl.keep e1).keepM e2 (by intro k hk h; first | (have q1 := hF k hk; (try dsimp only at h); omega) | ((try dsimp only at hk); (try dsimp only at h); omega))).keep e3).keep e4).keepM e5 (by intro k hk h; first | (have q1 := hF k hk; (try dsimp only at h); omega) | (have q1 := hF2 k hk; (try dsimp only at h); omega) | (have q1 := hFb k hk; (try dsimp only at h); omega) | ((try dsimp only at hk); (try dsimp only at h); omega))) hsg10.2.2 (fun j hj => by have q1 := hF j hj; omega) hL) (fun ch_ wz_ hz_ => ?_) ?_
  ·
    exact ⟨hz_.1, Cn.no_item2 hsg10 hnm (Cn.no_many1 (Cn.numA_of hz_.2.1 (by decide)) Cn.markB_ge (by omega)), Ext.trans (Ext.new (Ext.new (Ext.new (Ext.new (Ext.new (Ext.refl _ _) e1 (by intro i hi hk; first | exact hk.elim | ((try dsimp only at hk); (try dsimp only); omega))) e2 (by intro i hi hk; first | exact hk.elim | ((try dsimp only at hk); (try dsimp only); omega))) e3 (by intro i hi hk; first | exact hk.elim | ((try dsimp only at hk); (try dsimp only); omega))) e4 (by intro i hi hk; first | exact hk.elim | ((try dsimp only at hk); (try dsimp only); omega))) e5 (by intro i hi hk; first | exact hk.elim | ((try dsimp only at hk); (try dsimp only); omega))) hz_.2.2⟩
  rintro v_18 w6 ⟨nv18, knv18, rfl, hov18, hqv18, hsv18, e6⟩
  have z6 := e6.size
  refine O.asg ?_
  refine O.nil ?_
  refine hK6 _ _ ?_
  refine C.block fun K7 hK7 => ?_
  refine C.loop0 (σ := List MarkT × Value × Nat) (fun f0 w0 ⟨ms, vm, kc⟩ f wz => f 6 = .int .u64 ((BitVec.ofNat 64 (nv18.toNat - ms.length)).toNat : Int) ∧ f 0 = f0 0 ∧ f 2 = f0 2 ∧ f 5 = f0 5 ∧ Ext (fun j => j = b) w wz ∧ Own wz b 152 [.bool true, vr, .int .i64 ((kc : Int))] ∧ Own wz b2 56 [str [], .slice none 0 0] ∧ Own wz b5 56 [str nv10, vm] ∧ OwnF markF 53 (b5 + 1) wz vm ms ∧ ms.length ≤ nv18.toNat ∧ Cn.manyQ Cn.markQ ms ∧ Cn.Seg (ms.flatMap Cn.markB) l knv18 kc) (fun ⟨ms, vm, kc⟩ => nv18.toNat - ms.length) ([], .slice none 0 0, knv18) ?_ ?_
  ·
    refine ⟨(Eq.trans rfl (congrArg (fun q : BitVec 64 => Value.int .u64 (q.toNat : Int)) (by simp))), rfl, rfl, rfl, (Ext.new (Ext.new (Ext.new (Ext.new (Ext.new (Ext.new (Ext.refl _ _) e1 (by intro i hi hk; first | exact hk.elim | ((try dsimp only at hk); (try dsimp only); omega))) e2 (by intro i hi hk; first | exact hk.elim | ((try dsimp only at hk); (try dsimp only); omega))) e3 (by intro i hi hk; first | exact hk.elim | ((try dsimp only at hk); (try dsimp only); omega))) e4 (by intro i hi hk; first | exact hk.elim | ((try dsimp only at hk); (try dsimp only); omega))) e5 (by intro i hi hk; first | exact hk.elim | ((try dsimp only at hk); (try dsimp only); omega))) e6 (by intro i hi hk; first | exact hk.elim | ((try dsimp only at hk); (try dsimp only); omega))), hov18, (((((h2.keepM e2 (by intro h; (try dsimp only at h); omega)).keep e3).keep e4).keepM e5 (by intro h; (try dsimp only at h); omega)).keepM e6 (by intro h; (try dsimp only at h); omega)), (hs5.keepM e6 (by intro h; (try dsimp only at h); omega)), (OwnF.nil _ _ _ _), ?_⟩
    exact ⟨Nat.zero_le _, Cn.manyQ_nil, Cn.Seg.nil hsv18.2.2⟩
  ·
    rintro ⟨ms, vm, kc⟩ f_1 w7 ⟨s6_1, s0_1, s2_1, s5_1, e_1, r0_1, r1_1, r2_1, r3_1, ⟨hj, hQ, hS⟩⟩
    have z_1 := e_1.size
    have r3_1s := r3_1.sl
    have hln := Cn.seg_len Cn.markB_ge hS
    have hNl := nv18.isLt
    have hvm1 := (r3_1).one
    have hbl5 := (r2_1).lt
    have hbl2 := (r1_1).lt
    refine C.seqK fun K8 hK8 => ?_
    refine C.seqK fun K9 hK9 => ?_
    refine C.region ?_
    refine O.mv ?_
    refine O.gtrU (m := 64) (b := 0#64) s6_1 rfl ?_
    refine O.nil ?_
    refine hK9 _ _ ?_
    refine C.condD rfl (fun c20 => ?_) (fun c20 => ?_)
    ·
      have hj2 : ms.length < nv18.toNat := by have q := (Cn.pos_ofNat (m := nv18.toNat - ms.length) (by omega)).1 c20; omega
      refine C.skip ?_
      refine hK8 _ _ ?_
      refine C.seqK fun K10 hK10 => ?_
      refine C.block fun K11 hK11 => ?_
      refine C.seqK fun K12 hK12 => ?_
      refine C.region ?_
      refine O.mv ?_
      refine O.callZ Tryz.call125 (args1 s0_1) (one_spec b vr l kc F _ r0_1 (hl.keepM e_1 (by intro k hk h; first | (have q1 := hF k hk; (try dsimp only at h); omega) | ((try dsimp only at hk); (try dsimp only at h); omega))) hS.2.2 (fun j hj => by have q1 := hF j hj; omega) hL) (fun ch_ wz_ hz_ => ?_) ?_
      ·
        exact ⟨hz_.1, Cn.no_item2 hsg10 hnm (Cn.no_many2 hsv18 Cn.pre_markQ hQ hS hj2 (Cn.no_mark1 hz_.2.1)), Ext.trans (Ext.new (Ext.refl _ _) e_1 (by intro i hi hk; first | exact hk.elim | ((try dsimp only at hk); (try dsimp only); omega))) hz_.2.2⟩
      rintro v_24 w8 ⟨dv24, knv24, rfl, hov24, hqv24, hsv24, e8⟩
      have z8 := e8.size
      refine O.build (cells := #[.int .i64 dv24.1, .int .i64 dv24.2, .int .i64 0, .int .u64 0]) rfl (by kernel_rfl) ?_
      refine O.alloc Tryz.zeroValue53 (fun b7 w9 hb7 hz7 e9 => ?_)
      have z9 := e9.size
      have h7 := hz7.own
      have hl7 := h7.lt
      refine O.storeA (vs := [.int .i64 dv24.1, .int .i64 dv24.2, .int .i64 0, .int .u64 0]) Tryz.sizeOf53 rfl rfl rfl (by simp [Value.oneCell']) h7 (Nat.le_of_ble_eq_true rfl) (fun w10 hs10 e10 z10 => ?_)
      refine O.nil ?_
      refine hK12 _ _ ?_
      refine C.seqK fun K13 hK13 => ?_
      refine C.region ?_
      refine O.mv ?_
      refine O.callZ Tryz.call108 (args2 s0_1 rfl) (num_spec b vr l knv24 F 2147483647#64 _ ((hov24.keep e9).keepM e10 (by intro h; (try dsimp only at h); omega)) ((((hl.keepM e_1 (by intro k hk h; first | (have q1 := hF k hk; (try dsimp only at h); omega) | ((try dsimp only at hk); (try dsimp only at h); omega))).keepM e8 (by intro k hk h; first | (have q1 := hF k hk; (try dsimp only at h); omega) | ((try dsimp only at hk); (try dsimp only at h); omega))).keep e9).keepM e10 (by intro k hk h; first | (have q1 := hF k hk; (try dsimp only at h); omega) | (have q1 := hF2 k hk; (try dsimp only at h); omega) | (have q1 := hFb k hk; (try dsimp only at h); omega) | ((try dsimp only at hk); (try dsimp only at h); omega))) hsv24.2.2 (fun j hj => by have q1 := hF j hj; omega) hL) (fun ch_ wz_ hz_ => ?_) ?_
      ·
        exact ⟨hz_.1, Cn.no_item2 hsg10 hnm (Cn.no_many2 hsv18 Cn.pre_markQ hQ hS hj2 (Cn.no_mark2 hsv24 hqv24 hz_.2.1)), Ext.trans (Ext.new (Ext.new (Ext.new (Ext.new (Ext.refl _ _) e_1 (by intro i hi hk; first | exact hk.elim | ((try dsimp only at hk); (try dsimp only); omega))) e8 (by intro i hi hk; first | exact hk.elim | ((try dsimp only at hk); (try dsimp only); omega))) e9 (by intro i hi hk; first | exact hk.elim | ((try dsimp only at hk); (try dsimp only); omega))) e10 (by intro i hi hk; first | exact hk.elim | ((try dsimp only at hk); (try dsimp only); omega))) hz_.2.2⟩
      rintro v_27 w11 ⟨nv27, knv27, rfl, hov27, hqv27, hsv27, e11⟩
      have z11 := e11.size
      refine O.convU64I Tryz.underlying49 Tryz.underlying3 rfl ?_
      refine O.fieldAd Tryz.underlying53 rfl Tryz.sizeOf3 (by decide) rfl ?_
      refine O.store Tryz.sizeOf3 rfl rfl rfl (hs10.keepM e11 (by intro h; (try dsimp only at h); omega)) (by simp) (fun w12 hs12 e12 z12 => ?_)
      try simp only [Nat.zero_add] at hs12
      refine O.nil ?_
      refine hK13 _ _ ?_
      refine C.seqK fun K14 hK14 => ?_
      refine C.region ?_
      refine O.mv ?_
      refine O.callZ Tryz.call108 (args2 s0_1 rfl) (num_spec b vr l knv27 F 18446744073709551615#64 _ (hov27.keepM e12 (by intro h; (try dsimp only at h); omega)) ((((((hl.keepM e_1 (by intro k hk h; first | (have q1 := hF k hk; (try dsimp only at h); omega) | ((try dsimp only at hk); (try dsimp only at h); omega))).keepM e8 (by intro k hk h; first | (have q1 := hF k hk; (try dsimp only at h); omega) | ((try dsimp only at hk); (try dsimp only at h); omega))).keep e9).keepM e10 (by intro k hk h; first | (have q1 := hF k hk; (try dsimp only at h); omega) | (have q1 := hF2 k hk; (try dsimp only at h); omega) | (have q1 := hFb k hk; (try dsimp only at h); omega) | ((try dsimp only at hk); (try dsimp only at h); omega))).keepM e11 (by intro k hk h; first | (have q1 := hF k hk; (try dsimp only at h); omega) | ((try dsimp only at hk); (try dsimp only at h); omega))).keepM e12 (by intro k hk h; first | (have q1 := hF k hk; (try dsimp only at h); omega) | (have q1 := hF2 k hk; (try dsimp only at h); omega) | (have q1 := hFb k hk; (try dsimp only at h); omega) | ((try dsimp only at hk); (try dsimp only at h); omega))) hsv27.2.2 (fun j hj => by have q1 := hF j hj; omega) hL) (fun ch_ wz_ hz_ => ?_) ?_
      ·
        exact ⟨hz_.1, Cn.no_item2 hsg10 hnm (Cn.no_many2 hsv18 Cn.pre_markQ hQ hS hj2 (Cn.no_mark3 hsv24 hqv24 hsv27 hqv27 (Cn.numA_of hz_.2.1 (by decide)))), Ext.trans (Ext.new (Ext.new (Ext.new (Ext.new (Ext.new (Ext.new (Ext.refl _ _) e_1 (by intro i hi hk; first | exact hk.elim | ((try dsimp only at hk); (try dsimp only); omega))) e8 (by intro i hi hk; first | exact hk.elim | ((try dsimp only at hk); (try dsimp only); omega))) e9 (by intro i hi hk; first | exact hk.elim | ((try dsimp only at hk); (try dsimp only); omega))) e10 (by intro i hi hk; first | exact hk.elim | ((try dsimp only at hk); (try dsimp only); omega))) e11 (by intro i hi hk; first | exact hk.elim | ((try dsimp only at hk); (try dsimp only); omega))) e12 (by intro i hi hk; first | exact hk.elim | ((try dsimp only at hk); (try dsimp only); omega))) hz_.2.2⟩
      rintro v_31 w13 ⟨nv31, knv31, rfl, hov31, hqv31, hsv31, e13⟩
      have z13 := e13.size
      refine O.fieldAd Tryz.underlying53 rfl Tryz.sizeOf49 (by decide) rfl ?_
      refine O.store Tryz.sizeOf49 rfl rfl rfl (hs12.keepM e13 (by intro h; (try dsimp only at h); omega)) (by simp) (fun w14 hs14 e14 z14 => ?_)
      try simp only [Nat.zero_add] at hs14
      refine O.nil ?_
      refine hK14 _ _ ?_
      refine C.region ?_
      refine O.fieldAd Tryz.underlying56 rfl Tryz.sizeOf54 (by decide) s5_1 ?_
      refine O.loadO Tryz.isAgg54 rfl (((((((r2_1.keepM e8 (by intro h; (try dsimp only at h); omega)).keep e9).keepM e10 (by intro h; (try dsimp only at h); omega)).keepM e11 (by intro h; (try dsimp only at h); omega)).keepM e12 (by intro h; (try dsimp only at h); omega)).keepM e13 (by intro h; (try dsimp only at h); omega)).keepM e14 (by intro h; (try dsimp only at h); omega)) rfl ?_
      refine O.loadOA Tryz.isAgg53 Tryz.sizeOf53 rfl hs14 (Nat.le_of_ble_eq_true rfl) ?_
      refine O.cast (v' := mv (dv24, nv27.toInt, nv31)) rfl ?_
      refine O.litG (G := markF) [(dv24, nv27.toInt, nv31)] Tryz.underlying54 ti53 ts53 tz53 rfl (by decide) (by decide) rfl (fun b36 w15 hb36 hz36 e15 => ?_)
      have z15 := e15.size
      have h36 := hz36.own
      have hq36 := Sl.litG (n := 1) h36 rfl (by unfold maxLen; omega)
      refine O.appF (G := markF) Tryz.underlying54 ti53 tz53 ts53 rfl rfl rfl ((((((((r3_1.keepM e8 (fun k hk h => by have := r3_1.bk_ge k hk; (try dsimp only at h); omega)).keep e9).keepM e10 (fun k hk h => by have := r3_1.bk_ge k hk; (try dsimp only at h); omega)).keepM e11 (fun k hk h => by have := r3_1.bk_ge k hk; (try dsimp only at h); omega)).keepM e12 (fun k hk h => by have := r3_1.bk_ge k hk; (try dsimp only at h); omega)).keepM e13 (fun k hk h => by have := r3_1.bk_ge k hk; (try dsimp only at h); omega)).keepM e14 (fun k hk h => by have := r3_1.bk_ge k hk; (try dsimp only at h); omega)).keep e15) hq36 (by rw [tb53]; simp; omega) (by unfold maxLen; simp; omega) (by omega) (fun v37 w16 h37 e16 => ?_)
      have e16m : Ext (fun j => w.heap.size ≤ j) w15 w16 := e16.mono (fun j _ hj => by have := ((((((((r3_1.keepM e8 (fun k hk h => by have := r3_1.bk_ge k hk; (try dsimp only at h); omega)).keep e9).keepM e10 (fun k hk h => by have := r3_1.bk_ge k hk; (try dsimp only at h); omega)).keepM e11 (fun k hk h => by have := r3_1.bk_ge k hk; (try dsimp only at h); omega)).keepM e12 (fun k hk h => by have := r3_1.bk_ge k hk; (try dsimp only at h); omega)).keepM e13 (fun k hk h => by have := r3_1.bk_ge k hk; (try dsimp only at h); omega)).keepM e14 (fun k hk h => by have := r3_1.bk_ge k hk; (try dsimp only at h); omega)).keep e15).bk_ge j hj; omega)
      have z16 := e16.size
      have h37s := h37.sl
      refine O.fieldAd Tryz.underlying56 rfl Tryz.sizeOf54 (by decide) s5_1 ?_
      refine O.store Tryz.sizeOf54 rfl rfl h37.one (((((((((r2_1.keepM e8 (by intro h; (try dsimp only at h); omega)).keep e9).keepM e10 (by intro h; (try dsimp only at h); omega)).keepM e11 (by intro h; (try dsimp only at h); omega)).keepM e12 (by intro h; (try dsimp only at h); omega)).keepM e13 (by intro h; (try dsimp only at h); omega)).keepM e14 (by intro h; (try dsimp only at h); omega)).keep e15).keepM e16 (by intro h; have := ((((((((r3_1.keepM e8 (fun k hk h => by have := r3_1.bk_ge k hk; (try dsimp only at h); omega)).keep e9).keepM e10 (fun k hk h => by have := r3_1.bk_ge k hk; (try dsimp only at h); omega)).keepM e11 (fun k hk h => by have := r3_1.bk_ge k hk; (try dsimp only at h); omega)).keepM e12 (fun k hk h => by have := r3_1.bk_ge k hk; (try dsimp only at h); omega)).keepM e13 (fun k hk h => by have := r3_1.bk_ge k hk; (try dsimp only at h); omega)).keepM e14 (fun k hk h => by have := r3_1.bk_ge k hk; (try dsimp only at h); omega)).keep e15).bk_ge _ h; omega)) (by simp) (fun w17 hs17 e17 z17 => ?_)
      try simp only [Nat.zero_add] at hs17
      refine O.nil ?_
      refine hK11 _ _ ?_
      refine hK10 _ _ ?_
      refine C.region ?_
      refine O.mv ?_
      refine O.subU (m := 64) (b := 1#64) rfl rfl s6_1 rfl ?_
      refine O.asg ?_
      refine O.nil ?_
      refine ⟨(ms ++ [(dv24, nv27.toInt, nv31)], v37, knv31), ⟨(Eq.trans rfl (congrArg (fun q : BitVec 64 => Value.int .u64 (q.toNat : Int)) (by rw [Cn.dec_ofNat (by omega) (by omega), List.length_append]; rfl))), s0_1, s2_1, s5_1, (Ext.new (Ext.new (Ext.new (Ext.new (Ext.new (Ext.new (Ext.new (Ext.new (Ext.new (Ext.new (Ext.new (Ext.refl _ _) e_1 (by intro i hi hk; first | exact hk.elim | ((try dsimp only at hk); (try dsimp only); omega))) e8 (by intro i hi hk; first | exact hk.elim | ((try dsimp only at hk); (try dsimp only); omega))) e9 (by intro i hi hk; first | exact hk.elim | ((try dsimp only at hk); (try dsimp only); omega))) e10 (by intro i hi hk; first | exact hk.elim | ((try dsimp only at hk); (try dsimp only); omega))) e11 (by intro i hi hk; first | exact hk.elim | ((try dsimp only at hk); (try dsimp only); omega))) e12 (by intro i hi hk; first | exact hk.elim | ((try dsimp only at hk); (try dsimp only); omega))) e13 (by intro i hi hk; first | exact hk.elim | ((try dsimp only at hk); (try dsimp only); omega))) e14 (by intro i hi hk; first | exact hk.elim | ((try dsimp only at hk); (try dsimp only); omega))) e15 (by intro i hi hk; first | exact hk.elim | ((try dsimp only at hk); (try dsimp only); omega))) e16m (by intro i hi hk; first | exact hk.elim | ((try dsimp only at hk); (try dsimp only); omega))) e17 (by intro i hi hk; first | exact hk.elim | ((try dsimp only at hk); (try dsimp only); omega))), ((((hov31.keepM e14 (by intro h; (try dsimp only at h); omega)).keep e15).keepM e16 (by intro h; have := ((((((((r3_1.keepM e8 (fun k hk h => by have := r3_1.bk_ge k hk; (try dsimp only at h); omega)).keep e9).keepM e10 (fun k hk h => by have := r3_1.bk_ge k hk; (try dsimp only at h); omega)).keepM e11 (fun k hk h => by have := r3_1.bk_ge k hk; (try dsimp only at h); omega)).keepM e12 (fun k hk h => by have := r3_1.bk_ge k hk; (try dsimp only at h); omega)).keepM e13 (fun k hk h => by have := r3_1.bk_ge k hk; (try dsimp only at h); omega)).keepM e14 (fun k hk h => by have := r3_1.bk_ge k hk; (try dsimp only at h); omega)).keep e15).bk_ge _ h; omega)).keepM e17 (by intro h; (try dsimp only at h); omega)), ((((((((((r1_1.keepM e8 (by intro h; (try dsimp only at h); omega)).keep e9).keepM e10 (by intro h; (try dsimp only at h); omega)).keepM e11 (by intro h; (try dsimp only at h); omega)).keepM e12 (by intro h; (try dsimp only at h); omega)).keepM e13 (by intro h; (try dsimp only at h); omega)).keepM e14 (by intro h; (try dsimp only at h); omega)).keep e15).keepM e16 (by intro h; have := ((((((((r3_1.keepM e8 (fun k hk h => by have := r3_1.bk_ge k hk; (try dsimp only at h); omega)).keep e9).keepM e10 (fun k hk h => by have := r3_1.bk_ge k hk; (try dsimp only at h); omega)).keepM e11 (fun k hk h => by have := r3_1.bk_ge k hk; (try dsimp only at h); omega)).keepM e12 (fun k hk h => by have := r3_1.bk_ge k hk; (try dsimp only at h); omega)).keepM e13 (fun k hk h => by have := r3_1.bk_ge k hk; (try dsimp only at h); omega)).keepM e14 (fun k hk h => by have := r3_1.bk_ge k hk; (try dsimp only at h); omega)).keep e15).bk_ge _ h; omega)).keepM e17 (by intro h; (try dsimp only at h); omega)), hs17, (h37.keepM e17 (fun k hk h => by have := h37.bk_ge k hk; (try dsimp only at h); omega)), ?_⟩, by show nv18.toNat - (ms ++ [_]).length < nv18.toNat - ms.length; rw [List.length_append]; show nv18.toNat - (ms.length + 1) < _; omega⟩
      exact ⟨by rw [List.length_append]; exact hj2, Cn.manyQ_snoc hQ (Cn.markQ_mk hqv24 hqv27), Cn.Seg.snoc hS (Cn.seg_mark hsv24 hsv27 hsv31)⟩
    ·
      have hj3 : ms.length = nv18.toNat := by have q := mt (Cn.pos_ofNat (m := nv18.toNat - ms.length) (by omega)).2 c20; omega
      refine C.exit ?_
      refine hK7 _ _ ?_
      refine hK5 _ _ ?_
      refine C.seqK fun K15 hK15 => ?_
      refine C.region ?_
      refine O.loadOA Tryz.isAgg56 Tryz.sizeOf56 s5_1 r2_1 (Nat.le_of_ble_eq_true rfl) ?_
      refine O.storeA (vs := [str nv10, vm]) Tryz.sizeOf56 rfl s2_1 rfl (ones2 hvm1) r1_1 (Nat.le_of_ble_eq_true rfl) (fun w18 hs18 e18 z18 => ?_)
      refine O.nil ?_
      refine hK15 _ _ ?_
      refine C.ret ?_
      refine Outs.cellA rfl Tryz.isAgg56 Tryz.sizeOf56 s2_1 hs18 rfl ?_
      exact ⟨nv10, vm, ms, kc, rfl, (r0_1.keepM e18 (by intro h; (try dsimp only at h); omega)), ((r3_1.keepM e18 (fun k hk h => by have := r3_1.bk_ge k hk; (try dsimp only at h); omega))).fre (fun j hj => by have := ((r3_1.keepM e18 (fun k hk h => by have := r3_1.bk_ge k hk; (try dsimp only at h); omega))).bk_ge j hj; exact ⟨by omega, by omega⟩), by omega, Cn.itemQ_mk hnm hQ, Cn.seg_item hsg10 (Cn.seg_many hsv18 hS hj3), (Ext.new (Ext.new (Ext.refl _ _) e_1 (by intro i hi hk; first | exact hk.elim | ((try dsimp only at hk); (try dsimp only); omega))) e18 (by intro i hi hk; first | exact hk.elim | ((try dsimp only at hk); (try dsimp only); omega)))⟩

set_option maxHeartbeats 4000000 in
theorem dwhole_spec (b : Nat) (vr : Value) (l : List UInt8) (k : Nat) (F : Nat → Prop) (w : World) (ho : Own w b 152 [.bool true, vr, .int .i64 ((k : Int))]) (hl : Sl byteE w F vr l) (hk : k ≤ l.length) (hF : ∀ j, F j → j ≠ b ∧ j < w.heap.size) (hL : l.length ≤ 1000000) (mx : Mx w) (hgb : b ≠ 0) :
    RetZ Tryz.prog 84 #[.pointer (some ⟨b, 0, none⟩)] w (fun v w' => ∃ (v1 v2 v3 : Value) (c : Cn.Cart) (k' : Nat), v = .agg #[v1, v2, v3] ∧ Own w' b 152 [.bool true, vr, .int .i64 ((k' : Int))] ∧ Fre Dt.dotF 51 w' (fun j => w.heap.size ≤ j ∧ j < w'.heap.size) v1 c.1.1 ∧ Fre Dt.dotF 51 w' (fun j => w.heap.size ≤ j ∧ j < w'.heap.size) v2 c.1.2 ∧ SlI 56 53 w' (fun j => w.heap.size ≤ j ∧ j < w'.heap.size) v3 c.2 ∧ Cn.big c ∧ Cn.valid c = true ∧ Cn.Seg (Cn.bytes c) l k k' ∧ Ext (fun j => j = b) w w') (fun ch w' => ch = [{ v := .iface 150 (.agg #[]), recovered := false }] ∧ Cn.No Cn.val Cn.bytes l k ∧ Ext (fun j => j = b) w w') := by
  have _hF9 := hF
  have _hk9 := hk
  have hbl := ho.lt
  have hll := hl.le
  obtain ⟨ie56, ti56, ts56, tb56, tz56⟩ := inf56
  have hgl := mx.lt
  refine enterZ (args := [.pointer (some ⟨b, 0, none⟩)]) (n := 27) Tryz.func84 rfl rfl (Nat.le_of_ble_eq_true rfl) ?_
  refine C.seqK fun K1 hK1 => ?_
  refine C.region ?_
  refine O.alloc Tryz.zeroValue28 (fun b2 w1 hb2 hz2 e1 => ?_)
  have z1 := e1.size
  have h2 := hz2.own
  have hl2 := h2.lt
  refine O.nil ?_
  refine hK1 _ _ ?_
  refine C.seqK fun K2 hK2 => ?_
  refine C.region ?_
  refine O.mv ?_
  refine O.callZ Tryz.call104 (args1 rfl) (dseen_spec b vr l k F _ (ho.keep e1) (hl.keep e1) hk (fun j hj => by have q1 := hF j hj; omega) hL) (fun ch_ wz_ hz_ => ?_) ?_
  ·
    exact ⟨hz_.1, Cn.no_val (Cn.no_cart1 hz_.2.1), Ext.trans (Ext.new (Ext.refl _ _) e1 (by intro i hi hk; first | exact hk.elim | ((try dsimp only at hk); (try dsimp only); omega))) hz_.2.2⟩
  rintro v_6 w2 ⟨vav6, vbv6, xv6, knv6, rfl, hov6, hxv6, hyv6, hnv6, hcv6, hsv6, e2⟩
  have z2 := e2.size
  obtain ⟨p6, rfl⟩ := hxv6.slv
  obtain ⟨q6, rfl⟩ := hyv6.slv
  have hxs6 := hxv6.sl
  have hys6 := hyv6.sl
  refine O.build (cells := #[slv p6, slv q6, .slice none 0 0]) rfl (by kernel_rfl) ?_
  refine O.alloc Tryz.zeroValue28 (fun b3 w3 hb3 hz3 e3 => ?_)
  have z3 := e3.size
  have h3 := hz3.own
  have hl3 := h3.lt
  refine O.storeA (vs := [slv p6, slv q6, .slice none 0 0]) Tryz.sizeOf28 rfl rfl rfl (by simp [slv, Value.oneCell']) h3 (Nat.le_of_ble_eq_true rfl) (fun w4 hs4 e4 z4 => ?_)
  refine O.nil ?_
  refine hK2 _ _ ?_
  refine C.seqK fun K3 hK3 => ?_
  refine C.seqK fun K4 hK4 => ?_
  refine C.region ?_
  refine O.mv ?_
  refine O.callZ Tryz.call108 (args2 rfl rfl) (num_spec b vr l knv6 F 18446744073709551615#64 _ ((hov6.keep e3).keepM e4 (by intro h; (try dsimp only at h); omega)) ((((hl.keep e1).keepM e2 (by intro k hk h; first | (have q1 := hF k hk; (try dsimp only at h); omega) | ((try dsimp only at hk); (try dsimp only at h); omega))).keep e3).keepM e4 (by intro k hk h; first | (have q1 := hF k hk; (try dsimp only at h); omega) | (have q1 := hF2 k hk; (try dsimp only at h); omega) | (have q1 := hFb k hk; (try dsimp only at h); omega) | ((try dsimp only at hk); (try dsimp only at h); omega))) hsv6.2.2 (fun j hj => by have q1 := hF j hj; omega) hL) (fun ch_ wz_ hz_ => ?_) ?_
  ·
    exact ⟨hz_.1, Cn.no_val (Cn.no_cart2 hsv6 hcv6 (Cn.no_many1 (Cn.numA_of hz_.2.1 (by decide)) Cn.itemB_ge (by omega))), Ext.trans (Ext.new (Ext.new (Ext.new (Ext.new (Ext.refl _ _) e1 (by intro i hi hk; first | exact hk.elim | ((try dsimp only at hk); (try dsimp only); omega))) e2 (by intro i hi hk; first | exact hk.elim | ((try dsimp only at hk); (try dsimp only); omega))) e3 (by intro i hi hk; first | exact hk.elim | ((try dsimp only at hk); (try dsimp only); omega))) e4 (by intro i hi hk; first | exact hk.elim | ((try dsimp only at hk); (try dsimp only); omega))) hz_.2.2⟩
  rintro v_9 w5 ⟨nv9, knv9, rfl, hov9, hqv9, hsv9, e5⟩
  have z5 := e5.size
  refine O.asg ?_
  refine O.nil ?_
  refine hK4 _ _ ?_
  refine C.block fun K5 hK5 => ?_
  refine C.loop0 (σ := List ItemT × List (List UInt8 × (Option Addr × Nat × Nat)) × Value × Nat) (fun f0 w0 ⟨its, raw, o, kc⟩ f wz => f 4 = .int .u64 ((BitVec.ofNat 64 (nv9.toNat - its.length)).toNat : Int) ∧ f 0 = f0 0 ∧ f 2 = f0 2 ∧ f 3 = f0 3 ∧ Ext (fun j => j = b) w wz ∧ Own wz b 152 [.bool true, vr, .int .i64 ((kc : Int))] ∧ Own wz b2 28 [.slice none 0 0, .slice none 0 0, .slice none 0 0] ∧ Own wz b3 28 [slv p6, slv q6, o] ∧ OwnF itemF 56 (b3 + 1) wz o raw ∧ ItemsF 53 wz (fun j => b3 < j ∧ j < wz.heap.size ∧ ¬ bk o j) raw its ∧ Sl Dt.dotF.enc wz (fun j => b2 < j ∧ j < b3) (slv p6) xv6.1 ∧ Sl Dt.dotF.enc wz (fun j => b2 < j ∧ j < b3) (slv q6) xv6.2 ∧ Fre Dt.dotF 51 wz (fun j => b2 < j ∧ j < b3) (slv p6) xv6.1 ∧ Fre Dt.dotF 51 wz (fun j => b2 < j ∧ j < b3) (slv q6) xv6.2 ∧ its.length ≤ nv9.toNat ∧ Cn.manyQ Cn.itemQ its ∧ (∀ x ∈ its, x.2.length ≤ 1000000) ∧ Cn.Seg (its.flatMap Cn.itemB) l knv9 kc) (fun ⟨its, raw, o, kc⟩ => nv9.toNat - its.length) ([], [], .slice none 0 0, knv9) ?_ ?_
  ·
    refine ⟨(Eq.trans rfl (congrArg (fun q : BitVec 64 => Value.int .u64 (q.toNat : Int)) (by simp))), rfl, rfl, rfl, (Ext.new (Ext.new (Ext.new (Ext.new (Ext.new (Ext.refl _ _) e1 (by intro i hi hk; first | exact hk.elim | ((try dsimp only at hk); (try dsimp only); omega))) e2 (by intro i hi hk; first | exact hk.elim | ((try dsimp only at hk); (try dsimp only); omega))) e3 (by intro i hi hk; first | exact hk.elim | ((try dsimp only at hk); (try dsimp only); omega))) e4 (by intro i hi hk; first | exact hk.elim | ((try dsimp only at hk); (try dsimp only); omega))) e5 (by intro i hi hk; first | exact hk.elim | ((try dsimp only at hk); (try dsimp only); omega))), hov9, ((((h2.keepM e2 (by intro h; (try dsimp only at h); omega)).keep e3).keepM e4 (by intro h; (try dsimp only at h); omega)).keepM e5 (by intro h; (try dsimp only at h); omega)), (hs4.keepM e5 (by intro h; (try dsimp only at h); omega)), (OwnF.nil _ _ _ _), ItemsF.nil, (((((hxs6.keep e3).keepM e4 (by intro k hk h; first | (have q1 := hF k hk; (try dsimp only at h); omega) | (have q1 := hF2 k hk; (try dsimp only at h); omega) | (have q1 := hFb k hk; (try dsimp only at h); omega) | ((try dsimp only at hk); (try dsimp only at h); omega))).keepM e5 (by intro k hk h; first | (have q1 := hF k hk; (try dsimp only at h); omega) | ((try dsimp only at hk); (try dsimp only at h); omega)))).weak (by intro j hj; (try dsimp only at hj); (try dsimp only); omega)), (((((hys6.keep e3).keepM e4 (by intro k hk h; first | (have q1 := hF k hk; (try dsimp only at h); omega) | (have q1 := hF2 k hk; (try dsimp only at h); omega) | (have q1 := hFb k hk; (try dsimp only at h); omega) | ((try dsimp only at hk); (try dsimp only at h); omega))).keepM e5 (by intro k hk h; first | (have q1 := hF k hk; (try dsimp only at h); omega) | ((try dsimp only at hk); (try dsimp only at h); omega)))).weak (by intro j hj; (try dsimp only at hj); (try dsimp only); omega)), (((((hxv6.keep e3).keepM e4 (by intro k hk h; first | (have q1 := hF k hk; (try dsimp only at h); omega) | (have q1 := hF2 k hk; (try dsimp only at h); omega) | (have q1 := hFb k hk; (try dsimp only at h); omega) | ((try dsimp only at hk); (try dsimp only at h); omega))).keepM e5 (by intro k hk h; first | (have q1 := hF k hk; (try dsimp only at h); omega) | ((try dsimp only at hk); (try dsimp only at h); omega)))).weak (by intro j hj; (try dsimp only at hj); (try dsimp only); omega)), (((((hyv6.keep e3).keepM e4 (by intro k hk h; first | (have q1 := hF k hk; (try dsimp only at h); omega) | (have q1 := hF2 k hk; (try dsimp only at h); omega) | (have q1 := hFb k hk; (try dsimp only at h); omega) | ((try dsimp only at hk); (try dsimp only at h); omega))).keepM e5 (by intro k hk h; first | (have q1 := hF k hk; (try dsimp only at h); omega) | ((try dsimp only at hk); (try dsimp only at h); omega)))).weak (by intro j hj; (try dsimp only at hj); (try dsimp only); omega)), ?_⟩
    exact ⟨Nat.zero_le _, Cn.manyQ_nil, Cn.manyQ_nil, Cn.Seg.nil hsv9.2.2⟩
  ·
    rintro ⟨its, raw, o, kc⟩ f_1 w6 ⟨s4_1, s0_1, s2_1, s3_1, e_1, r0_1, r1_1, r2_1, r3_1, r4_1, r5_1, r6_1, r7_1, r8_1, ⟨hj, hQ, hI, hS⟩⟩
    have z_1 := e_1.size
    have r3_1s := r3_1.sl
    obtain ⟨wL, hwL⟩ : ∃ x, x = w6 := ⟨_, rfl⟩
    have hzL : wL.heap.size = w6.heap.size := by rw [hwL]
    have hln := Cn.seg_len Cn.itemB_ge hS
    have hNl := nv9.isLt
    have ho1 := (r3_1).one
    have hbl3 := (r2_1).lt
    have hbl2 := (r1_1).lt
    have hit := r4_1
    have hitl := hit.1
    have hob := (r3_1).bk_ge
    refine C.seqK fun K6 hK6 => ?_
    refine C.seqK fun K7 hK7 => ?_
    refine C.region ?_
    refine O.mv ?_
    refine O.gtrU (m := 64) (b := 0#64) s4_1 rfl ?_
    refine O.nil ?_
    refine hK7 _ _ ?_
    refine C.condD rfl (fun c11 => ?_) (fun c11 => ?_)
    ·
      have hj2 : its.length < nv9.toNat := by have q := (Cn.pos_ofNat (m := nv9.toNat - its.length) (by omega)).1 c11; omega
      refine C.skip ?_
      refine hK6 _ _ ?_
      refine C.seqK fun K8 hK8 => ?_
      refine C.block fun K9 hK9 => ?_
      refine C.drawB (wB := (bare w6)) (by kernel_rfl) fun w7 e7 => ?_
      have z7 := e7.size
      refine D.take (i := 0) rfl rfl rfl rfl (by kernel_rfl) (Ext.bare (Ext.new (Ext.refl (fun _ => True) _) e7 (fun _ _ _ => trivial))) ⟨_, rfl⟩ (fun w_ hw_ N_ hN => (O.fieldAd Tryz.underlying28 rfl Tryz.sizeOf26 (by decide) s3_1 (O.nil hN))) ?_
      refine D.take (i := 2) rfl rfl rfl rfl (by kernel_rfl) (Ext.bare (Ext.new (Ext.refl (fun _ => True) _) e7 (fun _ _ _ => trivial))) ⟨pure _, rfl⟩ (fun w_ hw_ N_ hN => (O.mv (O.nil hN))) ?_
      refine D.many [1, 3] (by kernel_rfl) (by decide) ⟨?_, ?_, trivial⟩
      ·
        refine D.stepU rfl rfl ?_
        refine O.loadO Tryz.isAgg26 rfl (r2_1.keep e7) rfl ?_
        refine O.nil ⟨(Ext.bare (Ext.new (Ext.refl (fun _ => True) _) e7 (fun _ _ _ => trivial))), ?_⟩
        refine D.one (i := 3) rfl rfl (by kernel_rfl) ?_
        refine O.callZ Tryz.call109 (args1 s0_1) (ditem_spec b vr l kc F _ (r0_1.keep e7) ((hl.keepM e_1 (by intro k hk h; first | (have q1 := hF k hk; (try dsimp only at h); omega) | ((try dsimp only at hk); (try dsimp only at h); omega))).keep e7) hS.2.2 (fun j hj => by have q1 := hF j hj; omega) hL) (fun ch_ wz_ hz_ => ?_) ?_
        ·
          exact ⟨hz_.1, Cn.no_val (Cn.no_cart2 hsv6 hcv6 (Cn.no_many2 hsv9 Cn.pre_itemQ hQ hS hj2 hz_.2.1)), Ext.trans (Ext.new (Ext.new (Ext.refl _ _) e_1 (by intro i hi hk; first | exact hk.elim | ((try dsimp only at hk); (try dsimp only); omega))) e7 (by intro i hi hk; first | exact hk.elim | ((try dsimp only at hk); (try dsimp only); omega))) hz_.2.2⟩
        rintro v_17 w8 ⟨sv17, vmv17, msv17, knv17, rfl, hov17, hmv17, hnv17, hqv17, hsv17, e8⟩
        have z8 := e8.size
        refine O.nil ⟨(Ext.bare (Ext.new (Ext.new (Ext.refl (fun _ => True) _) e7 (fun _ _ _ => trivial)) e8 (fun _ _ _ => trivial))), ?_⟩
        obtain ⟨p17, rfl⟩ := hmv17.slv
        refine D.one (i := 4) rfl rfl (by kernel_rfl) ?_
        refine O.litG (G := itemF) [(sv17, p17)] Tryz.underlying26 ti56 ts56 tz56 rfl (by decide) (by decide) rfl (fun b18 w9 hb18 hz18 e9 => ?_)
        have z9 := e9.size
        have h18 := hz18.own
        have hq18 := Sl.litG (n := 1) h18 rfl (by unfold maxLen; omega)
        refine O.nil ⟨(Ext.bare (Ext.new (Ext.new (Ext.new (Ext.refl (fun _ => True) _) e7 (fun _ _ _ => trivial)) e8 (fun _ _ _ => trivial)) e9 (fun _ _ _ => trivial))), ?_⟩
        refine D.one (i := 5) rfl rfl (by kernel_rfl) ?_
        refine O.appW (G := itemF) Tryz.underlying26 ti56 tz56 ts56 rfl rfl rfl (((r3_1.keep e7).keepM e8 (fun k hk h => by have := r3_1.bk_ge k hk; (try dsimp only at h); omega)).keep e9) hq18 (by rw [tb56, hit.1]; simp; omega) (by unfold maxLen; rw [hit.1]; simp; omega) (by omega) (fun v19 w10 h19 e10 hw19 => ?_)
        have e10m : Ext (fun j => w.heap.size ≤ j) w9 w10 := e10.mono (fun j _ hj => by have := (((r3_1.keep e7).keepM e8 (fun k hk h => by have := r3_1.bk_ge k hk; (try dsimp only at h); omega)).keep e9).bk_ge j hj; omega)
        have z10 := e10.size
        have h19s := h19.sl
        refine O.nil ⟨(Ext.bare (Ext.new (Ext.new (Ext.new (Ext.new (Ext.refl (fun _ => True) _) e7 (fun _ _ _ => trivial)) e8 (fun _ _ _ => trivial)) e9 (fun _ _ _ => trivial)) e10 (fun _ _ _ => trivial))), ?_⟩
        have hit19 : ItemsF 53 w10 (fun j => b3 < j ∧ j < w10.heap.size ∧ ¬ bk v19 j) (raw ++ [(sv17, p17)]) (its ++ [(sv17, msv17)]) := ((((((r4_1.keep e7).keepM e8 (by intro k hk h; first | (have q1 := hF k hk; (try dsimp only at h); omega) | ((try dsimp only at hk); (try dsimp only at h); omega))).keep e9).keepM e10 (fun j hj h => hj.2.2 h))).weak (fun j hj => ⟨hj.1, by have := hj.2.1; omega, fun hq => by
          rcases hw19 j hq with q | q
          · exact hj.2.2 q
          · have := hj.2.1; omega⟩)).snoc (x := (sv17, msv17)) rfl ((((hmv17.keep e9).keepM e10 (by intro j hj h; have q2 := hob j h; (try dsimp only at hj); omega))).weak (by
          intro j hj
          (try dsimp only at hj)
          refine ⟨by omega, by omega, fun hq => ?_⟩
          rcases hw19 j hq with q | q
          · have := hob j q; omega
          · omega))
        refine D.take (i := 6) rfl rfl rfl rfl (by kernel_rfl) (Ext.bare (Ext.new (Ext.new (Ext.new (Ext.new (Ext.refl (fun _ => True) _) e7 (fun _ _ _ => trivial)) e8 (fun _ _ _ => trivial)) e9 (fun _ _ _ => trivial)) e10 (fun _ _ _ => trivial))) ⟨_, rfl⟩ (fun w_ hw_ N_ hN => (O.fieldAd Tryz.underlying28 rfl Tryz.sizeOf26 (by decide) s3_1 (O.nil hN))) ?_
        refine D.one (i := 7) rfl rfl (by kernel_rfl) ?_
        refine O.store Tryz.sizeOf26 rfl rfl h19.one ((((r2_1.keep e7).keepM e8 (by intro h; (try dsimp only at h); omega)).keep e9).keepM e10 (by intro h; have := (((r3_1.keep e7).keepM e8 (fun k hk h => by have := r3_1.bk_ge k hk; (try dsimp only at h); omega)).keep e9).bk_ge _ h; omega)) (by simp) (fun w11 hs11 e11 z11 => ?_)
        try simp only [Nat.zero_add] at hs11
        refine O.nil ⟨(Ext.bare (Ext.new (Ext.new (Ext.new (Ext.new (Ext.new (Ext.refl (fun _ => True) _) e7 (fun _ _ _ => trivial)) e8 (fun _ _ _ => trivial)) e9 (fun _ _ _ => trivial)) e10 (fun _ _ _ => trivial)) e11 (fun _ _ _ => trivial))), ?_⟩
        refine D.done (by kernel_rfl) ?_
        refine hK9 _ _ ?_
        refine hK8 _ _ ?_
        refine C.region ?_
        refine O.mv ?_
        refine O.subU (m := 64) (b := 1#64) rfl rfl s4_1 rfl ?_
        refine O.asg ?_
        refine O.nil ?_
        refine ⟨(its ++ [(sv17, msv17)], raw ++ [(sv17, p17)], v19, knv17), ⟨(Eq.trans rfl (congrArg (fun q : BitVec 64 => Value.int .u64 (q.toNat : Int)) (by rw [Cn.dec_ofNat (by omega) (by omega), List.length_append]; rfl))), s0_1, s2_1, s3_1, (Ext.new (Ext.new (Ext.new (Ext.new (Ext.new (Ext.new (Ext.refl _ _) e_1 (by intro i hi hk; first | exact hk.elim | ((try dsimp only at hk); (try dsimp only); omega))) e7 (by intro i hi hk; first | exact hk.elim | ((try dsimp only at hk); (try dsimp only); omega))) e8 (by intro i hi hk; first | exact hk.elim | ((try dsimp only at hk); (try dsimp only); omega))) e9 (by intro i hi hk; first | exact hk.elim | ((try dsimp only at hk); (try dsimp only); omega))) e10m (by intro i hi hk; first | exact hk.elim | ((try dsimp only at hk); (try dsimp only); omega))) e11 (by intro i hi hk; first | exact hk.elim | ((try dsimp only at hk); (try dsimp only); omega))), (((hov17.keep e9).keepM e10 (by intro h; have := (((r3_1.keep e7).keepM e8 (fun k hk h => by have := r3_1.bk_ge k hk; (try dsimp only at h); omega)).keep e9).bk_ge _ h; omega)).keepM e11 (by intro h; (try dsimp only at h); omega)), (((((r1_1.keep e7).keepM e8 (by intro h; (try dsimp only at h); omega)).keep e9).keepM e10 (by intro h; have := (((r3_1.keep e7).keepM e8 (fun k hk h => by have := r3_1.bk_ge k hk; (try dsimp only at h); omega)).keep e9).bk_ge _ h; omega)).keepM e11 (by intro h; (try dsimp only at h); omega)), hs11, (h19.keepM e11 (fun k hk h => by have := h19.bk_ge k hk; (try dsimp only at h); omega)), (((hit19.keepM e11 (by intro k hk h; first | (have q1 := hF k hk; (try dsimp only at h); omega) | (have q1 := hF2 k hk; (try dsimp only at h); omega) | (have q1 := hFb k hk; (try dsimp only at h); omega) | ((try dsimp only at hk); (try dsimp only at h); omega)))).weak (fun j hj => ⟨hj.1, by have := hj.2.1; omega, hj.2.2⟩)), (((((r5_1.keep e7).keepM e8 (by intro k hk h; first | (have q1 := hF k hk; (try dsimp only at h); omega) | ((try dsimp only at hk); (try dsimp only at h); omega))).keep e9).keepM e10 (by intro j hj h; have q2 := (((r3_1.keep e7).keepM e8 (fun k hk h => by have := r3_1.bk_ge k hk; (try dsimp only at h); omega)).keep e9).bk_ge j h; first | (have q1 := hF j hj; omega) | ((try dsimp only at hj); omega))).keepM e11 (by intro k hk h; first | (have q1 := hF k hk; (try dsimp only at h); omega) | (have q1 := hF2 k hk; (try dsimp only at h); omega) | (have q1 := hFb k hk; (try dsimp only at h); omega) | ((try dsimp only at hk); (try dsimp only at h); omega))), (((((r6_1.keep e7).keepM e8 (by intro k hk h; first | (have q1 := hF k hk; (try dsimp only at h); omega) | ((try dsimp only at hk); (try dsimp only at h); omega))).keep e9).keepM e10 (by intro j hj h; have q2 := (((r3_1.keep e7).keepM e8 (fun k hk h => by have := r3_1.bk_ge k hk; (try dsimp only at h); omega)).keep e9).bk_ge j h; first | (have q1 := hF j hj; omega) | ((try dsimp only at hj); omega))).keepM e11 (by intro k hk h; first | (have q1 := hF k hk; (try dsimp only at h); omega) | (have q1 := hF2 k hk; (try dsimp only at h); omega) | (have q1 := hFb k hk; (try dsimp only at h); omega) | ((try dsimp only at hk); (try dsimp only at h); omega))), (((((r7_1.keep e7).keepM e8 (by intro k hk h; first | (have q1 := hF k hk; (try dsimp only at h); omega) | ((try dsimp only at hk); (try dsimp only at h); omega))).keep e9).keepM e10 (by intro j hj h; have q2 := (((r3_1.keep e7).keepM e8 (fun k hk h => by have := r3_1.bk_ge k hk; (try dsimp only at h); omega)).keep e9).bk_ge j h; first | (have q1 := hF j hj; omega) | ((try dsimp only at hj); omega))).keepM e11 (by intro k hk h; first | (have q1 := hF k hk; (try dsimp only at h); omega) | (have q1 := hF2 k hk; (try dsimp only at h); omega) | (have q1 := hFb k hk; (try dsimp only at h); omega) | ((try dsimp only at hk); (try dsimp only at h); omega))), (((((r8_1.keep e7).keepM e8 (by intro k hk h; first | (have q1 := hF k hk; (try dsimp only at h); omega) | ((try dsimp only at hk); (try dsimp only at h); omega))).keep e9).keepM e10 (by intro j hj h; have q2 := (((r3_1.keep e7).keepM e8 (fun k hk h => by have := r3_1.bk_ge k hk; (try dsimp only at h); omega)).keep e9).bk_ge j h; first | (have q1 := hF j hj; omega) | ((try dsimp only at hj); omega))).keepM e11 (by intro k hk h; first | (have q1 := hF k hk; (try dsimp only at h); omega) | (have q1 := hF2 k hk; (try dsimp only at h); omega) | (have q1 := hFb k hk; (try dsimp only at h); omega) | ((try dsimp only at hk); (try dsimp only at h); omega))), ?_⟩, by show nv9.toNat - (its ++ [_]).length < nv9.toNat - its.length; rw [List.length_append]; show nv9.toNat - (its.length + 1) < _; omega⟩
        exact ⟨by rw [List.length_append]; exact hj2, Cn.manyQ_snoc hQ hqv17, Cn.manyQ_snoc hI (by show msv17.length ≤ 1000000; omega), Cn.Seg.snoc hS hsv17⟩
      ·
        refine D.stepU rfl rfl ?_
        refine O.callZ Tryz.call109 (args1 s0_1) (ditem_spec b vr l kc F _ (r0_1.keep e7) ((hl.keepM e_1 (by intro k hk h; first | (have q1 := hF k hk; (try dsimp only at h); omega) | ((try dsimp only at hk); (try dsimp only at h); omega))).keep e7) hS.2.2 (fun j hj => by have q1 := hF j hj; omega) hL) (fun ch_ wz_ hz_ => ?_) ?_
        ·
          exact ⟨hz_.1, Cn.no_val (Cn.no_cart2 hsv6 hcv6 (Cn.no_many2 hsv9 Cn.pre_itemQ hQ hS hj2 hz_.2.1)), Ext.trans (Ext.new (Ext.new (Ext.refl _ _) e_1 (by intro i hi hk; first | exact hk.elim | ((try dsimp only at hk); (try dsimp only); omega))) e7 (by intro i hi hk; first | exact hk.elim | ((try dsimp only at hk); (try dsimp only); omega))) hz_.2.2⟩
        rintro v_17 w12 ⟨sv17, vmv17, msv17, knv17, rfl, hov17, hmv17, hnv17, hqv17, hsv17, e12⟩
        have z12 := e12.size
        refine O.nil ⟨(Ext.bare (Ext.new (Ext.new (Ext.refl (fun _ => True) _) e7 (fun _ _ _ => trivial)) e12 (fun _ _ _ => trivial))), ?_⟩
        obtain ⟨p17, rfl⟩ := hmv17.slv
        refine D.many [1, 4] (by kernel_rfl) (by decide) ⟨?_, ?_, trivial⟩
        ·
          refine D.stepU rfl rfl ?_
          refine O.loadO Tryz.isAgg26 rfl ((r2_1.keep e7).keepM e12 (by intro h; (try dsimp only at h); omega)) rfl ?_
          refine O.nil ⟨(Ext.bare (Ext.new (Ext.new (Ext.refl (fun _ => True) _) e7 (fun _ _ _ => trivial)) e12 (fun _ _ _ => trivial))), ?_⟩
          refine D.one (i := 4) rfl rfl (by kernel_rfl) ?_
          refine O.litG (G := itemF) [(sv17, p17)] Tryz.underlying26 ti56 ts56 tz56 rfl (by decide) (by decide) rfl (fun b18 w13 hb18 hz18 e13 => ?_)
          have z13 := e13.size
          have h18 := hz18.own
          have hq18 := Sl.litG (n := 1) h18 rfl (by unfold maxLen; omega)
          refine O.nil ⟨(Ext.bare (Ext.new (Ext.new (Ext.new (Ext.refl (fun _ => True) _) e7 (fun _ _ _ => trivial)) e12 (fun _ _ _ => trivial)) e13 (fun _ _ _ => trivial))), ?_⟩
          refine D.one (i := 5) rfl rfl (by kernel_rfl) ?_
          refine O.appW (G := itemF) Tryz.underlying26 ti56 tz56 ts56 rfl rfl rfl (((r3_1.keep e7).keepM e12 (fun k hk h => by have := r3_1.bk_ge k hk; (try dsimp only at h); omega)).keep e13) hq18 (by rw [tb56, hit.1]; simp; omega) (by unfold maxLen; rw [hit.1]; simp; omega) (by omega) (fun v19 w14 h19 e14 hw19 => ?_)
          have e14m : Ext (fun j => w.heap.size ≤ j) w13 w14 := e14.mono (fun j _ hj => by have := (((r3_1.keep e7).keepM e12 (fun k hk h => by have := r3_1.bk_ge k hk; (try dsimp only at h); omega)).keep e13).bk_ge j hj; omega)
          have z14 := e14.size
          have h19s := h19.sl
          refine O.nil ⟨(Ext.bare (Ext.new (Ext.new (Ext.new (Ext.new (Ext.refl (fun _ => True) _) e7 (fun _ _ _ => trivial)) e12 (fun _ _ _ => trivial)) e13 (fun _ _ _ => trivial)) e14 (fun _ _ _ => trivial))), ?_⟩
          have hit19 : ItemsF 53 w14 (fun j => b3 < j ∧ j < w14.heap.size ∧ ¬ bk v19 j) (raw ++ [(sv17, p17)]) (its ++ [(sv17, msv17)]) := ((((((r4_1.keep e7).keepM e12 (by intro k hk h; first | (have q1 := hF k hk; (try dsimp only at h); omega) | ((try dsimp only at hk); (try dsimp only at h); omega))).keep e13).keepM e14 (fun j hj h => hj.2.2 h))).weak (fun j hj => ⟨hj.1, by have := hj.2.1; omega, fun hq => by
            rcases hw19 j hq with q | q
            · exact hj.2.2 q
            · have := hj.2.1; omega⟩)).snoc (x := (sv17, msv17)) rfl ((((hmv17.keep e13).keepM e14 (by intro j hj h; have q2 := hob j h; (try dsimp only at hj); omega))).weak (by
            intro j hj
            (try dsimp only at hj)
            refine ⟨by omega, by omega, fun hq => ?_⟩
            rcases hw19 j hq with q | q
            · have := hob j q; omega
            · omega))
          refine D.take (i := 6) rfl rfl rfl rfl (by kernel_rfl) (Ext.bare (Ext.new (Ext.new (Ext.new (Ext.new (Ext.refl (fun _ => True) _) e7 (fun _ _ _ => trivial)) e12 (fun _ _ _ => trivial)) e13 (fun _ _ _ => trivial)) e14 (fun _ _ _ => trivial))) ⟨_, rfl⟩ (fun w_ hw_ N_ hN => (O.fieldAd Tryz.underlying28 rfl Tryz.sizeOf26 (by decide) s3_1 (O.nil hN))) ?_
          refine D.one (i := 7) rfl rfl (by kernel_rfl) ?_
          refine O.store Tryz.sizeOf26 rfl rfl h19.one ((((r2_1.keep e7).keepM e12 (by intro h; (try dsimp only at h); omega)).keep e13).keepM e14 (by intro h; have := (((r3_1.keep e7).keepM e12 (fun k hk h => by have := r3_1.bk_ge k hk; (try dsimp only at h); omega)).keep e13).bk_ge _ h; omega)) (by simp) (fun w15 hs15 e15 z15 => ?_)
          try simp only [Nat.zero_add] at hs15
          refine O.nil ⟨(Ext.bare (Ext.new (Ext.new (Ext.new (Ext.new (Ext.new (Ext.refl (fun _ => True) _) e7 (fun _ _ _ => trivial)) e12 (fun _ _ _ => trivial)) e13 (fun _ _ _ => trivial)) e14 (fun _ _ _ => trivial)) e15 (fun _ _ _ => trivial))), ?_⟩
          refine D.done (by kernel_rfl) ?_
          refine hK9 _ _ ?_
          refine hK8 _ _ ?_
          refine C.region ?_
          refine O.mv ?_
          refine O.subU (m := 64) (b := 1#64) rfl rfl s4_1 rfl ?_
          refine O.asg ?_
          refine O.nil ?_
          refine ⟨(its ++ [(sv17, msv17)], raw ++ [(sv17, p17)], v19, knv17), ⟨(Eq.trans rfl (congrArg (fun q : BitVec 64 => Value.int .u64 (q.toNat : Int)) (by rw [Cn.dec_ofNat (by omega) (by omega), List.length_append]; rfl))), s0_1, s2_1, s3_1, (Ext.new (Ext.new (Ext.new (Ext.new (Ext.new (Ext.new (Ext.refl _ _) e_1 (by intro i hi hk; first | exact hk.elim | ((try dsimp only at hk); (try dsimp only); omega))) e7 (by intro i hi hk; first | exact hk.elim | ((try dsimp only at hk); (try dsimp only); omega))) e12 (by intro i hi hk; first | exact hk.elim | ((try dsimp only at hk); (try dsimp only); omega))) e13 (by intro i hi hk; first | exact hk.elim | ((try dsimp only at hk); (try dsimp only); omega))) e14m (by intro i hi hk; first | exact hk.elim | ((try dsimp only at hk); (try dsimp only); omega))) e15 (by intro i hi hk; first | exact hk.elim | ((try dsimp only at hk); (try dsimp only); omega))), (((hov17.keep e13).keepM e14 (by intro h; have := (((r3_1.keep e7).keepM e12 (fun k hk h => by have := r3_1.bk_ge k hk; (try dsimp only at h); omega)).keep e13).bk_ge _ h; omega)).keepM e15 (by intro h; (try dsimp only at h); omega)), (((((r1_1.keep e7).keepM e12 (by intro h; (try dsimp only at h); omega)).keep e13).keepM e14 (by intro h; have := (((r3_1.keep e7).keepM e12 (fun k hk h => by have := r3_1.bk_ge k hk; (try dsimp only at h); omega)).keep e13).bk_ge _ h; omega)).keepM e15 (by intro h; (try dsimp only at h); omega)), hs15, (h19.keepM e15 (fun k hk h => by have := h19.bk_ge k hk; (try dsimp only at h); omega)), (((hit19.keepM e15 (by intro k hk h; first | (have q1 := hF k hk; (try dsimp only at h); omega) | (have q1 := hF2 k hk; (try dsimp only at h); omega) | (have q1 := hFb k hk; (try dsimp only at h); omega) | ((try dsimp only at hk); (try dsimp only at h); omega)))).weak (fun j hj => ⟨hj.1, by have := hj.2.1; omega, hj.2.2⟩)), (((((r5_1.keep e7).keepM e12 (by intro k hk h; first | (have q1 := hF k hk; (try dsimp only at h); omega) | ((try dsimp only at hk); (try dsimp only at h); omega))).keep e13).keepM e14 (by intro j hj h; have q2 := (((r3_1.keep e7).keepM e12 (fun k hk h => by have := r3_1.bk_ge k hk; (try dsimp only at h); omega)).keep e13).bk_ge j h; first | (have q1 := hF j hj; omega) | ((try dsimp only at hj); omega))).keepM e15 (by intro k hk h; first | (have q1 := hF k hk; (try dsimp only at h); omega) | (have q1 := hF2 k hk; (try dsimp only at h); omega) | (have q1 := hFb k hk; (try dsimp only at h); omega) | ((try dsimp only at hk); (try dsimp only at h); omega))), (((((r6_1.keep e7).keepM e12 (by intro k hk h; first | (have q1 := hF k hk; (try dsimp only at h); omega) | ((try dsimp only at hk); (try dsimp only at h); omega))).keep e13).keepM e14 (by intro j hj h; have q2 := (((r3_1.keep e7).keepM e12 (fun k hk h => by have := r3_1.bk_ge k hk; (try dsimp only at h); omega)).keep e13).bk_ge j h; first | (have q1 := hF j hj; omega) | ((try dsimp only at hj); omega))).keepM e15 (by intro k hk h; first | (have q1 := hF k hk; (try dsimp only at h); omega) | (have q1 := hF2 k hk; (try dsimp only at h); omega) | (have q1 := hFb k hk; (try dsimp only at h); omega) | ((try dsimp only at hk); (try dsimp only at h); omega))), (((((r7_1.keep e7).keepM e12 (by intro k hk h; first | (have q1 := hF k hk; (try dsimp only at h); omega) | ((try dsimp only at hk); (try dsimp only at h); omega))).keep e13).keepM e14 (by intro j hj h; have q2 := (((r3_1.keep e7).keepM e12 (fun k hk h => by have := r3_1.bk_ge k hk; (try dsimp only at h); omega)).keep e13).bk_ge j h; first | (have q1 := hF j hj; omega) | ((try dsimp only at hj); omega))).keepM e15 (by intro k hk h; first | (have q1 := hF k hk; (try dsimp only at h); omega) | (have q1 := hF2 k hk; (try dsimp only at h); omega) | (have q1 := hFb k hk; (try dsimp only at h); omega) | ((try dsimp only at hk); (try dsimp only at h); omega))), (((((r8_1.keep e7).keepM e12 (by intro k hk h; first | (have q1 := hF k hk; (try dsimp only at h); omega) | ((try dsimp only at hk); (try dsimp only at h); omega))).keep e13).keepM e14 (by intro j hj h; have q2 := (((r3_1.keep e7).keepM e12 (fun k hk h => by have := r3_1.bk_ge k hk; (try dsimp only at h); omega)).keep e13).bk_ge j h; first | (have q1 := hF j hj; omega) | ((try dsimp only at hj); omega))).keepM e15 (by intro k hk h; first | (have q1 := hF k hk; (try dsimp only at h); omega) | (have q1 := hF2 k hk; (try dsimp only at h); omega) | (have q1 := hFb k hk; (try dsimp only at h); omega) | ((try dsimp only at hk); (try dsimp only at h); omega))), ?_⟩, by show nv9.toNat - (its ++ [_]).length < nv9.toNat - its.length; rw [List.length_append]; show nv9.toNat - (its.length + 1) < _; omega⟩
          exact ⟨by rw [List.length_append]; exact hj2, Cn.manyQ_snoc hQ hqv17, Cn.manyQ_snoc hI (by show msv17.length ≤ 1000000; omega), Cn.Seg.snoc hS hsv17⟩
        ·
          refine D.stepU rfl rfl ?_
          refine O.litG (G := itemF) [(sv17, p17)] Tryz.underlying26 ti56 ts56 tz56 rfl (by decide) (by decide) rfl (fun b18 w16 hb18 hz18 e16 => ?_)
          have z16 := e16.size
          have h18 := hz18.own
          have hq18 := Sl.litG (n := 1) h18 rfl (by unfold maxLen; omega)
          refine O.nil ⟨(Ext.bare (Ext.new (Ext.new (Ext.new (Ext.refl (fun _ => True) _) e7 (fun _ _ _ => trivial)) e12 (fun _ _ _ => trivial)) e16 (fun _ _ _ => trivial))), ?_⟩
          refine D.one (i := 1) rfl rfl (by kernel_rfl) ?_
          refine O.loadO Tryz.isAgg26 rfl (((r2_1.keep e7).keepM e12 (by intro h; (try dsimp only at h); omega)).keep e16) rfl ?_
          refine O.nil ⟨(Ext.bare (Ext.new (Ext.new (Ext.new (Ext.refl (fun _ => True) _) e7 (fun _ _ _ => trivial)) e12 (fun _ _ _ => trivial)) e16 (fun _ _ _ => trivial))), ?_⟩
          refine D.one (i := 5) rfl rfl (by kernel_rfl) ?_
          refine O.appW (G := itemF) Tryz.underlying26 ti56 tz56 ts56 rfl rfl rfl (((r3_1.keep e7).keepM e12 (fun k hk h => by have := r3_1.bk_ge k hk; (try dsimp only at h); omega)).keep e16) hq18 (by rw [tb56, hit.1]; simp; omega) (by unfold maxLen; rw [hit.1]; simp; omega) (by omega) (fun v19 w17 h19 e17 hw19 => ?_)
          have e17m : Ext (fun j => w.heap.size ≤ j) w16 w17 := e17.mono (fun j _ hj => by have := (((r3_1.keep e7).keepM e12 (fun k hk h => by have := r3_1.bk_ge k hk; (try dsimp only at h); omega)).keep e16).bk_ge j hj; omega)
          have z17 := e17.size
          have h19s := h19.sl
          refine O.nil ⟨(Ext.bare (Ext.new (Ext.new (Ext.new (Ext.new (Ext.refl (fun _ => True) _) e7 (fun _ _ _ => trivial)) e12 (fun _ _ _ => trivial)) e16 (fun _ _ _ => trivial)) e17 (fun _ _ _ => trivial))), ?_⟩
          have hit19 : ItemsF 53 w17 (fun j => b3 < j ∧ j < w17.heap.size ∧ ¬ bk v19 j) (raw ++ [(sv17, p17)]) (its ++ [(sv17, msv17)]) := ((((((r4_1.keep e7).keepM e12 (by intro k hk h; first | (have q1 := hF k hk; (try dsimp only at h); omega) | ((try dsimp only at hk); (try dsimp only at h); omega))).keep e16).keepM e17 (fun j hj h => hj.2.2 h))).weak (fun j hj => ⟨hj.1, by have := hj.2.1; omega, fun hq => by
            rcases hw19 j hq with q | q
            · exact hj.2.2 q
            · have := hj.2.1; omega⟩)).snoc (x := (sv17, msv17)) rfl ((((hmv17.keep e16).keepM e17 (by intro j hj h; have q2 := hob j h; (try dsimp only at hj); omega))).weak (by
            intro j hj
            (try dsimp only at hj)
            refine ⟨by omega, by omega, fun hq => ?_⟩
            rcases hw19 j hq with q | q
            · have := hob j q; omega
            · omega))
          refine D.take (i := 6) rfl rfl rfl rfl (by kernel_rfl) (Ext.bare (Ext.new (Ext.new (Ext.new (Ext.new (Ext.refl (fun _ => True) _) e7 (fun _ _ _ => trivial)) e12 (fun _ _ _ => trivial)) e16 (fun _ _ _ => trivial)) e17 (fun _ _ _ => trivial))) ⟨_, rfl⟩ (fun w_ hw_ N_ hN => (O.fieldAd Tryz.underlying28 rfl Tryz.sizeOf26 (by decide) s3_1 (O.nil hN))) ?_
          refine D.one (i := 7) rfl rfl (by kernel_rfl) ?_
          refine O.store Tryz.sizeOf26 rfl rfl h19.one ((((r2_1.keep e7).keepM e12 (by intro h; (try dsimp only at h); omega)).keep e16).keepM e17 (by intro h; have := (((r3_1.keep e7).keepM e12 (fun k hk h => by have := r3_1.bk_ge k hk; (try dsimp only at h); omega)).keep e16).bk_ge _ h; omega)) (by simp) (fun w18 hs18 e18 z18 => ?_)
          try simp only [Nat.zero_add] at hs18
          refine O.nil ⟨(Ext.bare (Ext.new (Ext.new (Ext.new (Ext.new (Ext.new (Ext.refl (fun _ => True) _) e7 (fun _ _ _ => trivial)) e12 (fun _ _ _ => trivial)) e16 (fun _ _ _ => trivial)) e17 (fun _ _ _ => trivial)) e18 (fun _ _ _ => trivial))), ?_⟩
          refine D.done (by kernel_rfl) ?_
          refine hK9 _ _ ?_
          refine hK8 _ _ ?_
          refine C.region ?_
          refine O.mv ?_
          refine O.subU (m := 64) (b := 1#64) rfl rfl s4_1 rfl ?_
          refine O.asg ?_
          refine O.nil ?_
          refine ⟨(its ++ [(sv17, msv17)], raw ++ [(sv17, p17)], v19, knv17), ⟨(Eq.trans rfl (congrArg (fun q : BitVec 64 => Value.int .u64 (q.toNat : Int)) (by rw [Cn.dec_ofNat (by omega) (by omega), List.length_append]; rfl))), s0_1, s2_1, s3_1, (Ext.new (Ext.new (Ext.new (Ext.new (Ext.new (Ext.new (Ext.refl _ _) e_1 (by intro i hi hk; first | exact hk.elim | ((try dsimp only at hk); (try dsimp only); omega))) e7 (by intro i hi hk; first | exact hk.elim | ((try dsimp only at hk); (try dsimp only); omega))) e12 (by intro i hi hk; first | exact hk.elim | ((try dsimp only at hk); (try dsimp only); omega))) e16 (by intro i hi hk; first | exact hk.elim | ((try dsimp only at hk); (try dsimp only); omega))) e17m (by intro i hi hk; first | exact hk.elim | ((try dsimp only at hk); (try dsimp only); omega))) e18 (by intro i hi hk; first | exact hk.elim | ((try dsimp only at hk); (try dsimp only); omega))), (((hov17.keep e16).keepM e17 (by intro h; have := (((r3_1.keep e7).keepM e12 (fun k hk h => by have := r3_1.bk_ge k hk; (try dsimp only at h); omega)).keep e16).bk_ge _ h; omega)).keepM e18 (by intro h; (try dsimp only at h); omega)), (((((r1_1.keep e7).keepM e12 (by intro h; (try dsimp only at h); omega)).keep e16).keepM e17 (by intro h; have := (((r3_1.keep e7).keepM e12 (fun k hk h => by have := r3_1.bk_ge k hk; (try dsimp only at h); omega)).keep e16).bk_ge _ h; omega)).keepM e18 (by intro h; (try dsimp only at h); omega)), hs18, (h19.keepM e18 (fun k hk h => by have := h19.bk_ge k hk; (try dsimp only at h); omega)), (((hit19.keepM e18 (by intro k hk h; first | (have q1 := hF k hk; (try dsimp only at h); omega) | (have q1 := hF2 k hk; (try dsimp only at h); omega) | (have q1 := hFb k hk; (try dsimp only at h); omega) | ((try dsimp only at hk); (try dsimp only at h); omega)))).weak (fun j hj => ⟨hj.1, by have := hj.2.1; omega, hj.2.2⟩)), (((((r5_1.keep e7).keepM e12 (by intro k hk h; first | (have q1 := hF k hk; (try dsimp only at h); omega) | ((try dsimp only at hk); (try dsimp only at h); omega))).keep e16).keepM e17 (by intro j hj h; have q2 := (((r3_1.keep e7).keepM e12 (fun k hk h => by have := r3_1.bk_ge k hk; (try dsimp only at h); omega)).keep e16).bk_ge j h; first | (have q1 := hF j hj; omega) | ((try dsimp only at hj); omega))).keepM e18 (by intro k hk h; first | (have q1 := hF k hk; (try dsimp only at h); omega) | (have q1 := hF2 k hk; (try dsimp only at h); omega) | (have q1 := hFb k hk; (try dsimp only at h); omega) | ((try dsimp only at hk); (try dsimp only at h); omega))), (((((r6_1.keep e7).keepM e12 (by intro k hk h; first | (have q1 := hF k hk; (try dsimp only at h); omega) | ((try dsimp only at hk); (try dsimp only at h); omega))).keep e16).keepM e17 (by intro j hj h; have q2 := (((r3_1.keep e7).keepM e12 (fun k hk h => by have := r3_1.bk_ge k hk; (try dsimp only at h); omega)).keep e16).bk_ge j h; first | (have q1 := hF j hj; omega) | ((try dsimp only at hj); omega))).keepM e18 (by intro k hk h; first | (have q1 := hF k hk; (try dsimp only at h); omega) | (have q1 := hF2 k hk; (try dsimp only at h); omega) | (have q1 := hFb k hk; (try dsimp only at h); omega) | ((try dsimp only at hk); (try dsimp only at h); omega))), (((((r7_1.keep e7).keepM e12 (by intro k hk h; first | (have q1 := hF k hk; (try dsimp only at h); omega) | ((try dsimp only at hk); (try dsimp only at h); omega))).keep e16).keepM e17 (by intro j hj h; have q2 := (((r3_1.keep e7).keepM e12 (fun k hk h => by have := r3_1.bk_ge k hk; (try dsimp only at h); omega)).keep e16).bk_ge j h; first | (have q1 := hF j hj; omega) | ((try dsimp only at hj); omega))).keepM e18 (by intro k hk h; first | (have q1 := hF k hk; (try dsimp only at h); omega) | (have q1 := hF2 k hk; (try dsimp only at h); omega) | (have q1 := hFb k hk; (try dsimp only at h); omega) | ((try dsimp only at hk); (try dsimp only at h); omega))), (((((r8_1.keep e7).keepM e12 (by intro k hk h; first | (have q1 := hF k hk; (try dsimp only at h); omega) | ((try dsimp only at hk); (try dsimp only at h); omega))).keep e16).keepM e17 (by intro j hj h; have q2 := (((r3_1.keep e7).keepM e12 (fun k hk h => by have := r3_1.bk_ge k hk; (try dsimp only at h); omega)).keep e16).bk_ge j h; first | (have q1 := hF j hj; omega) | ((try dsimp only at hj); omega))).keepM e18 (by intro k hk h; first | (have q1 := hF k hk; (try dsimp only at h); omega) | (have q1 := hF2 k hk; (try dsimp only at h); omega) | (have q1 := hFb k hk; (try dsimp only at h); omega) | ((try dsimp only at hk); (try dsimp only at h); omega))), ?_⟩, by show nv9.toNat - (its ++ [_]).length < nv9.toNat - its.length; rw [List.length_append]; show nv9.toNat - (its.length + 1) < _; omega⟩
          exact ⟨by rw [List.length_append]; exact hj2, Cn.manyQ_snoc hQ hqv17, Cn.manyQ_snoc hI (by show msv17.length ≤ 1000000; omega), Cn.Seg.snoc hS hsv17⟩
    ·
      have hj3 : its.length = nv9.toNat := by have q := mt (Cn.pos_ofNat (m := nv9.toNat - its.length) (by omega)).2 c11; omega
      obtain ⟨wq, hwq⟩ : ∃ x, x = w6 := ⟨_, rfl⟩
      have hzq : wq.heap.size = w6.heap.size := by rw [hwq]
      have hsa1 : Sl Dt.dotF.enc w6 (fun j => j < wq.heap.size) (slv p6) xv6.1 := (r5_1).weak (by intro j hj; have q := hj.2; show j < wq.heap.size; omega)
      have hsa2 : Sl Dt.dotF.enc w6 (fun j => j < wq.heap.size) (slv q6) xv6.2 := (r6_1).weak (by intro j hj; have q := hj.2; show j < wq.heap.size; omega)
      have hsi : Sl itemE w6 (fun j => b3 < j ∧ j < wq.heap.size) o its := (hit.weak (by intro j hj; have q1 := hj.1; have q := hj.2.1; show b3 < j ∧ j < wq.heap.size; omega)).items.sl ((r3_1).sl.weak (by intro j hj; have q := hob j hj; show b3 < j ∧ j < wq.heap.size; omega))
      have hsa3 : Sl itemE w6 (fun j => j < wq.heap.size) o its := hsi.weak fun j hj => hj.2
      have hsI : SlI 56 53 w6 (fun j => b3 < j ∧ j < wq.heap.size) o its := ⟨raw, (r3_1).fre (by intro j hj; have q := hob j hj; show b3 < j ∧ j < wq.heap.size; omega), hit.weak (by intro j hj; have q1 := hj.1; have q := hj.2.1; show b3 < j ∧ j < wq.heap.size; omega)⟩
      refine C.exit ?_
      refine hK5 _ _ ?_
      refine hK3 _ _ ?_
      refine C.seqK fun K10 hK10 => ?_
      refine C.seqK fun K11 hK11 => ?_
      refine C.region ?_
      refine O.loadOA Tryz.isAgg28 Tryz.sizeOf28 s3_1 r2_1 (Nat.le_of_ble_eq_true rfl) ?_
      refine O.call Tryz.call19 (args1 rfl) (cartValid_spec (slv p6) (slv q6) o (xv6, its) (fun j => j < wq.heap.size) _ hsa1 hsa2 hsa3 (fun j hj => by have hj : j < wq.heap.size := hj; omega) (by show its.length ≤ 1000000; omega) (fun x hx => ⟨by have := (hQ x hx).1; omega, hI x hx⟩) (mx.keepM e_1 (fun h => hgb h.symm))) ?_
      rintro v_22 w19 ⟨rfl, e19⟩
      have z19 := e19.size
      refine O.not rfl ?_
      refine O.nil ?_
      refine hK11 _ _ ?_
      refine C.cond rfl (fun c23 => ?_) (fun c23 => ?_)
      ·
        refine C.region ?_
        refine O.build (cells := #[]) rfl (by kernel_rfl) ?_
        refine O.mkI Tryz.underlying150 rfl rfl ?_
        refine O.panics rfl ?_
        exact ⟨rfl, Cn.no_val3 (Cn.seg_cart hsv6 (Cn.seg_many hsv9 hS hj3)) ⟨hcv6, hQ⟩ (by simpa using c23), (Ext.new (Ext.new (Ext.refl _ _) e_1 (by intro i hi hk; first | exact hk.elim | ((try dsimp only at hk); (try dsimp only); omega))) e19 (by intro i hi hk; first | exact hk.elim | ((try dsimp only at hk); (try dsimp only); omega)))⟩
      ·
        refine C.skip ?_
        refine hK10 _ _ ?_
        refine C.seqK fun K12 hK12 => ?_
        refine C.region ?_
        refine O.loadOA Tryz.isAgg28 Tryz.sizeOf28 s3_1 (r2_1.keep e19) (Nat.le_of_ble_eq_true rfl) ?_
        refine O.storeA (vs := [slv p6, slv q6, o]) Tryz.sizeOf28 rfl s2_1 rfl (by have q9 := ho1; intro u hu; simp only [List.mem_cons, List.not_mem_nil, or_false] at hu; rcases hu with rfl | rfl | rfl <;> first | rfl | exact q9) (r1_1.keep e19) (Nat.le_of_ble_eq_true rfl) (fun w20 hs20 e20 z20 => ?_)
        refine O.nil ?_
        refine hK12 _ _ ?_
        refine C.ret ?_
        refine Outs.cellA rfl Tryz.isAgg28 Tryz.sizeOf28 s2_1 hs20 rfl ?_
        exact ⟨slv p6, slv q6, o, (xv6, its), kc, rfl, ((r0_1.keep e19).keepM e20 (by intro h; (try dsimp only at h); omega)), (((r7_1.keep e19).keepM e20 (by intro k hk h; first | (have q1 := hF k hk; (try dsimp only at h); omega) | (have q1 := hF2 k hk; (try dsimp only at h); omega) | (have q1 := hFb k hk; (try dsimp only at h); omega) | ((try dsimp only at hk); (try dsimp only at h); omega)))).weak (by intro j hj; (try dsimp only at hj); (try dsimp only); omega), (((r8_1.keep e19).keepM e20 (by intro k hk h; first | (have q1 := hF k hk; (try dsimp only at h); omega) | (have q1 := hF2 k hk; (try dsimp only at h); omega) | (have q1 := hFb k hk; (try dsimp only at h); omega) | ((try dsimp only at hk); (try dsimp only at h); omega)))).weak (by intro j hj; (try dsimp only at hj); (try dsimp only); omega), (((hsI.keep e19).keepM e20 (by intro k hk h; first | (have q1 := hF k hk; (try dsimp only at h); omega) | (have q1 := hF2 k hk; (try dsimp only at h); omega) | (have q1 := hFb k hk; (try dsimp only at h); omega) | ((try dsimp only at hk); (try dsimp only at h); omega)))).weak (by intro j hj; (try dsimp only at hj); (try dsimp only); omega), ⟨by have := hnv6.1; show xv6.1.length ≤ 1000000; omega, by have := hnv6.2; show xv6.2.length ≤ 1000000; omega, by show its.length ≤ 1000000; omega, fun x hx => ⟨by have := (hQ x hx).1; omega, hI x hx⟩⟩, by simpa using c23, Cn.seg_cart hsv6 (Cn.seg_many hsv9 hS hj3), (Ext.new (Ext.new (Ext.new (Ext.refl _ _) e_1 (by intro i hi hk; first | exact hk.elim | ((try dsimp only at hk); (try dsimp only); omega))) e19 (by intro i hi hk; first | exact hk.elim | ((try dsimp only at hk); (try dsimp only); omega))) e20 (by intro i hi hk; first | exact hk.elim | ((try dsimp only at hk); (try dsimp only); omega)))⟩

end Go.Proofs.YtnkcmaoaagnopaaGreatDoor
end
section
/-
  The walks that read whole carts: what panics is caught. Conditions: slices as they lie in memory.
-/
namespace Go.Proofs.YtnkcmaoaagnopaaGreatDoor
open Go.Pn Go.RowKit Go.Proofs
attribute [local irreducible] O C D

theorem caught_idle (v : Value) (w : World) : CallsD Tryz.prog 82 #[v] .returning w fun e u' w' => (∃ q, e = .returned q) ∧ settle u' = .returning ∧ w' = w := by
  refine (callsD_recover (S := fun w' => w' = w) (u' := .returning) (rv := .nilIface) (args := [v]) (n := Tryz.f82.ntmps) Tryz.func82 rfl rfl (Nat.le_of_ble_eq_true rfl) rfl (fun c₀ cs hu => ?_) ?_).mono fun e u2 w' h => ⟨h.1, by rw [h.2.1]; rfl, h.2.2⟩
  · simp [recoverD, hu]
  refine C.block fun K1 hK1 => ?_
  refine C.seqK fun K2 hK2 => ?_
  refine C.region ?_
  refine O.eqlN0 rfl Tryz.underlying20 ?_
  refine O.nil ?_
  refine hK2 _ _ ?_
  refine C.condT rfl ?_
  refine C.region ?_
  refine O.asg ?_
  refine O.nil ?_
  exact hK1 _ _ rfl
theorem caught_wrong (b : Nat) (x : Int) (w : World) (ho : Own w b 33 [.int .i64 x]) : CallsD Tryz.prog 82 #[.pointer (some ⟨b, 0, none⟩)] (.panicking [{ v := .iface 150 (.agg #[]), recovered := false }]) w fun e u' w' => (∃ q, e = .returned q) ∧ settle u' = .returning ∧ (Own w' b 33 [.int .i64 12] ∧ Ext (fun j => j = b) w w') := by
  have hbl := ho.lt
  refine (callsD_recover (S := fun w' => Own w' b 33 [.int .i64 12] ∧ Ext (fun j => j = b) w w') (u' := .panicking [{ v := .iface 150 (.agg #[]), recovered := true }]) (rv := .iface 150 (.agg #[])) (args := [.pointer (some ⟨b, 0, none⟩)]) (n := Tryz.f82.ntmps) Tryz.func82 rfl rfl (Nat.le_of_ble_eq_true rfl) rfl (fun c₀ cs hu => ?_) ?_).mono fun e u2 w' h => ⟨h.1, by rw [h.2.1]; rfl, h.2.2⟩
  · simp [recoverD, hu]
  refine C.block fun K1 hK1 => ?_
  refine C.seqK fun K2 hK2 => ?_
  refine C.region ?_
  refine O.eqlN1 rfl rfl Tryz.underlying20 ?_
  refine O.nil ?_
  refine hK2 _ _ ?_
  refine C.condF rfl ?_
  refine C.seqK fun K3 hK3 => ?_
  refine C.region ?_
  refine O.holds Tryz.underlying150 rfl rfl ?_
  refine O.extract rfl rfl ?_
  refine O.extract rfl rfl ?_
  refine O.nil ?_
  refine hK3 _ _ ?_
  refine C.condT rfl ?_
  refine C.seqK fun K4 hK4 => ?_
  refine C.region ?_
  refine O.alloc Tryz.zeroValue150 (fun b3 w1 hb3 hz3 e1 => ?_)
  have z1 := e1.size
  refine O.storeA (vs := []) Tryz.sizeOf150 rfl rfl rfl (by simp) hz3.own (Nat.zero_le _) (fun w2 hs2 e2 z2 => ?_)
  refine O.nil ?_
  refine hK4 _ _ ?_
  refine C.region ?_
  refine O.mv ?_
  refine O.nilChk rfl ?_
  refine O.store Tryz.sizeOf33 rfl rfl rfl ((ho.keep e1).keepM e2 (by intro h; (try dsimp only at h); omega)) (by simp) (fun w3 hs3 e3 z3 => ?_)
  refine O.nil ?_
  refine hK1 _ _ ⟨hs3, ?_⟩
  exact Ext.trans (Ext.new (Le.to e1) e2 (by intro i hi h; (try dsimp only at h); omega)) e3
set_option maxHeartbeats 2000000 in
theorem prefix_spec (v0 : Value) (l : List UInt8) (F : Nat → Prop) (w : World) (hl : Sl byteE w F v0 l) (hL : l.length ≤ 1000000) (hF : ∀ j, F j → j < w.heap.size) (mx : Mx w) :
    Ret Tryz.prog 58 #[v0] w (fun v w' => ∃ (v1 v2 v3 : Value) (c : Cn.Cart) (k' : Nat) (e : Int), v = .tuple #[.agg #[v1, v2, v3], .int .i64 (k' : Int), .int .i64 e] ∧ Fre Dt.dotF 51 w' (fun j => w.heap.size ≤ j ∧ j < w'.heap.size) v1 c.1.1 ∧ Fre Dt.dotF 51 w' (fun j => w.heap.size ≤ j ∧ j < w'.heap.size) v2 c.1.2 ∧ SlI 56 53 w' (fun j => w.heap.size ≤ j ∧ j < w'.heap.size) v3 c.2 ∧ Cn.big c ∧ Cn.Pref l c k' e ∧ Le w w') := by
  have hgl := mx.lt
  have hll := hl.le
  have _hF9 := hF
  refine enterD (args := [v0]) (n := 14) (ks := [2, 3, 4]) Tryz.func58 rfl rfl (Nat.le_of_ble_eq_true rfl) rfl ?_
  refine C.region ?_
  refine O.alloc Tryz.zeroValue28 (fun b2 w1 hb2 hz2 e1 => ?_)
  have z1 := e1.size
  have h2 := hz2.own
  have hl2 := h2.lt
  refine O.asg ?_
  refine O.alloc Tryz.zeroValue33 (fun b4 w2 hb4 hz4 e2 => ?_)
  have z2 := e2.size
  have h4 := hz4.own
  have hl4 := h4.lt
  refine O.nil ?_
  refine ⟨.pointer (some ⟨b4, 0, none⟩), (fun ch w' => ch = [{ v := .iface 150 (.agg #[]), recovered := false }] ∧ Cn.No Cn.val Cn.bytes l 0 ∧ Le w2 w'), rfl, ?_, ?_⟩
  ·
    refine CD.seqK fun K1 hK1 => ?_
    refine CD.region (by kernel_rfl) rfl ?_
    refine O.mv ?_
    refine O.call Tryz.call83 (args1 rfl) (rdNew_spec _ l _ _ ((hl.keep e1).keep e2) hL) ?_
    rintro v_8 w3 ⟨brv8, vrv8, rfl, hov8, hlv8, hbv8, hb2v8, e3⟩
    have z3 := e3.size
    refine O.asg ?_
    refine O.nil ?_
    refine hK1 _ _ ?_
    refine CD.seqK fun K2 hK2 => ?_
    refine CD.region (by kernel_rfl) rfl ?_
    refine O.mv ?_
    refine O.callZ Tryz.call84 (args1 rfl) (dwhole_spec brv8 vrv8 l 0 _ _ hov8 hlv8 (Nat.zero_le _) (fun j hj => by have hj1 := hj.1; have hj2 := hj.2; exact ⟨by omega, by omega⟩) hL (((mx.keep e1).keep e2).keep e3) (by omega)) (fun ch_ wz_ hz_ => ?_) ?_
    ·
      exact ⟨hz_.1, hz_.2.1, Ext.new e3 hz_.2.2 (by intro i hi h; (try dsimp only at h); omega)⟩
    rintro v_10 w4 ⟨vav10, vbv10, vcv10, cv10, knv10, rfl, hov10, hxv10, hyv10, hzv10, hgv10, hcv10, hsv10, e4⟩
    have z4 := e4.size
    obtain ⟨p1, rfl⟩ := hxv10.slv
    obtain ⟨p2, rfl⟩ := hyv10.slv
    obtain ⟨p3, rfl⟩ := hzv10.sl.slv
    refine O.alloc Tryz.zeroValue28 (fun b6 w5 hb6 hz6 e5 => ?_)
    have z5 := e5.size
    have h6 := hz6.own
    have hl6 := h6.lt
    refine O.storeA (vs := [slv p1, slv p2, slv p3]) Tryz.sizeOf28 rfl rfl rfl (by simp [slv, Value.oneCell']) h6 (Nat.le_of_ble_eq_true rfl) (fun w6 hs6 e6 z6 => ?_)
    refine O.nil ?_
    refine hK2 _ _ ?_
    refine CD.seqK fun K3 hK3 => ?_
    refine CD.drawB (wB := (bare w6)) (by kernel_rfl) fun w7 e7 => ?_
    have z7 := e7.size
    refine D.take (i := 1) rfl rfl rfl rfl (by kernel_rfl) (Ext.bare (Ext.new (Ext.refl (fun _ => True) _) e7 (fun _ _ _ => trivial))) ⟨pure _, rfl⟩ (fun w_ hw_ N_ hN => (O.mv (O.nil hN))) ?_
    refine D.many [0, 2] (by kernel_rfl) (by decide) ⟨?_, ?_, trivial⟩
    ·
      refine D.stepU rfl rfl ?_
      refine O.loadOA Tryz.isAgg28 Tryz.sizeOf28 rfl (hs6.keep e7) (Nat.le_of_ble_eq_true rfl) ?_
      refine O.nil ⟨(Ext.bare (Ext.new (Ext.refl (fun _ => True) _) e7 (fun _ _ _ => trivial))), ?_⟩
      refine D.one (i := 2) rfl rfl (by kernel_rfl) ?_
      refine O.call Tryz.call85 (args1 rfl) (rdAt_spec brv8 vrv8 l knv10 _ _ (((hov10.keep e5).keepM e6 (by intro h; (try dsimp only at h); omega)).keep e7) ((((hlv8.keepM e4 (by intro k hk h; (try dsimp only at hk); (try dsimp only at h); omega)).keep e5).keepM e6 (by intro k hk h; (try dsimp only at hk); (try dsimp only at h); omega)).keep e7) (hsv10.2.2) (fun j hj => by have hj1 := hj.1; have hj2 := hj.2; exact ⟨by omega, by omega⟩)) ?_
      rintro v_13 w8 ⟨rfl, hw_⟩
      replace hw_ := hw_.symm
      subst hw_
      refine O.nil ⟨(Ext.bare (Ext.new (Ext.refl (fun _ => True) _) e7 (fun _ _ _ => trivial))), ?_⟩
      refine D.one (i := 3) rfl rfl (by kernel_rfl) ?_
      refine O.storeA (vs := [slv p1, slv p2, slv p3]) Tryz.sizeOf28 rfl rfl rfl (by simp [slv, Value.oneCell']) ((((((h2.keep e2).keep e3).keepM e4 (by intro h; (try dsimp only at h); omega)).keep e5).keepM e6 (by intro h; (try dsimp only at h); omega)).keep e7) (Nat.le_of_ble_eq_true rfl) (fun w8 hs8 e8 z8 => ?_)
      refine O.nil ⟨(Ext.bare (Ext.new (Ext.new (Ext.refl (fun _ => True) _) e7 (fun _ _ _ => trivial)) e8 (fun _ _ _ => trivial))), ?_⟩
      refine D.take (i := 4) rfl rfl rfl rfl (by kernel_rfl) (Ext.bare (Ext.new (Ext.new (Ext.refl (fun _ => True) _) e7 (fun _ _ _ => trivial)) e8 (fun _ _ _ => trivial))) ⟨pure _, rfl⟩ (fun w_ hw_ N_ hN => (O.asg (O.nil hN))) ?_
      refine D.one (i := 5) rfl rfl (by kernel_rfl) ?_
      refine O.store Tryz.sizeOf33 rfl rfl rfl ((((((h4.keep e3).keepM e4 (by intro h; (try dsimp only at h); omega)).keep e5).keepM e6 (by intro h; (try dsimp only at h); omega)).keep e7).keepM e8 (by intro h; (try dsimp only at h); omega)) (by decide) (fun w9 hs9 e9 z9 => ?_)
      try simp only [Int.toNat_natCast, Nat.zero_add, Nat.mul_one] at hs9
      refine O.nil ⟨(Ext.bare (Ext.new (Ext.new (Ext.new (Ext.refl (fun _ => True) _) e7 (fun _ _ _ => trivial)) e8 (fun _ _ _ => trivial)) e9 (fun _ _ _ => trivial))), ?_⟩
      refine D.done (by kernel_rfl) ?_
      refine hK3 _ _ ?_
      refine CD.ret ?_
      refine leaves1 (by simp) Tryz.call82 (caught_idle _ _) ?_
      rintro _ rfl
      refine ⟨_, res_ctc (s := 3) rfl (getD_Fr _ _ 2) (getD_Fr _ _ 3) (getD_Fr _ _ 4) Tryz.isAgg28 Tryz.sizeOf28 (hs8.keepM e9 (by intro h; (try dsimp only at h); omega)) rfl Tryz.isAgg33 hs9, ?_⟩
      exact ⟨slv p1, slv p2, slv p3, cv10, knv10, 0, rfl, ((((((hxv10.keep e5).keepM e6 (by intro k hk h; first | (have q1 := hF k hk; (try dsimp only at h); omega) | (have q1 := hF2 k hk; (try dsimp only at h); omega) | (have q1 := hFb k hk; (try dsimp only at h); omega) | ((try dsimp only at hk); (try dsimp only at h); omega))).keep e7).keepM e8 (by intro k hk h; first | (have q1 := hF k hk; (try dsimp only at h); omega) | (have q1 := hF2 k hk; (try dsimp only at h); omega) | (have q1 := hFb k hk; (try dsimp only at h); omega) | ((try dsimp only at hk); (try dsimp only at h); omega))).keepM e9 (by intro k hk h; first | (have q1 := hF k hk; (try dsimp only at h); omega) | (have q1 := hF2 k hk; (try dsimp only at h); omega) | (have q1 := hFb k hk; (try dsimp only at h); omega) | ((try dsimp only at hk); (try dsimp only at h); omega)))).weak (by intro j hj; (try dsimp only at hj); (try dsimp only); omega), ((((((hyv10.keep e5).keepM e6 (by intro k hk h; first | (have q1 := hF k hk; (try dsimp only at h); omega) | (have q1 := hF2 k hk; (try dsimp only at h); omega) | (have q1 := hFb k hk; (try dsimp only at h); omega) | ((try dsimp only at hk); (try dsimp only at h); omega))).keep e7).keepM e8 (by intro k hk h; first | (have q1 := hF k hk; (try dsimp only at h); omega) | (have q1 := hF2 k hk; (try dsimp only at h); omega) | (have q1 := hFb k hk; (try dsimp only at h); omega) | ((try dsimp only at hk); (try dsimp only at h); omega))).keepM e9 (by intro k hk h; first | (have q1 := hF k hk; (try dsimp only at h); omega) | (have q1 := hF2 k hk; (try dsimp only at h); omega) | (have q1 := hFb k hk; (try dsimp only at h); omega) | ((try dsimp only at hk); (try dsimp only at h); omega)))).weak (by intro j hj; (try dsimp only at hj); (try dsimp only); omega), ((((((hzv10.keep e5).keepM e6 (by intro k hk h; first | (have q1 := hF k hk; (try dsimp only at h); omega) | (have q1 := hF2 k hk; (try dsimp only at h); omega) | (have q1 := hFb k hk; (try dsimp only at h); omega) | ((try dsimp only at hk); (try dsimp only at h); omega))).keep e7).keepM e8 (by intro k hk h; first | (have q1 := hF k hk; (try dsimp only at h); omega) | (have q1 := hF2 k hk; (try dsimp only at h); omega) | (have q1 := hFb k hk; (try dsimp only at h); omega) | ((try dsimp only at hk); (try dsimp only at h); omega))).keepM e9 (by intro k hk h; first | (have q1 := hF k hk; (try dsimp only at h); omega) | (have q1 := hF2 k hk; (try dsimp only at h); omega) | (have q1 := hFb k hk; (try dsimp only at h); omega) | ((try dsimp only at hk); (try dsimp only at h); omega)))).weak (by intro j hj; (try dsimp only at hj); (try dsimp only); omega), hgv10, .inl ⟨rfl, hcv10, hsv10⟩, (Ext.new (Ext.new (Ext.trans (Ext.new (Ext.trans (Ext.new (Ext.trans (Ext.trans e1 e2) e3) e4 (by rintro i hi rfl; omega)) e5) e6 (by rintro i hi rfl; omega)) e7) e8 (by rintro i hi rfl; omega)) e9 (by rintro i hi rfl; omega))⟩
    ·
      refine D.stepU rfl rfl ?_
      refine O.call Tryz.call85 (args1 rfl) (rdAt_spec brv8 vrv8 l knv10 _ _ (((hov10.keep e5).keepM e6 (by intro h; (try dsimp only at h); omega)).keep e7) ((((hlv8.keepM e4 (by intro k hk h; (try dsimp only at hk); (try dsimp only at h); omega)).keep e5).keepM e6 (by intro k hk h; (try dsimp only at hk); (try dsimp only at h); omega)).keep e7) (hsv10.2.2) (fun j hj => by have hj1 := hj.1; have hj2 := hj.2; exact ⟨by omega, by omega⟩)) ?_
      rintro v_13 w10 ⟨rfl, hw_⟩
      replace hw_ := hw_.symm
      subst hw_
      refine O.nil ⟨(Ext.bare (Ext.new (Ext.refl (fun _ => True) _) e7 (fun _ _ _ => trivial))), ?_⟩
      refine D.one (i := 0) rfl rfl (by kernel_rfl) ?_
      refine O.loadOA Tryz.isAgg28 Tryz.sizeOf28 rfl (hs6.keep e7) (Nat.le_of_ble_eq_true rfl) ?_
      refine O.nil ⟨(Ext.bare (Ext.new (Ext.refl (fun _ => True) _) e7 (fun _ _ _ => trivial))), ?_⟩
      refine D.one (i := 3) rfl rfl (by kernel_rfl) ?_
      refine O.storeA (vs := [slv p1, slv p2, slv p3]) Tryz.sizeOf28 rfl rfl rfl (by simp [slv, Value.oneCell']) ((((((h2.keep e2).keep e3).keepM e4 (by intro h; (try dsimp only at h); omega)).keep e5).keepM e6 (by intro h; (try dsimp only at h); omega)).keep e7) (Nat.le_of_ble_eq_true rfl) (fun w10 hs10 e10 z10 => ?_)
      refine O.nil ⟨(Ext.bare (Ext.new (Ext.new (Ext.refl (fun _ => True) _) e7 (fun _ _ _ => trivial)) e10 (fun _ _ _ => trivial))), ?_⟩
      refine D.take (i := 4) rfl rfl rfl rfl (by kernel_rfl) (Ext.bare (Ext.new (Ext.new (Ext.refl (fun _ => True) _) e7 (fun _ _ _ => trivial)) e10 (fun _ _ _ => trivial))) ⟨pure _, rfl⟩ (fun w_ hw_ N_ hN => (O.asg (O.nil hN))) ?_
      refine D.one (i := 5) rfl rfl (by kernel_rfl) ?_
      refine O.store Tryz.sizeOf33 rfl rfl rfl ((((((h4.keep e3).keepM e4 (by intro h; (try dsimp only at h); omega)).keep e5).keepM e6 (by intro h; (try dsimp only at h); omega)).keep e7).keepM e10 (by intro h; (try dsimp only at h); omega)) (by decide) (fun w11 hs11 e11 z11 => ?_)
      try simp only [Int.toNat_natCast, Nat.zero_add, Nat.mul_one] at hs11
      refine O.nil ⟨(Ext.bare (Ext.new (Ext.new (Ext.new (Ext.refl (fun _ => True) _) e7 (fun _ _ _ => trivial)) e10 (fun _ _ _ => trivial)) e11 (fun _ _ _ => trivial))), ?_⟩
      refine D.done (by kernel_rfl) ?_
      refine hK3 _ _ ?_
      refine CD.ret ?_
      refine leaves1 (by simp) Tryz.call82 (caught_idle _ _) ?_
      rintro _ rfl
      refine ⟨_, res_ctc (s := 3) rfl (getD_Fr _ _ 2) (getD_Fr _ _ 3) (getD_Fr _ _ 4) Tryz.isAgg28 Tryz.sizeOf28 (hs10.keepM e11 (by intro h; (try dsimp only at h); omega)) rfl Tryz.isAgg33 hs11, ?_⟩
      exact ⟨slv p1, slv p2, slv p3, cv10, knv10, 0, rfl, ((((((hxv10.keep e5).keepM e6 (by intro k hk h; first | (have q1 := hF k hk; (try dsimp only at h); omega) | (have q1 := hF2 k hk; (try dsimp only at h); omega) | (have q1 := hFb k hk; (try dsimp only at h); omega) | ((try dsimp only at hk); (try dsimp only at h); omega))).keep e7).keepM e10 (by intro k hk h; first | (have q1 := hF k hk; (try dsimp only at h); omega) | (have q1 := hF2 k hk; (try dsimp only at h); omega) | (have q1 := hFb k hk; (try dsimp only at h); omega) | ((try dsimp only at hk); (try dsimp only at h); omega))).keepM e11 (by intro k hk h; first | (have q1 := hF k hk; (try dsimp only at h); omega) | (have q1 := hF2 k hk; (try dsimp only at h); omega) | (have q1 := hFb k hk; (try dsimp only at h); omega) | ((try dsimp only at hk); (try dsimp only at h); omega)))).weak (by intro j hj; (try dsimp only at hj); (try dsimp only); omega), ((((((hyv10.keep e5).keepM e6 (by intro k hk h; first | (have q1 := hF k hk; (try dsimp only at h); omega) | (have q1 := hF2 k hk; (try dsimp only at h); omega) | (have q1 := hFb k hk; (try dsimp only at h); omega) | ((try dsimp only at hk); (try dsimp only at h); omega))).keep e7).keepM e10 (by intro k hk h; first | (have q1 := hF k hk; (try dsimp only at h); omega) | (have q1 := hF2 k hk; (try dsimp only at h); omega) | (have q1 := hFb k hk; (try dsimp only at h); omega) | ((try dsimp only at hk); (try dsimp only at h); omega))).keepM e11 (by intro k hk h; first | (have q1 := hF k hk; (try dsimp only at h); omega) | (have q1 := hF2 k hk; (try dsimp only at h); omega) | (have q1 := hFb k hk; (try dsimp only at h); omega) | ((try dsimp only at hk); (try dsimp only at h); omega)))).weak (by intro j hj; (try dsimp only at hj); (try dsimp only); omega), ((((((hzv10.keep e5).keepM e6 (by intro k hk h; first | (have q1 := hF k hk; (try dsimp only at h); omega) | (have q1 := hF2 k hk; (try dsimp only at h); omega) | (have q1 := hFb k hk; (try dsimp only at h); omega) | ((try dsimp only at hk); (try dsimp only at h); omega))).keep e7).keepM e10 (by intro k hk h; first | (have q1 := hF k hk; (try dsimp only at h); omega) | (have q1 := hF2 k hk; (try dsimp only at h); omega) | (have q1 := hFb k hk; (try dsimp only at h); omega) | ((try dsimp only at hk); (try dsimp only at h); omega))).keepM e11 (by intro k hk h; first | (have q1 := hF k hk; (try dsimp only at h); omega) | (have q1 := hF2 k hk; (try dsimp only at h); omega) | (have q1 := hFb k hk; (try dsimp only at h); omega) | ((try dsimp only at hk); (try dsimp only at h); omega)))).weak (by intro j hj; (try dsimp only at hj); (try dsimp only); omega), hgv10, .inl ⟨rfl, hcv10, hsv10⟩, (Ext.new (Ext.new (Ext.trans (Ext.new (Ext.trans (Ext.new (Ext.trans (Ext.trans e1 e2) e3) e4 (by rintro i hi rfl; omega)) e5) e6 (by rintro i hi rfl; omega)) e7) e10 (by rintro i hi rfl; omega)) e11 (by rintro i hi rfl; omega))⟩
  ·
    rintro a ch wz hh ⟨rfl, hno, ez⟩
    refine leaves1 (by simp) Tryz.call82 (caught_wrong b4 0 wz ((h4).keep ez)) ?_
    rintro w9 ⟨ho9, e9⟩
    have h2l := (((h2.keep e2)).keep ez).lt
    refine ⟨_, res_ctc (s := 3) rfl (hh 2 (by decide)) (hh 3 (by decide)) (hh 4 (by decide)) Tryz.isAgg28 Tryz.sizeOf28 ((((h2.keep e2)).keep ez).keepM e9 (by intro h; (try dsimp only at h); omega)) rfl Tryz.isAgg33 ho9, ?_⟩
    exact ⟨_, _, _, Cn.nil0, 0, 12, rfl, Fre.nil _ _ _ _, Fre.nil _ _ _ _, SlI.nil _ _ _ _, Cn.big_nil0, .inr ⟨rfl, rfl, rfl, hno⟩, Ext.new (Ext.trans (Ext.trans e1 e2) ez) e9 (by intro i hi h; (try dsimp only at h); omega)⟩

set_option maxHeartbeats 2000000 in
theorem dcontext_spec (v0 : Value) (l : List UInt8) (F : Nat → Prop) (w : World) (hl : Sl byteE w F v0 l) (hL : l.length ≤ 1000000) (hF : ∀ j, F j → j < w.heap.size) (mx : Mx w) :
    Ret Tryz.prog 77 #[v0] w (fun v w' => ∃ (v1 v2 : Value) (x : Cn.Ctx) (e : Int), v = .tuple #[.agg #[v1, v2], .int .i64 e] ∧ Sl Dt.dotF.enc w' (fun j => w.heap.size ≤ j ∧ j < w'.heap.size) v1 x.1 ∧ Sl Dt.dotF.enc w' (fun j => w.heap.size ≤ j ∧ j < w'.heap.size) v2 x.2 ∧ (x.1.length ≤ 1000000 ∧ x.2.length ≤ 1000000) ∧ Cn.CtxRes l x e ∧ Le w w') := by
  have hgl := mx.lt
  have hll := hl.le
  have _hF9 := hF
  refine enterD (args := [v0]) (n := 14) (ks := [2, 3]) Tryz.func77 rfl rfl (Nat.le_of_ble_eq_true rfl) rfl ?_
  refine C.region ?_
  refine O.alloc Tryz.zeroValue25 (fun b2 w1 hb2 hz2 e1 => ?_)
  have z1 := e1.size
  have h2 := hz2.own
  have hl2 := h2.lt
  refine O.alloc Tryz.zeroValue33 (fun b3 w2 hb3 hz3 e2 => ?_)
  have z2 := e2.size
  have h3 := hz3.own
  have hl3 := h3.lt
  refine O.nil ?_
  refine ⟨.pointer (some ⟨b3, 0, none⟩), (fun ch w' => ch = [{ v := .iface 150 (.agg #[]), recovered := false }] ∧ (∀ y, Cn.comp y → l ≠ Cn.ctxB y) ∧ Le w2 w'), rfl, ?_, ?_⟩
  ·
    refine CD.seqK fun K1 hK1 => ?_
    refine CD.region (by kernel_rfl) rfl ?_
    refine O.mv ?_
    refine O.call Tryz.call83 (args1 rfl) (rdNew_spec _ l _ _ ((hl.keep e1).keep e2) hL) ?_
    rintro v_7 w3 ⟨brv7, vrv7, rfl, hov7, hlv7, hbv7, hb2v7, e3⟩
    have z3 := e3.size
    refine O.asg ?_
    refine O.nil ?_
    refine hK1 _ _ ?_
    refine CD.seqK fun K2 hK2 => ?_
    refine CD.region (by kernel_rfl) rfl ?_
    refine O.mv ?_
    refine O.callZ Tryz.call104 (args1 rfl) (dseen_spec brv7 vrv7 l 0 _ _ hov7 hlv7 (Nat.zero_le _) (fun j hj => by have hj1 := hj.1; have hj2 := hj.2; exact ⟨by omega, by omega⟩) hL) (fun ch_ wz_ hz_ => ?_) ?_
    ·
      exact ⟨hz_.1, Cn.no_whole hz_.2.1, Ext.new e3 hz_.2.2 (by intro i hi h; (try dsimp only at h); omega)⟩
    rintro v_9 w4 ⟨vav9, vbv9, xv9, knv9, rfl, hov9, hxv9, hyv9, hnv9, hcv9, hsv9, e4⟩
    have z4 := e4.size
    replace hxv9 := hxv9.sl
    replace hyv9 := hyv9.sl
    obtain ⟨p1, rfl⟩ := hxv9.slv
    obtain ⟨p2, rfl⟩ := hyv9.slv
    refine O.alloc Tryz.zeroValue25 (fun b5 w5 hb5 hz5 e5 => ?_)
    have z5 := e5.size
    have h5 := hz5.own
    have hl5 := h5.lt
    refine O.storeA (vs := [slv p1, slv p2]) Tryz.sizeOf25 rfl rfl rfl (by simp [slv, Value.oneCell']) h5 (Nat.le_of_ble_eq_true rfl) (fun w6 hs6 e6 z6 => ?_)
    refine O.nil ?_
    refine hK2 _ _ ?_
    refine CD.seqK fun K3 hK3 => ?_
    refine CD.region (by kernel_rfl) rfl ?_
    refine O.mv ?_
    refine O.call Tryz.call106 (args1 rfl) (rdEnd_spec brv7 vrv7 l knv9 _ _ ((hov9.keep e5).keepM e6 (by intro h; (try dsimp only at h); omega)) (((hlv7.keepM e4 (by intro k hk h; (try dsimp only at hk); (try dsimp only at h); omega)).keep e5).keepM e6 (by intro k hk h; (try dsimp only at hk); (try dsimp only at h); omega)) (hsv9.2.2) (fun j hj => by have hj1 := hj.1; have hj2 := hj.2; exact ⟨by omega, by omega⟩)) ?_
    rintro v_11 w7 ⟨rfl, e7⟩
    have z7 := e7.size
    refine O.callZ Tryz.call105 (args1 rfl) (must_spec _ _) (fun ch_ wz_ hz_ => ?_) ?_
    ·
      have hk9 : knv9 < l.length := Classical.byContradiction fun h => hz_.2.1 (if_neg h)
      exact ⟨hz_.1, Cn.ctx_more hsv9 hcv9 hk9, Ext.trans (Ext.trans (Ext.new (Ext.trans (Ext.new e3 e4 (by rintro i hi rfl; omega)) e5) e6 (by rintro i hi rfl; omega)) e7) hz_.2.2⟩
    rintro v_12 w8 ⟨rfl, hzv12, e8⟩
    have z8 := e8.size
    refine O.nil ?_
    refine hK3 _ _ ?_
    refine CD.seqK fun K4 hK4 => ?_
    refine CD.region (by kernel_rfl) rfl ?_
    refine O.loadOA Tryz.isAgg25 Tryz.sizeOf25 rfl ((hs6.keep e7).keep e8) (Nat.le_of_ble_eq_true rfl) ?_
    refine O.storeA (vs := [slv p1, slv p2]) Tryz.sizeOf25 rfl rfl rfl (by simp [slv, Value.oneCell']) (((((((h2.keep e2).keep e3).keepM e4 (by intro h; (try dsimp only at h); omega)).keep e5).keepM e6 (by intro h; (try dsimp only at h); omega)).keep e7).keep e8) (Nat.le_of_ble_eq_true rfl) (fun w9 hs9 e9 z9 => ?_)
    refine O.store Tryz.sizeOf33 rfl rfl rfl (((((((h3.keep e3).keepM e4 (by intro h; (try dsimp only at h); omega)).keep e5).keepM e6 (by intro h; (try dsimp only at h); omega)).keep e7).keep e8).keepM e9 (by intro h; (try dsimp only at h); omega)) (by decide) (fun w10 hs10 e10 z10 => ?_)
    try simp only [Int.toNat_natCast, Nat.zero_add, Nat.mul_one] at hs10
    refine O.nil ?_
    refine hK4 _ _ ?_
    refine CD.ret ?_
    have hk9 : knv9 = l.length := by
      have h1 := hsv9.2.2
      rcases Nat.lt_or_ge knv9 l.length with h | h
      · rw [if_pos h] at hzv12
        cases hzv12
      · omega
    refine leaves1 (by simp) Tryz.call82 (caught_idle _ _) ?_
    rintro _ rfl
    refine ⟨_, res_cc (s := 2) rfl (getD_Fr _ _ 2) (getD_Fr _ _ 3) Tryz.isAgg25 Tryz.sizeOf25 (hs9.keepM e10 (by intro h; (try dsimp only at h); omega)) rfl Tryz.isAgg33 hs10, ?_⟩
    exact ⟨slv p1, slv p2, xv9, 0, rfl, (((((((hxv9.keep e5).keepM e6 (by intro k hk h; first | (have q1 := hF k hk; (try dsimp only at h); omega) | (have q1 := hF2 k hk; (try dsimp only at h); omega) | (have q1 := hFb k hk; (try dsimp only at h); omega) | ((try dsimp only at hk); (try dsimp only at h); omega))).keep e7).keep e8).keepM e9 (by intro k hk h; first | (have q1 := hF k hk; (try dsimp only at h); omega) | (have q1 := hF2 k hk; (try dsimp only at h); omega) | (have q1 := hFb k hk; (try dsimp only at h); omega) | ((try dsimp only at hk); (try dsimp only at h); omega))).keepM e10 (by intro k hk h; first | (have q1 := hF k hk; (try dsimp only at h); omega) | (have q1 := hF2 k hk; (try dsimp only at h); omega) | (have q1 := hFb k hk; (try dsimp only at h); omega) | ((try dsimp only at hk); (try dsimp only at h); omega)))).weak (by intro j hj; (try dsimp only at hj); (try dsimp only); omega), (((((((hyv9.keep e5).keepM e6 (by intro k hk h; first | (have q1 := hF k hk; (try dsimp only at h); omega) | (have q1 := hF2 k hk; (try dsimp only at h); omega) | (have q1 := hFb k hk; (try dsimp only at h); omega) | ((try dsimp only at hk); (try dsimp only at h); omega))).keep e7).keep e8).keepM e9 (by intro k hk h; first | (have q1 := hF k hk; (try dsimp only at h); omega) | (have q1 := hF2 k hk; (try dsimp only at h); omega) | (have q1 := hFb k hk; (try dsimp only at h); omega) | ((try dsimp only at hk); (try dsimp only at h); omega))).keepM e10 (by intro k hk h; first | (have q1 := hF k hk; (try dsimp only at h); omega) | (have q1 := hF2 k hk; (try dsimp only at h); omega) | (have q1 := hFb k hk; (try dsimp only at h); omega) | ((try dsimp only at hk); (try dsimp only at h); omega)))).weak (by intro j hj; (try dsimp only at hj); (try dsimp only); omega), ⟨by have := hnv9.1; omega, by have := hnv9.2; omega⟩, .inl ⟨rfl, hcv9, Cn.seg_whole hsv9 hk9⟩, (Ext.new (Ext.new (Ext.trans (Ext.trans (Ext.new (Ext.trans (Ext.new (Ext.trans (Ext.trans e1 e2) e3) e4 (by rintro i hi rfl; omega)) e5) e6 (by rintro i hi rfl; omega)) e7) e8) e9 (by rintro i hi rfl; omega)) e10 (by rintro i hi rfl; omega))⟩
  ·
    rintro a ch wz hh ⟨rfl, hno, ez⟩
    refine leaves1 (by simp) Tryz.call82 (caught_wrong b3 0 wz ((h3).keep ez)) ?_
    rintro w9 ⟨ho9, e9⟩
    have h2l := (((h2.keep e2)).keep ez).lt
    refine ⟨_, res_cc (s := 2) rfl (hh 2 (by decide)) (hh 3 (by decide)) Tryz.isAgg25 Tryz.sizeOf25 ((((h2.keep e2)).keep ez).keepM e9 (by intro h; (try dsimp only at h); omega)) rfl Tryz.isAgg33 ho9, ?_⟩
    exact ⟨_, _, ([], []), 12, rfl, Sl.nil _ _ _, Sl.nil _ _ _, ⟨by simp, by simp⟩, .inr ⟨rfl, rfl, hno⟩, Ext.new (Ext.trans (Ext.trans e1 e2) ez) e9 (by intro i hi h; (try dsimp only at h); omega)⟩

set_option maxHeartbeats 2000000 in
theorem dcart_spec (v0 : Value) (l : List UInt8) (F : Nat → Prop) (w : World) (hl : Sl byteE w F v0 l) (hL : l.length ≤ 1000000) (hF : ∀ j, F j → j < w.heap.size) (mx : Mx w) :
    Ret Tryz.prog 34 #[v0] w (fun v w' => ∃ (v1 v2 v3 : Value) (c : Cn.Cart) (e : Int), v = .tuple #[.agg #[v1, v2, v3], .int .i64 e] ∧ Fre Dt.dotF 51 w' (fun j => w.heap.size ≤ j ∧ j < w'.heap.size) v1 c.1.1 ∧ Fre Dt.dotF 51 w' (fun j => w.heap.size ≤ j ∧ j < w'.heap.size) v2 c.1.2 ∧ SlI 56 53 w' (fun j => w.heap.size ≤ j ∧ j < w'.heap.size) v3 c.2 ∧ Cn.big c ∧ Cn.CartRes l c e ∧ Le w w') := by
  have hgl := mx.lt
  have hll := hl.le
  refine enter (args := [v0]) (n := 23) Tryz.func34 rfl rfl (Nat.le_of_ble_eq_true rfl) ?_
  refine C.seqK fun K1 hK1 => ?_
  refine C.region ?_
  refine O.alloc Tryz.zeroValue28 (fun b2 w1 hb2 hz2 e1 => ?_)
  have z1 := e1.size
  have h2 := hz2.own
  have hl2 := h2.lt
  refine O.asg ?_
  refine O.nil ?_
  refine hK1 _ _ ?_
  refine C.seqK fun K2 hK2 => ?_
  refine C.region ?_
  refine O.mv ?_
  refine O.call Tryz.call58 (args1 rfl) (prefix_spec _ l _ _ (hl.keep e1) hL (fun j hj => by have q1 := hF j hj; omega) (mx.keep e1)) ?_
  rintro v_9 w2 ⟨vav9, vbv9, vcv9, cv9, knv9, env9, rfl, hxv9, hyv9, hzv9, hgv9, hpv9, e2⟩
  have z2 := e2.size
  obtain ⟨p1, rfl⟩ := hxv9.slv
  obtain ⟨p2, rfl⟩ := hyv9.slv
  obtain ⟨p3, rfl⟩ := hzv9.sl.slv
  refine O.mv ?_
  refine O.extract rfl rfl ?_
  refine O.extract rfl rfl ?_
  refine O.extract rfl rfl ?_
  refine O.alloc Tryz.zeroValue28 (fun b4 w3 hb4 hz4 e3 => ?_)
  have z3 := e3.size
  have h4 := hz4.own
  have hl4 := h4.lt
  refine O.storeA (vs := [slv p1, slv p2, slv p3]) Tryz.sizeOf28 rfl rfl rfl (by simp [slv, Value.oneCell']) h4 (Nat.le_of_ble_eq_true rfl) (fun w4 hs4 e4 z4 => ?_)
  refine O.asg ?_
  refine O.asg ?_
  refine O.nil ?_
  refine hK2 _ _ ?_
  refine C.seqK fun K3 hK3 => ?_
  refine C.seqK fun K4 hK4 => ?_
  refine C.region ?_
  refine O.mv ?_
  refine O.neqI rfl rfl ?_
  refine O.mv ?_
  refine O.splitD (x := .tmp 15) rfl (fun c15 => ?_) (fun c15 => ?_)
  ·
    refine O.no rfl (noB (isT rfl c15) rfl) ?_
    refine O.no rfl (noB (isT rfl c15) rfl) ?_
    refine O.no rfl (noB (isT rfl c15) rfl) ?_
    refine O.no rfl (noB (isT rfl c15) rfl) ?_
    refine O.pickT (isT rfl c15) ?_
    refine O.nil ?_
    refine hK4 _ _ ?_
    refine C.condT rfl ?_
    refine C.seqK fun K5 hK5 => ?_
    refine C.region ?_
    refine O.build (cells := #[.slice none 0 0, .slice none 0 0, .slice none 0 0]) rfl (by kernel_rfl) ?_
    refine O.storeA (vs := [.slice none 0 0, .slice none 0 0, .slice none 0 0]) Tryz.sizeOf28 rfl rfl rfl (by simp [slv, Value.oneCell']) (((h2.keep e2).keep e3).keepM e4 (by intro h; (try dsimp only at h); omega)) (Nat.le_of_ble_eq_true rfl) (fun w5 hs5 e5 z5 => ?_)
    refine O.asg ?_
    refine O.nil ?_
    refine hK5 _ _ ?_
    refine C.ret ?_
    refine Outs.cellA2 rfl Tryz.isAgg28 Tryz.sizeOf28 rfl rfl hs5 rfl ?_
    rcases hpv9 with ⟨q1, q2, q3⟩ | ⟨q1, q2, q3, q4⟩
    · first
      | exact ⟨slv p1, slv p2, slv p3, cv9, 0, rfl, ((((hxv9.keep e3).keepM e4 (by intro k hk h; first | (have q1 := hF k hk; (try dsimp only at h); omega) | (have q1 := hF2 k hk; (try dsimp only at h); omega) | (have q1 := hFb k hk; (try dsimp only at h); omega) | ((try dsimp only at hk); (try dsimp only at h); omega))).keepM e5 (by intro k hk h; first | (have q1 := hF k hk; (try dsimp only at h); omega) | (have q1 := hF2 k hk; (try dsimp only at h); omega) | (have q1 := hFb k hk; (try dsimp only at h); omega) | ((try dsimp only at hk); (try dsimp only at h); omega)))).weak (by intro j hj; (try dsimp only at hj); (try dsimp only); omega), ((((hyv9.keep e3).keepM e4 (by intro k hk h; first | (have q1 := hF k hk; (try dsimp only at h); omega) | (have q1 := hF2 k hk; (try dsimp only at h); omega) | (have q1 := hFb k hk; (try dsimp only at h); omega) | ((try dsimp only at hk); (try dsimp only at h); omega))).keepM e5 (by intro k hk h; first | (have q1 := hF k hk; (try dsimp only at h); omega) | (have q1 := hF2 k hk; (try dsimp only at h); omega) | (have q1 := hFb k hk; (try dsimp only at h); omega) | ((try dsimp only at hk); (try dsimp only at h); omega)))).weak (by intro j hj; (try dsimp only at hj); (try dsimp only); omega), ((((hzv9.keep e3).keepM e4 (by intro k hk h; first | (have q1 := hF k hk; (try dsimp only at h); omega) | (have q1 := hF2 k hk; (try dsimp only at h); omega) | (have q1 := hFb k hk; (try dsimp only at h); omega) | ((try dsimp only at hk); (try dsimp only at h); omega))).keepM e5 (by intro k hk h; first | (have q1 := hF k hk; (try dsimp only at h); omega) | (have q1 := hF2 k hk; (try dsimp only at h); omega) | (have q1 := hFb k hk; (try dsimp only at h); omega) | ((try dsimp only at hk); (try dsimp only at h); omega)))).weak (by intro j hj; (try dsimp only at hj); (try dsimp only); omega), hgv9, .inl ⟨rfl, q2, Cn.seg_whole q3 (by omega)⟩, (Ext.new (Ext.new (Ext.trans (Ext.trans e1 e2) e3) e4 (by rintro i hi rfl; omega)) e5 (by rintro i hi rfl; omega))⟩
      | exact ⟨_, _, _, Cn.nil0, 12, rfl, Fre.nil _ _ _ _, Fre.nil _ _ _ _, SlI.nil _ _ _ _, Cn.big_nil0, .inr ⟨rfl, rfl, Cn.cart_more q3 q2 (by omega)⟩, (Ext.new (Ext.new (Ext.trans (Ext.trans e1 e2) e3) e4 (by rintro i hi rfl; omega)) e5 (by rintro i hi rfl; omega))⟩
      | (exfalso; omega)
    · first
      | exact ⟨_, _, _, Cn.nil0, 12, rfl, Fre.nil _ _ _ _, Fre.nil _ _ _ _, SlI.nil _ _ _ _, Cn.big_nil0, .inr ⟨rfl, rfl, Cn.no_whole q4⟩, (Ext.new (Ext.new (Ext.trans (Ext.trans e1 e2) e3) e4 (by rintro i hi rfl; omega)) e5 (by rintro i hi rfl; omega))⟩
      | (exfalso; omega)
  ·
    refine O.yes rfl (isF rfl c15) ?_
    refine O.mv ?_
    refine O.yes rfl (isF rfl c15) ?_
    refine O.mv ?_
    refine O.yes rfl (isF rfl c15) ?_
    refine O.len Tryz.underlying32 rfl (hl.keep (Ext.new (Ext.trans (Ext.trans e1 e2) e3) e4 (by rintro i hi rfl; omega))) ?_
    refine O.yes rfl (isF rfl c15) ?_
    refine O.neqI rfl rfl ?_
    refine O.pickF (isF rfl c15) ?_
    refine O.nil ?_
    refine hK4 _ _ ?_
    refine C.condD rfl (fun c20 => ?_) (fun c20 => ?_)
    ·
      refine C.seqK fun K6 hK6 => ?_
      refine C.region ?_
      refine O.build (cells := #[.slice none 0 0, .slice none 0 0, .slice none 0 0]) rfl (by kernel_rfl) ?_
      refine O.storeA (vs := [.slice none 0 0, .slice none 0 0, .slice none 0 0]) Tryz.sizeOf28 rfl rfl rfl (by simp [slv, Value.oneCell']) (((h2.keep e2).keep e3).keepM e4 (by intro h; (try dsimp only at h); omega)) (Nat.le_of_ble_eq_true rfl) (fun w6 hs6 e6 z6 => ?_)
      refine O.asg ?_
      refine O.nil ?_
      refine hK6 _ _ ?_
      refine C.ret ?_
      refine Outs.cellA2 rfl Tryz.isAgg28 Tryz.sizeOf28 rfl rfl hs6 rfl ?_
      rcases hpv9 with ⟨q1, q2, q3⟩ | ⟨q1, q2, q3, q4⟩
      · first
        | exact ⟨slv p1, slv p2, slv p3, cv9, 0, rfl, ((((hxv9.keep e3).keepM e4 (by intro k hk h; first | (have q1 := hF k hk; (try dsimp only at h); omega) | (have q1 := hF2 k hk; (try dsimp only at h); omega) | (have q1 := hFb k hk; (try dsimp only at h); omega) | ((try dsimp only at hk); (try dsimp only at h); omega))).keepM e6 (by intro k hk h; first | (have q1 := hF k hk; (try dsimp only at h); omega) | (have q1 := hF2 k hk; (try dsimp only at h); omega) | (have q1 := hFb k hk; (try dsimp only at h); omega) | ((try dsimp only at hk); (try dsimp only at h); omega)))).weak (by intro j hj; (try dsimp only at hj); (try dsimp only); omega), ((((hyv9.keep e3).keepM e4 (by intro k hk h; first | (have q1 := hF k hk; (try dsimp only at h); omega) | (have q1 := hF2 k hk; (try dsimp only at h); omega) | (have q1 := hFb k hk; (try dsimp only at h); omega) | ((try dsimp only at hk); (try dsimp only at h); omega))).keepM e6 (by intro k hk h; first | (have q1 := hF k hk; (try dsimp only at h); omega) | (have q1 := hF2 k hk; (try dsimp only at h); omega) | (have q1 := hFb k hk; (try dsimp only at h); omega) | ((try dsimp only at hk); (try dsimp only at h); omega)))).weak (by intro j hj; (try dsimp only at hj); (try dsimp only); omega), ((((hzv9.keep e3).keepM e4 (by intro k hk h; first | (have q1 := hF k hk; (try dsimp only at h); omega) | (have q1 := hF2 k hk; (try dsimp only at h); omega) | (have q1 := hFb k hk; (try dsimp only at h); omega) | ((try dsimp only at hk); (try dsimp only at h); omega))).keepM e6 (by intro k hk h; first | (have q1 := hF k hk; (try dsimp only at h); omega) | (have q1 := hF2 k hk; (try dsimp only at h); omega) | (have q1 := hFb k hk; (try dsimp only at h); omega) | ((try dsimp only at hk); (try dsimp only at h); omega)))).weak (by intro j hj; (try dsimp only at hj); (try dsimp only); omega), hgv9, .inl ⟨rfl, q2, Cn.seg_whole q3 (by omega)⟩, (Ext.new (Ext.new (Ext.trans (Ext.trans e1 e2) e3) e4 (by rintro i hi rfl; omega)) e6 (by rintro i hi rfl; omega))⟩
        | exact ⟨_, _, _, Cn.nil0, 12, rfl, Fre.nil _ _ _ _, Fre.nil _ _ _ _, SlI.nil _ _ _ _, Cn.big_nil0, .inr ⟨rfl, rfl, Cn.cart_more q3 q2 (by omega)⟩, (Ext.new (Ext.new (Ext.trans (Ext.trans e1 e2) e3) e4 (by rintro i hi rfl; omega)) e6 (by rintro i hi rfl; omega))⟩
        | (exfalso; omega)
      · first
        | exact ⟨_, _, _, Cn.nil0, 12, rfl, Fre.nil _ _ _ _, Fre.nil _ _ _ _, SlI.nil _ _ _ _, Cn.big_nil0, .inr ⟨rfl, rfl, Cn.no_whole q4⟩, (Ext.new (Ext.new (Ext.trans (Ext.trans e1 e2) e3) e4 (by rintro i hi rfl; omega)) e6 (by rintro i hi rfl; omega))⟩
        | (exfalso; omega)
    ·
      refine C.skip ?_
      refine hK3 _ _ ?_
      refine C.seqK fun K7 hK7 => ?_
      refine C.region ?_
      refine O.loadOA Tryz.isAgg28 Tryz.sizeOf28 rfl hs4 (Nat.le_of_ble_eq_true rfl) ?_
      refine O.storeA (vs := [slv p1, slv p2, slv p3]) Tryz.sizeOf28 rfl rfl rfl (by simp [slv, Value.oneCell']) (((h2.keep e2).keep e3).keepM e4 (by intro h; (try dsimp only at h); omega)) (Nat.le_of_ble_eq_true rfl) (fun w7 hs7 e7 z7 => ?_)
      refine O.asg ?_
      refine O.nil ?_
      refine hK7 _ _ ?_
      refine C.ret ?_
      refine Outs.cellA2 rfl Tryz.isAgg28 Tryz.sizeOf28 rfl rfl hs7 rfl ?_
      rcases hpv9 with ⟨q1, q2, q3⟩ | ⟨q1, q2, q3, q4⟩
      · first
        | exact ⟨slv p1, slv p2, slv p3, cv9, 0, rfl, ((((hxv9.keep e3).keepM e4 (by intro k hk h; first | (have q1 := hF k hk; (try dsimp only at h); omega) | (have q1 := hF2 k hk; (try dsimp only at h); omega) | (have q1 := hFb k hk; (try dsimp only at h); omega) | ((try dsimp only at hk); (try dsimp only at h); omega))).keepM e7 (by intro k hk h; first | (have q1 := hF k hk; (try dsimp only at h); omega) | (have q1 := hF2 k hk; (try dsimp only at h); omega) | (have q1 := hFb k hk; (try dsimp only at h); omega) | ((try dsimp only at hk); (try dsimp only at h); omega)))).weak (by intro j hj; (try dsimp only at hj); (try dsimp only); omega), ((((hyv9.keep e3).keepM e4 (by intro k hk h; first | (have q1 := hF k hk; (try dsimp only at h); omega) | (have q1 := hF2 k hk; (try dsimp only at h); omega) | (have q1 := hFb k hk; (try dsimp only at h); omega) | ((try dsimp only at hk); (try dsimp only at h); omega))).keepM e7 (by intro k hk h; first | (have q1 := hF k hk; (try dsimp only at h); omega) | (have q1 := hF2 k hk; (try dsimp only at h); omega) | (have q1 := hFb k hk; (try dsimp only at h); omega) | ((try dsimp only at hk); (try dsimp only at h); omega)))).weak (by intro j hj; (try dsimp only at hj); (try dsimp only); omega), ((((hzv9.keep e3).keepM e4 (by intro k hk h; first | (have q1 := hF k hk; (try dsimp only at h); omega) | (have q1 := hF2 k hk; (try dsimp only at h); omega) | (have q1 := hFb k hk; (try dsimp only at h); omega) | ((try dsimp only at hk); (try dsimp only at h); omega))).keepM e7 (by intro k hk h; first | (have q1 := hF k hk; (try dsimp only at h); omega) | (have q1 := hF2 k hk; (try dsimp only at h); omega) | (have q1 := hFb k hk; (try dsimp only at h); omega) | ((try dsimp only at hk); (try dsimp only at h); omega)))).weak (by intro j hj; (try dsimp only at hj); (try dsimp only); omega), hgv9, .inl ⟨rfl, q2, Cn.seg_whole q3 (by omega)⟩, (Ext.new (Ext.new (Ext.trans (Ext.trans e1 e2) e3) e4 (by rintro i hi rfl; omega)) e7 (by rintro i hi rfl; omega))⟩
        | exact ⟨_, _, _, Cn.nil0, 12, rfl, Fre.nil _ _ _ _, Fre.nil _ _ _ _, SlI.nil _ _ _ _, Cn.big_nil0, .inr ⟨rfl, rfl, Cn.cart_more q3 q2 (by omega)⟩, (Ext.new (Ext.new (Ext.trans (Ext.trans e1 e2) e3) e4 (by rintro i hi rfl; omega)) e7 (by rintro i hi rfl; omega))⟩
        | (exfalso; omega)
      · first
        | exact ⟨_, _, _, Cn.nil0, 12, rfl, Fre.nil _ _ _ _, Fre.nil _ _ _ _, SlI.nil _ _ _ _, Cn.big_nil0, .inr ⟨rfl, rfl, Cn.no_whole q4⟩, (Ext.new (Ext.new (Ext.trans (Ext.trans e1 e2) e3) e4 (by rintro i hi rfl; omega)) e7 (by rintro i hi rfl; omega))⟩
        | (exfalso; omega)

end Go.Proofs.YtnkcmaoaagnopaaGreatDoor
end
section
/-
  The walks of the reference that reads. Conditions: slices as they lie in memory.
-/
namespace Go.Proofs.YtnkcmaoaagnopaaGreatDoor
open Go.Pn Go.RowKit Go.Proofs
attribute [local irreducible] O C D

end Go.Proofs.YtnkcmaoaagnopaaGreatDoor
end
section
/-
  The walks of the reference that reads whole carts. Conditions: slices as they lie in memory.
-/
namespace Go.Proofs.YtnkcmaoaagnopaaGreatDoor
open Go.Pn Go.RowKit Go.Proofs
attribute [local irreducible] O C D

end Go.Proofs.YtnkcmaoaagnopaaGreatDoor
end
section
/-
  The walks of the laws' helpers: carts counted, answers held against what they must be. Conditions: slices as they lie in memory.
-/
namespace Go.Proofs.YtnkcmaoaagnopaaGreatDoor
open Go.Pn Go.RowKit Go.Proofs
attribute [local irreducible] O C D

set_option maxHeartbeats 1000000 in
theorem isY_spec (v0 : Value) (l : List UInt8) (F : Nat → Prop) (vb1 vb2 vb3 : Value) (b : Cn.Cart) (Fb : Nat → Prop) (w : World) (hl : Sl byteE w F v0 l) (hL : l.length ≤ 1000000) (hF : ∀ j, F j → j < w.heap.size) (mx : Mx w) (hbv : Sl Dt.dotF.enc w Fb vb1 b.1.1) (hbc : Sl Dt.dotF.enc w Fb vb2 b.1.2) (hbi : Sl itemE w Fb vb3 b.2) (hFb : ∀ k, Fb k → k < w.heap.size) (hr : Cn.CartRes l b 0) :
    Ret Tryz.prog 35 #[v0, .agg #[vb1, vb2, vb3], .bool (true)] w (fun v w' => v = .bool true ∧ Le w w') := by
  have hll := hl.le
  have hgl := mx.lt
  refine enter (args := [v0, .agg #[vb1, vb2, vb3], .bool (true)]) (n := 30) Tryz.func35 rfl rfl (Nat.le_of_ble_eq_true rfl) ?_
  refine C.seqK fun K1 hK1 => ?_
  refine C.region ?_
  refine O.box (v := .agg #[vb1, vb2, vb3]) rfl (fun b4 w1 hb4 hz4 e1 => ?_)
  have z1 := e1.size
  have h4 := hz4.own
  have hl4 := h4.lt
  refine O.asg ?_
  refine O.nil ?_
  refine hK1 _ _ ?_
  refine C.seqK fun K2 hK2 => ?_
  refine C.region ?_
  refine O.mv ?_
  refine O.call Tryz.call34 (args1 rfl) (dcart_spec v0 l F _ (hl.keep e1) hL (fun j hj => by have q1 := hF j hj; omega) (mx.keep e1)) ?_
  rintro v_11 w2 ⟨vav11, vbv11, vcv11, cv11, env11, rfl, hxv11, hyv11, hzv11, hgv11, hpv11, e2⟩
  have z2 := e2.size
  replace hxv11 := hxv11.sl
  replace hyv11 := hyv11.sl
  replace hzv11 := hzv11.sl
  obtain ⟨p1, rfl⟩ := hxv11.slv
  obtain ⟨p2, rfl⟩ := hyv11.slv
  obtain ⟨p3, rfl⟩ := hzv11.slv
  obtain ⟨hcb, he0⟩ := hpv11.uniq hr
  refine O.mv ?_
  refine O.extract rfl rfl ?_
  refine O.extract rfl rfl ?_
  refine O.alloc Tryz.zeroValue28 (fun b7 w3 hb7 hz7 e3 => ?_)
  have z3 := e3.size
  have h7 := hz7.own
  have hl7 := h7.lt
  refine O.storeA (vs := [slv p1, slv p2, slv p3]) Tryz.sizeOf28 rfl rfl rfl (by simp [slv, Value.oneCell']) h7 (Nat.le_of_ble_eq_true rfl) (fun w4 hs4 e4 z4 => ?_)
  refine O.asg ?_
  refine O.nil ?_
  refine hK2 _ _ ?_
  refine C.seqK fun K3 hK3 => ?_
  refine C.seqK fun K4 hK4 => ?_
  refine C.region ?_
  refine O.mv ?_
  refine O.not rfl ?_
  refine O.cast (v' := .bool false) rfl ?_
  refine O.nil ?_
  refine hK4 _ _ ?_
  refine C.condF rfl ?_
  refine C.skip ?_
  refine hK3 _ _ ?_
  refine C.seqK fun K5 hK5 => ?_
  refine C.region ?_
  refine O.loadOA Tryz.isAgg28 Tryz.sizeOf28 rfl hs4 (Nat.le_of_ble_eq_true rfl) ?_
  refine O.loadOA Tryz.isAgg28 Tryz.sizeOf28 rfl (((h4.keep e2).keep e3).keepM e4 (by intro h; (try dsimp only at h); omega)) (Nat.le_of_ble_eq_true rfl) ?_
  refine O.call Tryz.call21 (args2 rfl rfl) (same_spec (slv p1) (slv p2) (slv p3) cv11 _ vb1 vb2 vb3 b Fb _ ((hxv11.keep e3).keepM e4 (by intro k hk h; first | (have q1 := hF k hk; (try dsimp only at h); omega) | (have q1 := hF2 k hk; (try dsimp only at h); omega) | (have q1 := hFb k hk; (try dsimp only at h); omega) | ((try dsimp only at hk); (try dsimp only at h); omega))) ((hyv11.keep e3).keepM e4 (by intro k hk h; first | (have q1 := hF k hk; (try dsimp only at h); omega) | (have q1 := hF2 k hk; (try dsimp only at h); omega) | (have q1 := hFb k hk; (try dsimp only at h); omega) | ((try dsimp only at hk); (try dsimp only at h); omega))) ((hzv11.keep e3).keepM e4 (by intro k hk h; first | (have q1 := hF k hk; (try dsimp only at h); omega) | (have q1 := hF2 k hk; (try dsimp only at h); omega) | (have q1 := hFb k hk; (try dsimp only at h); omega) | ((try dsimp only at hk); (try dsimp only at h); omega))) (hbv.keep (Ext.new (Ext.trans (Ext.trans e1 e2) e3) e4 (by rintro i hi rfl; omega))) (hbc.keep (Ext.new (Ext.trans (Ext.trans e1 e2) e3) e4 (by rintro i hi rfl; omega))) (hbi.keep (Ext.new (Ext.trans (Ext.trans e1 e2) e3) e4 (by rintro i hi rfl; omega))) (fun j hj => by have q1 := hj.2; omega) (fun j hj => by have q1 := hFb j hj; omega)) ?_
  rintro v_25 w5 ⟨rfl, e5⟩
  have z5 := e5.size
  refine O.cast (v' := .bool true) (congrArg Value.bool (by exact decide_eq_true hcb)) ?_
  refine O.mv ?_
  refine O.yes rfl rfl ?_
  refine O.mv ?_
  refine O.yes rfl rfl ?_
  refine O.eqlI rfl rfl ?_
  refine O.cast (v' := .bool true) (congrArg Value.bool (by exact decide_eq_true he0)) ?_
  refine O.pickT rfl ?_
  refine O.asg ?_
  refine O.nil ?_
  refine hK5 _ _ ?_
  refine C.ret ?_
  refine Outs.one rfl rfl ?_
  exact ⟨rfl, (Ext.trans (Ext.new (Ext.trans (Ext.trans e1 e2) e3) e4 (by rintro i hi rfl; omega)) e5)⟩

set_option maxHeartbeats 1000000 in
theorem isN_spec (v0 : Value) (l : List UInt8) (F : Nat → Prop) (vb1 vb2 vb3 : Value) (b : Cn.Cart) (Fb : Nat → Prop) (w : World) (hl : Sl byteE w F v0 l) (hL : l.length ≤ 1000000) (hF : ∀ j, F j → j < w.heap.size) (mx : Mx w) (hbv : Sl Dt.dotF.enc w Fb vb1 b.1.1) (hbc : Sl Dt.dotF.enc w Fb vb2 b.1.2) (hbi : Sl itemE w Fb vb3 b.2) (hFb : ∀ k, Fb k → k < w.heap.size) (hr : Cn.CartRes l Cn.nil0 12) :
    Ret Tryz.prog 35 #[v0, .agg #[vb1, vb2, vb3], .bool (false)] w (fun v w' => v = .bool true ∧ Le w w') := by
  have hll := hl.le
  have hgl := mx.lt
  have _hb := hFb
  refine enter (args := [v0, .agg #[vb1, vb2, vb3], .bool (false)]) (n := 30) Tryz.func35 rfl rfl (Nat.le_of_ble_eq_true rfl) ?_
  refine C.seqK fun K1 hK1 => ?_
  refine C.region ?_
  refine O.box (v := .agg #[vb1, vb2, vb3]) rfl (fun b4 w1 hb4 hz4 e1 => ?_)
  have z1 := e1.size
  have h4 := hz4.own
  have hl4 := h4.lt
  refine O.asg ?_
  refine O.nil ?_
  refine hK1 _ _ ?_
  refine C.seqK fun K2 hK2 => ?_
  refine C.region ?_
  refine O.mv ?_
  refine O.call Tryz.call34 (args1 rfl) (dcart_spec v0 l F _ (hl.keep e1) hL (fun j hj => by have q1 := hF j hj; omega) (mx.keep e1)) ?_
  rintro v_11 w2 ⟨vav11, vbv11, vcv11, cv11, env11, rfl, hxv11, hyv11, hzv11, hgv11, hpv11, e2⟩
  have z2 := e2.size
  replace hxv11 := hxv11.sl
  replace hyv11 := hyv11.sl
  replace hzv11 := hzv11.sl
  obtain ⟨p1, rfl⟩ := hxv11.slv
  obtain ⟨p2, rfl⟩ := hyv11.slv
  obtain ⟨p3, rfl⟩ := hzv11.slv
  obtain ⟨hcb, he0⟩ := hpv11.uniq hr
  refine O.mv ?_
  refine O.extract rfl rfl ?_
  refine O.extract rfl rfl ?_
  refine O.alloc Tryz.zeroValue28 (fun b7 w3 hb7 hz7 e3 => ?_)
  have z3 := e3.size
  have h7 := hz7.own
  have hl7 := h7.lt
  refine O.storeA (vs := [slv p1, slv p2, slv p3]) Tryz.sizeOf28 rfl rfl rfl (by simp [slv, Value.oneCell']) h7 (Nat.le_of_ble_eq_true rfl) (fun w4 hs4 e4 z4 => ?_)
  refine O.asg ?_
  refine O.nil ?_
  refine hK2 _ _ ?_
  refine C.seqK fun K3 hK3 => ?_
  refine C.seqK fun K4 hK4 => ?_
  refine C.region ?_
  refine O.mv ?_
  refine O.not rfl ?_
  refine O.cast (v' := .bool true) rfl ?_
  refine O.nil ?_
  refine hK4 _ _ ?_
  refine C.condT rfl ?_
  refine C.seqK fun K5 hK5 => ?_
  refine C.region ?_
  refine O.loadOA Tryz.isAgg28 Tryz.sizeOf28 rfl hs4 (Nat.le_of_ble_eq_true rfl) ?_
  refine O.build (cells := #[.slice none 0 0, .slice none 0 0, .slice none 0 0]) rfl (by kernel_rfl) ?_
  refine O.call Tryz.call21 (args2 rfl rfl) (same_spec (slv p1) (slv p2) (slv p3) cv11 _ (.slice none 0 0) (.slice none 0 0) (.slice none 0 0) Cn.nil0 (fun _ => False) _ ((hxv11.keep e3).keepM e4 (by intro k hk h; first | (have q1 := hF k hk; (try dsimp only at h); omega) | (have q1 := hF2 k hk; (try dsimp only at h); omega) | (have q1 := hFb k hk; (try dsimp only at h); omega) | ((try dsimp only at hk); (try dsimp only at h); omega))) ((hyv11.keep e3).keepM e4 (by intro k hk h; first | (have q1 := hF k hk; (try dsimp only at h); omega) | (have q1 := hF2 k hk; (try dsimp only at h); omega) | (have q1 := hFb k hk; (try dsimp only at h); omega) | ((try dsimp only at hk); (try dsimp only at h); omega))) ((hzv11.keep e3).keepM e4 (by intro k hk h; first | (have q1 := hF k hk; (try dsimp only at h); omega) | (have q1 := hF2 k hk; (try dsimp only at h); omega) | (have q1 := hFb k hk; (try dsimp only at h); omega) | ((try dsimp only at hk); (try dsimp only at h); omega))) (Sl.nil _ _ _) (Sl.nil _ _ _) (Sl.nil _ _ _) (fun j hj => by have q1 := hj.2; omega) (fun _ h => h.elim)) ?_
  rintro v_18 w5 ⟨rfl, e5⟩
  have z5 := e5.size
  refine O.cast (v' := .bool true) (congrArg Value.bool (by exact decide_eq_true hcb)) ?_
  refine O.mv ?_
  refine O.yes rfl rfl ?_
  refine O.mv ?_
  refine O.yes rfl rfl ?_
  refine O.eqlI rfl rfl ?_
  refine O.cast (v' := .bool true) (congrArg Value.bool (by exact decide_eq_true he0)) ?_
  refine O.pickT rfl ?_
  refine O.asg ?_
  refine O.nil ?_
  refine hK5 _ _ ?_
  refine C.ret ?_
  refine Outs.one rfl rfl ?_
  exact ⟨rfl, (Ext.trans (Ext.new (Ext.trans (Ext.trans e1 e2) e3) e4 (by rintro i hi rfl; omega)) e5)⟩

set_option maxHeartbeats 1000000 in
theorem begins_spec (v0 : Value) (l : List UInt8) (F : Nat → Prop) (vb1 vb2 vb3 : Value) (b : Cn.Cart) (Fb : Nat → Prop) (k : Nat) (e : Int) (w : World) (hl : Sl byteE w F v0 l) (hL : l.length ≤ 1000000) (hF : ∀ j, F j → j < w.heap.size) (mx : Mx w) (hbv : Sl Dt.dotF.enc w Fb vb1 b.1.1) (hbc : Sl Dt.dotF.enc w Fb vb2 b.1.2) (hbi : Sl itemE w Fb vb3 b.2) (hFb : ∀ k, Fb k → k < w.heap.size) (hr : Cn.Pref l b k e) :
    Ret Tryz.prog 36 #[v0, .agg #[vb1, vb2, vb3], .int .i64 ((k : Int)), .int .i64 (e)] w (fun v w' => v = .bool true ∧ Le w w') := by
  have hll := hl.le
  have hgl := mx.lt
  refine enter (args := [v0, .agg #[vb1, vb2, vb3], .int .i64 ((k : Int)), .int .i64 (e)]) (n := 31) Tryz.func36 rfl rfl (Nat.le_of_ble_eq_true rfl) ?_
  refine C.seqK fun K1 hK1 => ?_
  refine C.region ?_
  refine O.box (v := .agg #[vb1, vb2, vb3]) rfl (fun b5 w1 hb5 hz5 e1 => ?_)
  have z1 := e1.size
  have h5 := hz5.own
  have hl5 := h5.lt
  refine O.asg ?_
  refine O.nil ?_
  refine hK1 _ _ ?_
  refine C.seqK fun K2 hK2 => ?_
  refine C.region ?_
  refine O.mv ?_
  refine O.call Tryz.call58 (args1 rfl) (prefix_spec v0 l F _ (hl.keep e1) hL (fun j hj => by have q1 := hF j hj; omega) (mx.keep e1)) ?_
  rintro v_14 w2 ⟨vav14, vbv14, vcv14, cv14, knv14, env14, rfl, hxv14, hyv14, hzv14, hgv14, hpv14, e2⟩
  have z2 := e2.size
  replace hxv14 := hxv14.sl
  replace hyv14 := hyv14.sl
  replace hzv14 := hzv14.sl
  obtain ⟨p1, rfl⟩ := hxv14.slv
  obtain ⟨p2, rfl⟩ := hyv14.slv
  obtain ⟨p3, rfl⟩ := hzv14.slv
  obtain ⟨hcb, hkb, he0⟩ := hpv14.uniq hr
  refine O.mv ?_
  refine O.extract rfl rfl ?_
  refine O.extract rfl rfl ?_
  refine O.extract rfl rfl ?_
  refine O.alloc Tryz.zeroValue28 (fun b9 w3 hb9 hz9 e3 => ?_)
  have z3 := e3.size
  have h9 := hz9.own
  have hl9 := h9.lt
  refine O.storeA (vs := [slv p1, slv p2, slv p3]) Tryz.sizeOf28 rfl rfl rfl (by simp [slv, Value.oneCell']) h9 (Nat.le_of_ble_eq_true rfl) (fun w4 hs4 e4 z4 => ?_)
  refine O.asg ?_
  refine O.asg ?_
  refine O.nil ?_
  refine hK2 _ _ ?_
  refine C.seqK fun K3 hK3 => ?_
  refine C.region ?_
  refine O.loadOA Tryz.isAgg28 Tryz.sizeOf28 rfl hs4 (Nat.le_of_ble_eq_true rfl) ?_
  refine O.loadOA Tryz.isAgg28 Tryz.sizeOf28 rfl (((h5.keep e2).keep e3).keepM e4 (by intro h; (try dsimp only at h); omega)) (Nat.le_of_ble_eq_true rfl) ?_
  refine O.call Tryz.call21 (args2 rfl rfl) (same_spec (slv p1) (slv p2) (slv p3) cv14 _ vb1 vb2 vb3 b Fb _ ((hxv14.keep e3).keepM e4 (by intro k hk h; first | (have q1 := hF k hk; (try dsimp only at h); omega) | (have q1 := hF2 k hk; (try dsimp only at h); omega) | (have q1 := hFb k hk; (try dsimp only at h); omega) | ((try dsimp only at hk); (try dsimp only at h); omega))) ((hyv14.keep e3).keepM e4 (by intro k hk h; first | (have q1 := hF k hk; (try dsimp only at h); omega) | (have q1 := hF2 k hk; (try dsimp only at h); omega) | (have q1 := hFb k hk; (try dsimp only at h); omega) | ((try dsimp only at hk); (try dsimp only at h); omega))) ((hzv14.keep e3).keepM e4 (by intro k hk h; first | (have q1 := hF k hk; (try dsimp only at h); omega) | (have q1 := hF2 k hk; (try dsimp only at h); omega) | (have q1 := hFb k hk; (try dsimp only at h); omega) | ((try dsimp only at hk); (try dsimp only at h); omega))) (hbv.keep (Ext.new (Ext.trans (Ext.trans e1 e2) e3) e4 (by rintro i hi rfl; omega))) (hbc.keep (Ext.new (Ext.trans (Ext.trans e1 e2) e3) e4 (by rintro i hi rfl; omega))) (hbi.keep (Ext.new (Ext.trans (Ext.trans e1 e2) e3) e4 (by rintro i hi rfl; omega))) (fun j hj => by have q1 := hj.2; omega) (fun j hj => by have q1 := hFb j hj; omega)) ?_
  rintro v_20 w5 ⟨rfl, e5⟩
  have z5 := e5.size
  refine O.cast (v' := .bool true) (congrArg Value.bool (by exact decide_eq_true hcb)) ?_
  refine O.mv ?_
  refine O.yes rfl rfl ?_
  refine O.mv ?_
  refine O.yes rfl rfl ?_
  refine O.mv ?_
  refine O.yes rfl rfl ?_
  refine O.eqlI rfl rfl ?_
  refine O.cast (v' := .bool true) (congrArg Value.bool (by exact decide_eq_true (by rw [hkb]))) ?_
  refine O.pickT rfl ?_
  refine O.mv ?_
  refine O.yes rfl rfl ?_
  refine O.mv ?_
  refine O.yes rfl rfl ?_
  refine O.mv ?_
  refine O.yes rfl rfl ?_
  refine O.eqlI rfl rfl ?_
  refine O.cast (v' := .bool true) (congrArg Value.bool (by exact decide_eq_true he0)) ?_
  refine O.pickT rfl ?_
  refine O.asg ?_
  refine O.nil ?_
  refine hK3 _ _ ?_
  refine C.ret ?_
  refine Outs.one rfl rfl ?_
  exact ⟨rfl, (Ext.trans (Ext.new (Ext.trans (Ext.trans e1 e2) e3) e4 (by rintro i hi rfl; omega)) e5)⟩

set_option maxHeartbeats 1000000 in
theorem wseen_spec (v0 : Value) (l : List UInt8) (F : Nat → Prop) (vb1 vb2 : Value) (x : Cn.Ctx) (Fb : Nat → Prop) (e : Int) (w : World) (hl : Sl byteE w F v0 l) (hL : l.length ≤ 1000000) (hF : ∀ j, F j → j < w.heap.size) (mx : Mx w) (hbv : Sl Dt.dotF.enc w Fb vb1 x.1) (hbc : Sl Dt.dotF.enc w Fb vb2 x.2) (hFb : ∀ k, Fb k → k < w.heap.size) (hr : Cn.CtxRes l x e) :
    Ret Tryz.prog 53 #[v0, .agg #[vb1, vb2], .int .i64 (e)] w (fun v w' => v = .bool true ∧ Le w w') := by
  have hll := hl.le
  have hgl := mx.lt
  obtain ⟨r1, hr1⟩ := hbv.slv
  obtain ⟨r2, hr2⟩ := hbc.slv
  refine enter (args := [v0, .agg #[vb1, vb2], .int .i64 (e)]) (n := 24) Tryz.func53 rfl rfl (Nat.le_of_ble_eq_true rfl) ?_
  refine C.seqK fun K1 hK1 => ?_
  refine C.region ?_
  refine O.box (v := .agg #[vb1, vb2]) rfl (fun b4 w1 hb4 hz4 e1 => ?_)
  have z1 := e1.size
  have h4 := hz4.own
  have hl4 := h4.lt
  refine O.asg ?_
  refine O.nil ?_
  refine hK1 _ _ ?_
  refine C.seqK fun K2 hK2 => ?_
  refine C.region ?_
  refine O.mv ?_
  refine O.call Tryz.call77 (args1 rfl) (dcontext_spec v0 l F _ (hl.keep e1) hL (fun j hj => by have q1 := hF j hj; omega) (mx.keep e1)) ?_
  rintro v_11 w2 ⟨vav11, vbv11, xv11, env11, rfl, hxv11, hyv11, hnv11, hpv11, e2⟩
  have z2 := e2.size
  obtain ⟨p1, rfl⟩ := hxv11.slv
  obtain ⟨p2, rfl⟩ := hyv11.slv
  obtain ⟨hcb, he0⟩ := hpv11.uniq hr
  refine O.mv ?_
  refine O.extract rfl rfl ?_
  refine O.extract rfl rfl ?_
  refine O.alloc Tryz.zeroValue25 (fun b7 w3 hb7 hz7 e3 => ?_)
  have z3 := e3.size
  have h7 := hz7.own
  have hl7 := h7.lt
  refine O.storeA (vs := [slv p1, slv p2]) Tryz.sizeOf25 rfl rfl rfl (by simp [slv, Value.oneCell']) h7 (Nat.le_of_ble_eq_true rfl) (fun w4 hs4 e4 z4 => ?_)
  refine O.asg ?_
  refine O.nil ?_
  refine hK2 _ _ ?_
  refine C.seqK fun K3 hK3 => ?_
  refine C.region ?_
  refine O.loadOA Tryz.isAgg25 Tryz.sizeOf25 rfl hs4 (Nat.le_of_ble_eq_true rfl) ?_
  refine O.build (cells := #[slv p1, slv p2, .slice none 0 0]) rfl (by kernel_rfl) ?_
  refine O.loadOA Tryz.isAgg25 Tryz.sizeOf25 rfl (((h4.keep e2).keep e3).keepM e4 (by intro h; (try dsimp only at h); omega)) (Nat.le_of_ble_eq_true rfl) ?_
  refine O.cast (v' := .agg #[slv r1, slv r2]) (by rw [← hr1, ← hr2]; rfl) ?_
  refine O.build (cells := #[slv r1, slv r2, .slice none 0 0]) rfl (by kernel_rfl) ?_
  refine O.call Tryz.call21 (args2 rfl rfl) (same_spec (slv p1) (slv p2) (.slice none 0 0) (xv11, []) _ (slv r1) (slv r2) (.slice none 0 0) (x, []) Fb _ ((hxv11.keep e3).keepM e4 (by intro k hk h; first | (have q1 := hF k hk; (try dsimp only at h); omega) | (have q1 := hF2 k hk; (try dsimp only at h); omega) | (have q1 := hFb k hk; (try dsimp only at h); omega) | ((try dsimp only at hk); (try dsimp only at h); omega))) ((hyv11.keep e3).keepM e4 (by intro k hk h; first | (have q1 := hF k hk; (try dsimp only at h); omega) | (have q1 := hF2 k hk; (try dsimp only at h); omega) | (have q1 := hFb k hk; (try dsimp only at h); omega) | ((try dsimp only at hk); (try dsimp only at h); omega))) (Sl.nil _ _ _) (hr1 ▸ (hbv.keep (Ext.new (Ext.trans (Ext.trans e1 e2) e3) e4 (by rintro i hi rfl; omega)))) (hr2 ▸ (hbc.keep (Ext.new (Ext.trans (Ext.trans e1 e2) e3) e4 (by rintro i hi rfl; omega)))) (Sl.nil _ _ _) (fun j hj => by have q1 := hj.2; omega) (fun j hj => by have q1 := hFb j hj; omega)) ?_
  rintro v_18 w5 ⟨rfl, e5⟩
  have z5 := e5.size
  refine O.cast (v' := .bool true) (congrArg Value.bool (by exact decide_eq_true (by rw [hcb]))) ?_
  refine O.mv ?_
  refine O.yes rfl rfl ?_
  refine O.mv ?_
  refine O.yes rfl rfl ?_
  refine O.mv ?_
  refine O.yes rfl rfl ?_
  refine O.eqlI rfl rfl ?_
  refine O.cast (v' := .bool true) (congrArg Value.bool (by exact decide_eq_true he0)) ?_
  refine O.pickT rfl ?_
  refine O.asg ?_
  refine O.nil ?_
  refine hK3 _ _ ?_
  refine C.ret ?_
  refine Outs.one rfl rfl ?_
  exact ⟨rfl, (Ext.trans (Ext.new (Ext.trans (Ext.trans e1 e2) e3) e4 (by rintro i hi rfl; omega)) e5)⟩

set_option maxHeartbeats 2000000 in
theorem dcount_spec (v0 : Value) (l : List UInt8) (F : Nat → Prop) (w : World) (hl : Sl byteE w F v0 l) (hL : l.length ≤ 1000000) (hF : ∀ j, F j → j < w.heap.size) (mx : Mx w) :
    Ret Tryz.prog 57 #[v0] w (fun v w' => ∃ (n : Nat) (e : Int), v = .tuple #[.int .i64 (n : Int), .int .i64 e] ∧ Cn.CountRes l n e ∧ Le w w') := by
  have hll := hl.le
  have hgl := mx.lt
  refine enter (args := [v0]) (n := 33) Tryz.func57 rfl rfl (Nat.le_of_ble_eq_true rfl) ?_
  refine C.seqK fun K1 hK1 => ?_
  refine C.region ?_
  refine O.asg ?_
  refine O.asg ?_
  refine O.nil ?_
  refine hK1 _ _ ?_
  refine C.seqK fun K2 hK2 => ?_
  refine C.region ?_
  refine O.asg ?_
  refine O.nil ?_
  refine hK2 _ _ ?_
  refine C.seqK fun K3 hK3 => ?_
  refine C.block fun K4 hK4 => ?_
  refine C.loop0 (σ := List Cn.Cart × Value × Nat) (fun f0 w0 ⟨cs, pv, k⟩ f wz => f 0 = pv ∧ f 4 = .int .i64 ((cs.length : Int)) ∧ Le w wz ∧ Sl byteE wz F pv (l.drop k) ∧ k ≤ l.length ∧ Cn.manyQ Cn.val cs ∧ Cn.Seg (cs.flatMap Cn.bytes) l 0 k) (fun ⟨cs, pv, k⟩ => l.length - k) ([], v0, 0) ?_ ?_
  ·
    refine ⟨rfl, rfl, (Le.refl _), hl, ?_⟩
    exact ⟨Nat.zero_le _, Cn.manyQ_nil, Cn.Seg.nil (Nat.zero_le _)⟩
  ·
    rintro ⟨cs, pv, k⟩ f_1 w1 ⟨s0_1, s4_1, e_1, r0_1, ⟨hk, hQ, hS⟩⟩
    have z_1 := e_1.size
    have hcl := Cn.len_flat (f := Cn.bytes) (fun c => by have := Cn.bytes_len c; omega) cs
    have hcl2 := hS.2.1
    have hcl3 := hS.2.2
    refine C.seqK fun K5 hK5 => ?_
    refine C.seqK fun K6 hK6 => ?_
    refine C.region ?_
    refine O.mv ?_
    refine O.len Tryz.underlying32 s0_1 r0_1 ?_
    refine O.gtrI rfl rfl ?_
    refine O.nil ?_
    refine hK6 _ _ ?_
    refine C.condD rfl (fun c12 => ?_) (fun c12 => ?_)
    ·
      have hk2 : k < l.length := by rw [List.length_drop] at c12; omega
      refine C.skip ?_
      refine hK5 _ _ ?_
      refine C.block fun K7 hK7 => ?_
      refine C.seqK fun K8 hK8 => ?_
      refine C.region ?_
      refine O.mv ?_
      refine O.call Tryz.call58 (args1 s0_1) (prefix_spec pv (l.drop k) F _ r0_1 (by rw [List.length_drop]; omega) (fun j hj => by have q1 := hF j hj; omega) (mx.keep e_1)) ?_
      rintro v_15 w2 ⟨vav15, vbv15, vcv15, cv15, knv15, env15, rfl, hxv15, hyv15, hzv15, hgv15, hpv15, e2⟩
      have z2 := e2.size
      replace hxv15 := hxv15.sl
      replace hyv15 := hyv15.sl
      replace hzv15 := hzv15.sl
      obtain ⟨p1, rfl⟩ := hxv15.slv
      obtain ⟨p2, rfl⟩ := hyv15.slv
      obtain ⟨p3, rfl⟩ := hzv15.slv
      obtain ⟨hg1, hg2, hg3, hg4⟩ := hgv15
      refine O.mv ?_
      refine O.extract rfl rfl ?_
      refine O.extract rfl rfl ?_
      refine O.extract rfl rfl ?_
      refine O.alloc Tryz.zeroValue28 (fun b5 w3 hb5 hz5 e3 => ?_)
      have z3 := e3.size
      have h5 := hz5.own
      have hl5 := h5.lt
      refine O.storeA (vs := [slv p1, slv p2, slv p3]) Tryz.sizeOf28 rfl rfl rfl (by simp [slv, Value.oneCell']) h5 (Nat.le_of_ble_eq_true rfl) (fun w4 hs4 e4 z4 => ?_)
      refine O.asg ?_
      refine O.asg ?_
      refine O.nil ?_
      refine hK8 _ _ ?_
      refine C.seqK fun K9 hK9 => ?_
      refine C.seqK fun K10 hK10 => ?_
      refine C.region ?_
      refine O.mv ?_
      refine O.neqI rfl rfl ?_
      refine O.nil ?_
      refine hK10 _ _ ?_
      refine C.condD rfl (fun c20 => ?_) (fun c20 => ?_)
      ·
        refine C.seqK fun K11 hK11 => ?_
        refine C.region ?_
        refine O.mv ?_
        refine O.asg ?_
        refine O.asg ?_
        refine O.nil ?_
        refine hK11 _ _ ?_
        refine C.ret ?_
        refine Outs.two rfl rfl rfl ?_
        first
        | exact ⟨cs.length, 0, rfl, Cn.count_yes hS hQ (by rw [List.length_drop] at c12; omega), (Ext.new (Ext.trans (Ext.trans e_1 e2) e3) e4 (by rintro i hi rfl; omega))⟩
        | (rcases hpv15 with ⟨q1, _⟩ | ⟨q1, q2, q3, q4⟩
           · exact absurd q1 c20
           · exact ⟨0, env15, rfl, by rw [q1]; exact Cn.count_no hS hQ hk2 q4, (Ext.new (Ext.trans (Ext.trans e_1 e2) e3) e4 (by rintro i hi rfl; omega))⟩)
      ·
        obtain ⟨hva, hsg⟩ : Cn.valid cv15 = true ∧ Cn.Seg (Cn.bytes cv15) (l.drop k) 0 knv15 := by
          rcases hpv15 with ⟨_, q1, q2⟩ | ⟨q1, _⟩
          · exact ⟨q1, q2⟩
          · exfalso; omega
        have hst := Cn.count_step hS hsg
        have hsg2 := hsg.2.2
        refine C.skip ?_
        refine hK9 _ _ ?_
        refine C.seqK fun K12 hK12 => ?_
        refine C.region ?_
        refine O.loadOA Tryz.isAgg28 Tryz.sizeOf28 rfl hs4 (Nat.le_of_ble_eq_true rfl) ?_
        refine O.call Tryz.call24 (args1 rfl) (size_spec (slv p1) (slv p2) (slv p3) cv15 _ _ ((hxv15.keep e3).keepM e4 (by intro k hk h; first | (have q1 := hF k hk; (try dsimp only at h); omega) | (have q1 := hF2 k hk; (try dsimp only at h); omega) | (have q1 := hFb k hk; (try dsimp only at h); omega) | ((try dsimp only at hk); (try dsimp only at h); omega))) ((hyv15.keep e3).keepM e4 (by intro k hk h; first | (have q1 := hF k hk; (try dsimp only at h); omega) | (have q1 := hF2 k hk; (try dsimp only at h); omega) | (have q1 := hFb k hk; (try dsimp only at h); omega) | ((try dsimp only at hk); (try dsimp only at h); omega))) ((hzv15.keep e3).keepM e4 (by intro k hk h; first | (have q1 := hF k hk; (try dsimp only at h); omega) | (have q1 := hF2 k hk; (try dsimp only at h); omega) | (have q1 := hFb k hk; (try dsimp only at h); omega) | ((try dsimp only at hk); (try dsimp only at h); omega))) (fun j hj => by have q1 := hj.2; omega) hg3 hg4 hg1 hg2 (mx.keep (Ext.new (Ext.trans (Ext.trans e_1 e2) e3) e4 (by rintro i hi rfl; omega)))) ?_
        rintro v_24 w5 ⟨rfl, e5⟩
        have z5 := e5.size
        refine O.mv ?_
        refine O.extract rfl rfl ?_
        refine O.cast (v' := .int .i64 (knv15 : Int)) (congrArg (Value.int .i64) (by rw [hva, if_pos rfl, hsg.2.1, Nat.zero_add])) ?_
        refine O.extract rfl rfl ?_
        refine O.asg ?_
        refine O.asg ?_
        refine O.nil ?_
        refine hK12 _ _ ?_
        refine C.draw (by kernel_rfl) fun w6 e6 => ?_
        have z6 := e6.size
        refine D.take (i := 0) rfl rfl rfl rfl (by kernel_rfl) (Le.refl _) ⟨pure _, rfl⟩ (fun w_ hw_ N_ hN => (O.mv (O.nil hN))) ?_
        refine D.take (i := 1) rfl rfl rfl rfl (by kernel_rfl) (Le.refl _) ⟨_, rfl⟩ (fun w_ hw_ N_ hN => (O.addI s4_1 rfl (by unfold InI; omega) (O.nil hN))) ?_
        refine D.take (i := 2) rfl rfl rfl rfl (by kernel_rfl) (Le.refl _) ⟨pure _, rfl⟩ (fun w_ hw_ N_ hN => (O.mv (O.nil hN))) ?_
        refine D.take (i := 3) rfl rfl rfl rfl (by kernel_rfl) (Le.refl _) ⟨pure _, rfl⟩ (fun w_ hw_ N_ hN => (O.mv (O.nil hN))) ?_
        have hb31 := Sl.sub (P := Tryz.prog) (knv15) ((l.drop k).length) Tryz.underlying32 Tryz.sizeOf5 (by rfl) (((((r0_1.keep e2).keep e3).keepM e4 (by intro k hk h; first | (have q1 := hF k hk; (try dsimp only at h); omega) | (have q1 := hF2 k hk; (try dsimp only at h); omega) | (have q1 := hFb k hk; (try dsimp only at h); omega) | ((try dsimp only at hk); (try dsimp only at h); omega))).keep e5).keep e6) (by omega) (Nat.le_refl _)
        obtain ⟨v31, hs31, hr31⟩ := hb31
        refine D.take (i := 4) rfl rfl rfl rfl (by kernel_rfl) (Le.refl _) ⟨_, rfl⟩ (fun w_ hw_ N_ hN => (O.subR s0_1 hr31 (.inr ⟨_, _, rfl, rfl⟩) (.inl ⟨rfl, rfl⟩) (O.nil hN))) ?_
        refine D.take (i := 5) rfl rfl rfl rfl (by kernel_rfl) (Le.refl _) ⟨pure _, rfl⟩ (fun w_ hw_ N_ hN => (O.asg (O.nil hN))) ?_
        refine D.take (i := 6) rfl rfl rfl rfl (by kernel_rfl) (Le.refl _) ⟨pure _, rfl⟩ (fun w_ hw_ N_ hN => (O.asg (O.nil hN))) ?_
        refine D.done (by kernel_rfl) ?_
        refine hK7 _ _ ?_
        refine ⟨(cs ++ [cv15], v31, k + knv15), ⟨rfl, (Eq.trans rfl (congrArg (Value.int .i64) (by rw [List.length_append]; simp))), (Ext.trans (Ext.trans (Ext.new (Ext.trans (Ext.trans e_1 e2) e3) e4 (by rintro i hi rfl; omega)) e5) e6), (by have q := hs31; rw [List.take_length, List.drop_drop] at q; exact q), ?_⟩, by show l.length - (k + knv15) < l.length - k; have := hst.2; omega⟩
        exact ⟨hst.1.2.2, Cn.manyQ_snoc hQ hva, hst.1⟩
    ·
      refine C.exit ?_
      refine hK4 _ _ ?_
      refine hK3 _ _ ?_
      refine C.seqK fun K13 hK13 => ?_
      refine C.region ?_
      refine O.mv ?_
      refine O.asg ?_
      refine O.asg ?_
      refine O.nil ?_
      refine hK13 _ _ ?_
      refine C.ret ?_
      refine Outs.two rfl s4_1 rfl ?_
      first
      | exact ⟨cs.length, 0, rfl, Cn.count_yes hS hQ (by rw [List.length_drop] at c12; omega), e_1⟩
      | (rcases hpv15 with ⟨q1, _⟩ | ⟨q1, q2, q3, q4⟩
         · exact absurd q1 c20
         · exact ⟨0, env15, rfl, by rw [q1]; exact Cn.count_no hS hQ hk2 q4, e_1⟩)

theorem counts_spec (v0 : Value) (l : List UInt8) (F : Nat → Prop) (n : Nat) (e : Int) (w : World) (hl : Sl byteE w F v0 l) (hL : l.length ≤ 1000000) (hF : ∀ j, F j → j < w.heap.size) (mx : Mx w) (hr : Cn.CountRes l n e) :
    Ret Tryz.prog 32 #[v0, .int .i64 ((n : Int)), .int .i64 (e)] w (fun v w' => v = .bool true ∧ Le w w') := by
  refine enter (args := [v0, .int .i64 ((n : Int)), .int .i64 (e)]) (n := 22) Tryz.func32 rfl rfl (Nat.le_of_ble_eq_true rfl) ?_
  refine C.seqK fun K1 hK1 => ?_
  refine C.region ?_
  refine O.asg ?_
  refine O.nil ?_
  refine hK1 _ _ ?_
  refine C.seqK fun K2 hK2 => ?_
  refine C.region ?_
  refine O.mv ?_
  refine O.call Tryz.call57 (args1 rfl) (dcount_spec v0 l F _ hl hL hF mx) ?_
  rintro v_11 w1 ⟨nv11, env11, rfl, hpv11, e1⟩
  have z1 := e1.size
  obtain ⟨hkb, he0⟩ := hpv11.uniq hr
  refine O.mv ?_
  refine O.extract rfl rfl ?_
  refine O.extract rfl rfl ?_
  refine O.asg ?_
  refine O.asg ?_
  refine O.nil ?_
  refine hK2 _ _ ?_
  refine C.seqK fun K3 hK3 => ?_
  refine C.region ?_
  refine O.mv ?_
  refine O.mv ?_
  refine O.eqlI rfl rfl ?_
  refine O.cast (v' := .bool true) (congrArg Value.bool (by exact decide_eq_true (by rw [hkb]))) ?_
  refine O.mv ?_
  refine O.yes rfl rfl ?_
  refine O.mv ?_
  refine O.yes rfl rfl ?_
  refine O.mv ?_
  refine O.yes rfl rfl ?_
  refine O.eqlI rfl rfl ?_
  refine O.cast (v' := .bool true) (congrArg Value.bool (by exact decide_eq_true he0)) ?_
  refine O.pickT rfl ?_
  refine O.asg ?_
  refine O.nil ?_
  refine hK3 _ _ ?_
  refine C.ret ?_
  refine Outs.one rfl rfl ?_
  exact ⟨rfl, e1⟩

end Go.Proofs.YtnkcmaoaagnopaaGreatDoor
end
section
/-
  The walk of the chapter's examples. Conditions: slices as they lie in memory.
-/
namespace Go.Proofs.YtnkcmaoaagnopaaGreatDoor
open Go.Pn Go.RowKit Go.Proofs
attribute [local irreducible] O C D

set_option maxHeartbeats 16000000 in
theorem wknown_spec (w : World) (mx : Mx w) :
    Ret Tryz.prog 29 #[] w (fun v w' => v = .bool true ∧ Le w w') := by
  obtain ⟨ie51, ti51, ts51, tb51, tz51⟩ := inf51
  obtain ⟨ie53, ti53, ts53, tb53, tz53⟩ := inf53
  obtain ⟨ie56, ti56, ts56, tb56, tz56⟩ := inf56
  obtain ⟨ie5, ti5, ts5, tb5, tz5⟩ := inf5
  obtain ⟨ie32, ti32, ts32, tb32, tz32⟩ := inf32
  refine enter (args := []) (n := 70) Tryz.func29 rfl rfl (Nat.le_of_ble_eq_true rfl) ?_
  refine C.seqK fun K1 hK1 => ?_
  refine C.region ?_
  refine O.asg ?_
  refine O.nil ?_
  refine hK1 _ _ ?_
  refine C.seqK fun K2 hK2 => ?_
  refine C.region ?_
  refine O.build (cells := #[.int .i64 2, .int .i64 3]) rfl (by kernel_rfl) ?_
  refine O.litG (G := Dt.dotF) [(2, 3)] Tryz.underlying23 ti51 ts51 tz51 rfl (by decide) (by decide) rfl (fun b5 w1 hb5 hz5 e1 => ?_)
  have z1 := e1.size
  have h5 := hz5.own
  have hq5 := Sl.litG (n := 1) h5 rfl (by unfold maxLen; omega)
  have hl5 := h5.lt
  refine O.build (cells := #[.int .i64 5, .int .i64 9]) rfl (by kernel_rfl) ?_
  refine O.litG (G := Dt.dotF) [(5, 9)] Tryz.underlying22 ti51 ts51 tz51 rfl (by decide) (by decide) rfl (fun b7 w2 hb7 hz7 e2 => ?_)
  have z2 := e2.size
  have h7 := hz7.own
  have hq7 := Sl.litG (n := 1) h7 rfl (by unfold maxLen; omega)
  have hl7 := h7.lt
  refine O.build (cells := #[.slice (some ⟨b5, 0, none⟩) 1 1, .slice (some ⟨b7, 0, none⟩) 1 1]) rfl (by kernel_rfl) ?_
  refine O.build (cells := #[.int .i64 2, .int .i64 3]) rfl (by kernel_rfl) ?_
  refine O.build (cells := #[.int .i64 2, .int .i64 3, .int .i64 200, .int .u64 1]) rfl (by kernel_rfl) ?_
  refine O.litG (G := markF) [((2, 3), 200, 1#64)] Tryz.underlying54 ti53 ts53 tz53 rfl (by decide) (by decide) rfl (fun b11 w3 hb11 hz11 e3 => ?_)
  have z3 := e3.size
  have h11 := hz11.own
  have hq11 := Sl.litG (n := 1) h11 rfl (by unfold maxLen; omega)
  have hl11 := h11.lt
  refine O.build (cells := #[str [116, 101, 97], .slice (some ⟨b11, 0, none⟩) 1 1]) rfl (by kernel_rfl) ?_
  refine O.litG (G := itemF) [([116, 101, 97], (some ⟨b11, 0, none⟩, 1, 1))] Tryz.underlying26 ti56 ts56 tz56 rfl (by decide) (by decide) rfl (fun b13 w4 hb13 hz13 e4 => ?_)
  have z4 := e4.size
  have h13 := hz13.own
  have hq13 := Sl.litG (n := 1) h13 rfl (by unfold maxLen; omega)
  have hl13 := h13.lt
  refine O.build (cells := #[.slice (some ⟨b5, 0, none⟩) 1 1, .slice (some ⟨b7, 0, none⟩) 1 1, .slice (some ⟨b13, 0, none⟩) 1 1]) rfl (by kernel_rfl) ?_
  refine O.alloc Tryz.zeroValue28 (fun b1 w5 hb1 hz1 e5 => ?_)
  have z5 := e5.size
  have h1 := hz1.own
  have hl1 := h1.lt
  refine O.storeA (vs := [.slice (some ⟨b5, 0, none⟩) 1 1, .slice (some ⟨b7, 0, none⟩) 1 1, .slice (some ⟨b13, 0, none⟩) 1 1]) Tryz.sizeOf28 rfl rfl rfl (ones3c rfl rfl rfl) h1 (Nat.le_of_ble_eq_true rfl) (fun w6 hs6 e6 z6 => ?_)
  have l5 := (((((h5.keep e2).keep e3).keep e4).keep e5).keepM e6 (by intro h; (try dsimp only at h); omega)).lt
  have l7 := ((((h7.keep e3).keep e4).keep e5).keepM e6 (by intro h; (try dsimp only at h); omega)).lt
  have l11 := (((h11.keep e4).keep e5).keepM e6 (by intro h; (try dsimp only at h); omega)).lt
  have l13 := ((h13.keep e5).keepM e6 (by intro h; (try dsimp only at h); omega)).lt
  obtain ⟨wk, hwk⟩ : ∃ x, x = w6 := ⟨_, rfl⟩
  have hzk : wk.heap.size = w6.heap.size := by rw [hwk]
  have he1 : Sl Dt.dotF.enc w6 (fun j => j < wk.heap.size) (.slice (some ⟨b5, 0, none⟩) 1 1) Cn.exam.1.1 := ((((((hq5.keep e2).keep e3).keep e4).keep e5).keepM e6 (by intro k hk h; (try dsimp only at hk); (try dsimp only at h); omega))).weak (by intro j hj; have hj : j = b5 := hj; show j < wk.heap.size; omega)
  have he2 : Sl Dt.dotF.enc w6 (fun j => j < wk.heap.size) (.slice (some ⟨b7, 0, none⟩) 1 1) Cn.exam.1.2 := (((((hq7.keep e3).keep e4).keep e5).keepM e6 (by intro k hk h; (try dsimp only at hk); (try dsimp only at h); omega))).weak (by intro j hj; have hj : j = b7 := hj; show j < wk.heap.size; omega)
  have he3 : Sl itemE w6 (fun j => j < wk.heap.size) (.slice (some ⟨b13, 0, none⟩) 1 1) Cn.exam.2 := Items.sl (Items.snoc Items.nil rfl (((((hq11.keep e4).keep e5).keepM e6 (by intro k hk h; (try dsimp only at hk); (try dsimp only at h); omega))).weak (by intro j hj; have hj : j = b11 := hj; show j < wk.heap.size; omega))) ((((hq13.keep e5).keepM e6 (by intro k hk h; (try dsimp only at hk); (try dsimp only at h); omega))).weak (by intro j hj; have hj : j = b13 := hj; show j < wk.heap.size; omega))
  refine O.nil ?_
  refine hK2 _ _ ?_
  refine C.seqK fun K3 hK3 => ?_
  refine C.seqK fun K4 hK4 => ?_
  refine C.region ?_
  refine O.litn [.int .u8 0, .int .u8 0, .int .u8 0] Tryz.underlying32 ti5 ts5 tz5 rfl (by decide) (by decide) rfl (by simp [Value.oneCell']) (fun b15 w7 hb15 hz15 e7 => ?_)
  have z7 := e7.size
  have h15 := hz15.own
  have hl15 := h15.lt
  have h15s : Sl byteE w7 (fun k => k = b15) (.slice (some ⟨b15, 0, none⟩) 3 3) [0, 0, 0] := Sl.of_own (G := byteF) h15 rfl (Nat.le_refl _) (by unfold maxLen; omega) (by simp [byteF])
  refine O.build (cells := #[.slice none 0 0, .slice none 0 0, .slice none 0 0]) rfl (by kernel_rfl) ?_
  refine O.call Tryz.call35 (args3 rfl rfl rfl) (isY_spec (.slice (some ⟨b15, 0, none⟩) 3 3) [0, 0, 0] _ (.slice none 0 0) (.slice none 0 0) (.slice none 0 0) Cn.nil0 (fun _ => False) _ h15s (by decide) (fun j hj => by have hj : j = b15 := hj; have := h15.lt; omega) (mx.keep (Ext.trans (Ext.new (Ext.trans (Ext.trans (Ext.trans (Ext.trans e1 e2) e3) e4) e5) e6 (by rintro i hi rfl; omega)) e7)) (Sl.nil _ _ _) (Sl.nil _ _ _) (Sl.nil _ _ _) (fun _ h => h.elim) Cn.is_nil0) ?_
  rintro v_17 w8 ⟨rfl, e8⟩
  have z8 := e8.size
  refine O.not rfl ?_
  refine O.cast (v' := .bool false) rfl ?_
  refine O.mv ?_
  refine O.yes rfl rfl ?_
  refine O.litn [.int .u8 1, .int .u8 2, .int .u8 3, .int .u8 1, .int .u8 5, .int .u8 9, .int .u8 1, .int .u8 3, .int .u8 116, .int .u8 101, .int .u8 97, .int .u8 1, .int .u8 2, .int .u8 3, .int .u8 200, .int .u8 1, .int .u8 1] Tryz.underlying32 ti5 ts5 tz5 rfl (by decide) (by decide) rfl (by simp [Value.oneCell']) (fun b20 w9 hb20 hz20 e9 => ?_)
  have z9 := e9.size
  have h20 := hz20.own
  have hl20 := h20.lt
  have h20s : Sl byteE w9 (fun k => k = b20) (.slice (some ⟨b20, 0, none⟩) 17 17) [1, 2, 3, 1, 5, 9, 1, 3, 116, 101, 97, 1, 2, 3, 200, 1, 1] := Sl.of_own (G := byteF) h20 rfl (Nat.le_refl _) (by unfold maxLen; omega) (by simp [byteF])
  refine O.yes rfl rfl ?_
  refine O.loadOA Tryz.isAgg28 Tryz.sizeOf28 rfl (((hs6.keep e7).keep e8).keep e9) (Nat.le_of_ble_eq_true rfl) ?_
  refine O.yes rfl rfl ?_
  refine O.call Tryz.call35 (args3 rfl rfl rfl) (isY_spec (.slice (some ⟨b20, 0, none⟩) 17 17) [1, 2, 3, 1, 5, 9, 1, 3, 116, 101, 97, 1, 2, 3, 200, 1, 1] _ (.slice (some ⟨b5, 0, none⟩) 1 1) (.slice (some ⟨b7, 0, none⟩) 1 1) (.slice (some ⟨b13, 0, none⟩) 1 1) Cn.exam (fun j => j < wk.heap.size) _ h20s (by decide) (fun j hj => by have hj : j = b20 := hj; have := h20.lt; omega) (mx.keep (Ext.trans (Ext.trans (Ext.trans (Ext.new (Ext.trans (Ext.trans (Ext.trans (Ext.trans e1 e2) e3) e4) e5) e6 (by rintro i hi rfl; omega)) e7) e8) e9)) (((he1.keep e7).keep e8).keep e9) (((he2.keep e7).keep e8).keep e9) (((he3.keep e7).keep e8).keep e9) (fun j hj => by have hj : j < wk.heap.size := hj; omega) Cn.is_exam) ?_
  rintro v_22 w10 ⟨rfl, e10⟩
  have z10 := e10.size
  refine O.yes rfl rfl ?_
  refine O.not rfl ?_
  refine O.cast (v' := .bool false) rfl ?_
  refine O.pickF rfl ?_
  refine O.nil ?_
  refine hK4 _ _ ?_
  refine C.condF rfl ?_
  refine C.skip ?_
  refine hK3 _ _ ?_
  refine C.seqK fun K5 hK5 => ?_
  refine C.seqK fun K6 hK6 => ?_
  refine C.region ?_
  refine O.litn [.int .u8 0, .int .u8 0] Tryz.underlying32 ti5 ts5 tz5 rfl (by decide) (by decide) rfl (by simp [Value.oneCell']) (fun b25 w11 hb25 hz25 e11 => ?_)
  have z11 := e11.size
  have h25 := hz25.own
  have hl25 := h25.lt
  have h25s : Sl byteE w11 (fun k => k = b25) (.slice (some ⟨b25, 0, none⟩) 2 2) [0, 0] := Sl.of_own (G := byteF) h25 rfl (Nat.le_refl _) (by unfold maxLen; omega) (by simp [byteF])
  refine O.litn [.int .u8 0, .int .u8 0, .int .u8 0, .int .u8 0] Tryz.underlying32 ti5 ts5 tz5 rfl (by decide) (by decide) rfl (by simp [Value.oneCell']) (fun b26 w12 hb26 hz26 e12 => ?_)
  have z12 := e12.size
  have h26 := hz26.own
  have hl26 := h26.lt
  have h26s : Sl byteE w12 (fun k => k = b26) (.slice (some ⟨b26, 0, none⟩) 4 4) [0, 0, 0, 0] := Sl.of_own (G := byteF) h26 rfl (Nat.le_refl _) (by unfold maxLen; omega) (by simp [byteF])
  refine O.litn [.int .u8 0, .int .u8 0, .int .u8 128, .int .u8 0] Tryz.underlying32 ti5 ts5 tz5 rfl (by decide) (by decide) rfl (by simp [Value.oneCell']) (fun b27 w13 hb27 hz27 e13 => ?_)
  have z13 := e13.size
  have h27 := hz27.own
  have hl27 := h27.lt
  have h27s : Sl byteE w13 (fun k => k = b27) (.slice (some ⟨b27, 0, none⟩) 4 4) [0, 0, 128, 0] := Sl.of_own (G := byteF) h27 rfl (Nat.le_refl _) (by unfold maxLen; omega) (by simp [byteF])
  refine O.litn [.int .u8 0, .int .u8 1, .int .u8 5, .int .u8 1, .int .u8 0] Tryz.underlying32 ti5 ts5 tz5 rfl (by decide) (by decide) rfl (by simp [Value.oneCell']) (fun b28 w14 hb28 hz28 e14 => ?_)
  have z14 := e14.size
  have h28 := hz28.own
  have hl28 := h28.lt
  have h28s : Sl byteE w14 (fun k => k = b28) (.slice (some ⟨b28, 0, none⟩) 5 5) [0, 1, 5, 1, 0] := Sl.of_own (G := byteF) h28 rfl (Nat.le_refl _) (by unfold maxLen; omega) (by simp [byteF])
  refine O.litn [.slice (some ⟨b25, 0, none⟩) 2 2, .slice (some ⟨b26, 0, none⟩) 4 4, .slice (some ⟨b27, 0, none⟩) 4 4, .slice none 0 0, .slice (some ⟨b28, 0, none⟩) 5 5] Tryz.underlying67 ti32 ts32 tz32 rfl (by decide) (by decide) rfl (by simp [Value.oneCell']) (fun b29 w15 hb29 hz29 e15 => ?_)
  have z15 := e15.size
  have h29 := hz29.own
  have hl29 := h29.lt
  have l25 := ((((h25.keep e12).keep e13).keep e14).keep e15).lt
  have l26 := (((h26.keep e13).keep e14).keep e15).lt
  have l27 := ((h27.keep e14).keep e15).lt
  have l28 := (h28.keep e15).lt
  have l29 := h29.lt
  obtain ⟨wb, hwb⟩ : ∃ x, x = w15 := ⟨_, rfl⟩
  have hzb : wb.heap.size = w15.heap.size := by rw [hwb]
  have hbads : Sl (sliE byteE) w15 (fun j => j = b29 ∨ j < wb.heap.size) (.slice (some ⟨b29, 0, none⟩) 5 5) Cn.bads := Sl.lits (F := fun j => j < wb.heap.size) h29 rfl (by decide) fun i h1 h2 => by
    match i, h1, h2 with
    | 0, _, _ => exact (((((h25s.keep e12).keep e13).keep e14).keep e15)).weak (by intro j hj; have hj : j = b25 := hj; show j < wb.heap.size; omega)
    | 1, _, _ => exact ((((h26s.keep e13).keep e14).keep e15)).weak (by intro j hj; have hj : j = b26 := hj; show j < wb.heap.size; omega)
    | 2, _, _ => exact (((h27s.keep e14).keep e15)).weak (by intro j hj; have hj : j = b27 := hj; show j < wb.heap.size; omega)
    | 3, _, _ => exact Sl.nil _ _ _
    | 4, _, _ => exact ((h28s.keep e15)).weak (by intro j hj; have hj : j = b28 := hj; show j < wb.heap.size; omega)
  refine O.len Tryz.underlying67 rfl hbads ?_
  refine O.mv ?_
  refine O.nil ?_
  refine hK6 _ _ ?_
  refine C.block fun K7 hK7 => ?_
  refine C.loop0 (σ := Nat) (fun f0 w0 i f w => f 31 = .int .i64 ((i : Int)) ∧ f 1 = f0 1 ∧ f 29 = f0 29 ∧ f 30 = f0 30 ∧ Le w0 w ∧ i ≤ 5) (fun i => 5 - i) 0 ?_ ?_
  ·
    refine ⟨rfl, rfl, rfl, rfl, Le.refl _, ?_⟩
    exact Nat.zero_le _
  ·
    rintro i f_1 w16 ⟨s31_1, s1_1, s29_1, s30_1, e_1, hi⟩
    have z_1 := e_1.size
    refine C.seqK fun K8 hK8 => ?_
    refine C.region ?_
    refine O.lssI s31_1 s30_1 ?_
    refine O.nil ?_
    refine hK8 _ _ ?_
    refine C.seqK fun K9 hK9 => ?_
    refine C.condD rfl (fun c32 => ?_) (fun c32 => ?_)
    ·
      have hi2 : i < Cn.bads.length := by omega
      have hi3 : Cn.bads.length = 5 := rfl
      have hlb29 := h29.lt
      refine C.skip ?_
      refine hK9 _ _ ?_
      refine C.seqK fun K10 hK10 => ?_
      refine C.block fun K11 hK11 => ?_
      refine C.seqK fun K12 hK12 => ?_
      refine C.region ?_
      refine O.idx Tryz.underlying67 Tryz.sizeOf32 rfl s29_1 (hbads.keep e_1) s31_1 (by omega) (fun a33 h33 => ?_)
      refine O.loadSl Tryz.isAgg32 rfl h33 (fun v34 h34 => ?_)
      refine O.asg ?_
      refine O.nil ?_
      refine hK12 _ _ ?_
      refine C.seqK fun K13 hK13 => ?_
      refine C.region ?_
      refine O.mv ?_
      refine O.build (cells := #[.slice none 0 0, .slice none 0 0, .slice none 0 0]) rfl (by kernel_rfl) ?_
      refine O.call Tryz.call35 (args3 rfl rfl rfl) (isN_spec v34 Cn.bads[i] _ (.slice none 0 0) (.slice none 0 0) (.slice none 0 0) Cn.nil0 (fun _ => False) _ h34 (Nat.le_trans (Cn.bads_len i hi2) (by decide)) (fun j hj => by have hj : j = b29 ∨ j < wb.heap.size := hj; omega) (mx.keep (Ext.trans (Ext.trans (Ext.trans (Ext.trans (Ext.trans (Ext.trans (Ext.trans (Ext.trans (Ext.trans (Ext.trans (Ext.new (Ext.trans (Ext.trans (Ext.trans (Ext.trans e1 e2) e3) e4) e5) e6 (by rintro i hi rfl; omega)) e7) e8) e9) e10) e11) e12) e13) e14) e15) e_1)) (Sl.nil _ _ _) (Sl.nil _ _ _) (Sl.nil _ _ _) (fun _ h => h.elim) (Cn.bads_no i hi2)) ?_
      rintro v_37 w17 ⟨rfl, e17⟩
      have z17 := e17.size
      refine O.not rfl ?_
      refine O.cast (v' := .bool false) rfl ?_
      refine O.nil ?_
      refine hK13 _ _ ?_
      refine C.condF rfl ?_
      refine C.skip ?_
      refine hK11 _ _ ?_
      refine hK10 _ _ ?_
      refine C.region ?_
      refine O.addI s31_1 rfl (by unfold InI; omega) ?_
      refine O.mv ?_
      refine O.nil ?_
      refine ⟨(i + 1), ⟨rfl, s1_1, s29_1, s30_1, (Ext.trans e_1 e17), ?_⟩, by first | omega | (simp only []; omega)⟩
      omega
    ·
      refine C.exit ?_
      refine hK7 _ _ ?_
      refine hK5 _ _ ?_
      refine C.seqK fun K14 hK14 => ?_
      refine C.region ?_
      refine O.litn [.int .u8 0, .int .u8 0, .int .u8 0, .int .u8 7, .int .u8 7] Tryz.underlying32 ti5 ts5 tz5 rfl (by decide) (by decide) rfl (by simp [Value.oneCell']) (fun b40 w18 hb40 hz40 e18 => ?_)
      have z18 := e18.size
      have h40 := hz40.own
      have hl40 := h40.lt
      have h40s : Sl byteE w18 (fun k => k = b40) (.slice (some ⟨b40, 0, none⟩) 5 5) [0, 0, 0, 7, 7] := Sl.of_own (G := byteF) h40 rfl (Nat.le_refl _) (by unfold maxLen; omega) (by simp [byteF])
      refine O.build (cells := #[.slice none 0 0, .slice none 0 0, .slice none 0 0]) rfl (by kernel_rfl) ?_
      refine O.call Tryz.call36 (args4 rfl rfl rfl rfl) (begins_spec (.slice (some ⟨b40, 0, none⟩) 5 5) [0, 0, 0, 7, 7] _ (.slice none 0 0) (.slice none 0 0) (.slice none 0 0) Cn.nil0 (fun _ => False) 3 0 _ h40s (by decide) (fun j hj => by have hj : j = b40 := hj; have := h40.lt; omega) (mx.keep (Ext.trans (Ext.trans (Ext.trans (Ext.trans (Ext.trans (Ext.trans (Ext.trans (Ext.trans (Ext.trans (Ext.trans (Ext.trans (Ext.new (Ext.trans (Ext.trans (Ext.trans (Ext.trans e1 e2) e3) e4) e5) e6 (by rintro i hi rfl; omega)) e7) e8) e9) e10) e11) e12) e13) e14) e15) e_1) e18)) (Sl.nil _ _ _) (Sl.nil _ _ _) (Sl.nil _ _ _) (fun _ h => h.elim) Cn.pref_front) ?_
      rintro v_42 w19 ⟨rfl, e19⟩
      have z19 := e19.size
      refine O.mv ?_
      refine O.yes rfl rfl ?_
      refine O.litn [.int .u8 7, .int .u8 7] Tryz.underlying32 ti5 ts5 tz5 rfl (by decide) (by decide) rfl (by simp [Value.oneCell']) (fun b44 w20 hb44 hz44 e20 => ?_)
      have z20 := e20.size
      have h44 := hz44.own
      have hl44 := h44.lt
      have h44s : Sl byteE w20 (fun k => k = b44) (.slice (some ⟨b44, 0, none⟩) 2 2) [7, 7] := Sl.of_own (G := byteF) h44 rfl (Nat.le_refl _) (by unfold maxLen; omega) (by simp [byteF])
      refine O.yes rfl rfl ?_
      refine O.build (cells := #[.slice none 0 0, .slice none 0 0, .slice none 0 0]) rfl (by kernel_rfl) ?_
      refine O.yes rfl rfl ?_
      refine O.call Tryz.call36 (args4 rfl rfl rfl rfl) (begins_spec (.slice (some ⟨b44, 0, none⟩) 2 2) [7, 7] _ (.slice none 0 0) (.slice none 0 0) (.slice none 0 0) Cn.nil0 (fun _ => False) 0 12 _ h44s (by decide) (fun j hj => by have hj : j = b44 := hj; have := h44.lt; omega) (mx.keep (Ext.trans (Ext.trans (Ext.trans (Ext.trans (Ext.trans (Ext.trans (Ext.trans (Ext.trans (Ext.trans (Ext.trans (Ext.trans (Ext.trans (Ext.trans (Ext.new (Ext.trans (Ext.trans (Ext.trans (Ext.trans e1 e2) e3) e4) e5) e6 (by rintro i hi rfl; omega)) e7) e8) e9) e10) e11) e12) e13) e14) e15) e_1) e18) e19) e20)) (Sl.nil _ _ _) (Sl.nil _ _ _) (Sl.nil _ _ _) (fun _ h => h.elim) (Cn.pref_short (by decide))) ?_
      rintro v_46 w21 ⟨rfl, e21⟩
      have z21 := e21.size
      refine O.pickT rfl ?_
      refine O.mv ?_
      refine O.yes rfl rfl ?_
      refine O.litn [.int .u8 0, .int .u8 0, .int .u8 0, .int .u8 1, .int .u8 2, .int .u8 3, .int .u8 0, .int .u8 0] Tryz.underlying32 ti5 ts5 tz5 rfl (by decide) (by decide) rfl (by simp [Value.oneCell']) (fun b49 w22 hb49 hz49 e22 => ?_)
      have z22 := e22.size
      have h49 := hz49.own
      have hl49 := h49.lt
      have h49s : Sl byteE w22 (fun k => k = b49) (.slice (some ⟨b49, 0, none⟩) 8 8) [0, 0, 0, 1, 2, 3, 0, 0] := Sl.of_own (G := byteF) h49 rfl (Nat.le_refl _) (by unfold maxLen; omega) (by simp [byteF])
      refine O.yes rfl rfl ?_
      refine O.call Tryz.call32 (args3 rfl rfl rfl) (counts_spec (.slice (some ⟨b49, 0, none⟩) 8 8) [0, 0, 0, 1, 2, 3, 0, 0] _ 2 0 _ h49s (by decide) (fun j hj => by have hj : j = b49 := hj; have := h49.lt; omega) (mx.keep (Ext.trans (Ext.trans (Ext.trans (Ext.trans (Ext.trans (Ext.trans (Ext.trans (Ext.trans (Ext.trans (Ext.trans (Ext.trans (Ext.trans (Ext.trans (Ext.trans (Ext.trans (Ext.new (Ext.trans (Ext.trans (Ext.trans (Ext.trans e1 e2) e3) e4) e5) e6 (by rintro i hi rfl; omega)) e7) e8) e9) e10) e11) e12) e13) e14) e15) e_1) e18) e19) e20) e21) e22)) Cn.count_two) ?_
      rintro v_50 w23 ⟨rfl, e23⟩
      have z23 := e23.size
      refine O.pickT rfl ?_
      refine O.mv ?_
      refine O.yes rfl rfl ?_
      refine O.call Tryz.call32 (args3 rfl rfl rfl) (counts_spec (.slice none 0 0) [] (fun _ => False) 0 0 _ (Sl.nil _ _ _) (by decide) (fun _ h => h.elim) (mx.keep (Ext.trans (Ext.trans (Ext.trans (Ext.trans (Ext.trans (Ext.trans (Ext.trans (Ext.trans (Ext.trans (Ext.trans (Ext.trans (Ext.trans (Ext.trans (Ext.trans (Ext.trans (Ext.trans (Ext.new (Ext.trans (Ext.trans (Ext.trans (Ext.trans e1 e2) e3) e4) e5) e6 (by rintro i hi rfl; omega)) e7) e8) e9) e10) e11) e12) e13) e14) e15) e_1) e18) e19) e20) e21) e22) e23)) Cn.count_nil) ?_
      rintro v_53 w24 ⟨rfl, e24⟩
      have z24 := e24.size
      refine O.pickT rfl ?_
      refine O.mv ?_
      refine O.yes rfl rfl ?_
      refine O.litn [.int .u8 0, .int .u8 0, .int .u8 0, .int .u8 0] Tryz.underlying32 ti5 ts5 tz5 rfl (by decide) (by decide) rfl (by simp [Value.oneCell']) (fun b56 w25 hb56 hz56 e25 => ?_)
      have z25 := e25.size
      have h56 := hz56.own
      have hl56 := h56.lt
      have h56s : Sl byteE w25 (fun k => k = b56) (.slice (some ⟨b56, 0, none⟩) 4 4) [0, 0, 0, 0] := Sl.of_own (G := byteF) h56 rfl (Nat.le_refl _) (by unfold maxLen; omega) (by simp [byteF])
      refine O.yes rfl rfl ?_
      refine O.call Tryz.call32 (args3 rfl rfl rfl) (counts_spec (.slice (some ⟨b56, 0, none⟩) 4 4) [0, 0, 0, 0] _ 0 12 _ h56s (by decide) (fun j hj => by have hj : j = b56 := hj; have := h56.lt; omega) (mx.keep (Ext.trans (Ext.trans (Ext.trans (Ext.trans (Ext.trans (Ext.trans (Ext.trans (Ext.trans (Ext.trans (Ext.trans (Ext.trans (Ext.trans (Ext.trans (Ext.trans (Ext.trans (Ext.trans (Ext.trans (Ext.trans (Ext.new (Ext.trans (Ext.trans (Ext.trans (Ext.trans e1 e2) e3) e4) e5) e6 (by rintro i hi rfl; omega)) e7) e8) e9) e10) e11) e12) e13) e14) e15) e_1) e18) e19) e20) e21) e22) e23) e24) e25)) Cn.count_four) ?_
      rintro v_57 w26 ⟨rfl, e26⟩
      have z26 := e26.size
      refine O.pickT rfl ?_
      refine O.mv ?_
      refine O.yes rfl rfl ?_
      refine O.litn [.int .u8 1, .int .u8 2, .int .u8 3, .int .u8 1, .int .u8 5, .int .u8 9] Tryz.underlying32 ti5 ts5 tz5 rfl (by decide) (by decide) rfl (by simp [Value.oneCell']) (fun b60 w27 hb60 hz60 e27 => ?_)
      have z27 := e27.size
      have h60 := hz60.own
      have hl60 := h60.lt
      have h60s : Sl byteE w27 (fun k => k = b60) (.slice (some ⟨b60, 0, none⟩) 6 6) [1, 2, 3, 1, 5, 9] := Sl.of_own (G := byteF) h60 rfl (Nat.le_refl _) (by unfold maxLen; omega) (by simp [byteF])
      refine O.yes rfl rfl ?_
      refine O.fieldAd Tryz.underlying28 rfl Tryz.sizeOf25 (by decide) s1_1 ?_
      refine O.yes rfl rfl ?_
      refine O.loadOA Tryz.isAgg25 Tryz.sizeOf25 rfl ((((((((((((((((((((hs6.keep e7).keep e8).keep e9).keep e10).keep e11).keep e12).keep e13).keep e14).keep e15).keep e_1).keep e18).keep e19).keep e20).keep e21).keep e22).keep e23).keep e24).keep e25).keep e26).keep e27) (Nat.le_of_ble_eq_true rfl) ?_
      refine O.yes rfl rfl ?_
      refine O.call Tryz.call53 (args3 rfl rfl rfl) (wseen_spec (.slice (some ⟨b60, 0, none⟩) 6 6) [1, 2, 3, 1, 5, 9] _ (.slice (some ⟨b5, 0, none⟩) 1 1) (.slice (some ⟨b7, 0, none⟩) 1 1) Cn.exam.1 (fun j => j < wk.heap.size) 0 _ h60s (by decide) (fun j hj => by have hj : j = b60 := hj; have := h60.lt; omega) (mx.keep (Ext.trans (Ext.trans (Ext.trans (Ext.trans (Ext.trans (Ext.trans (Ext.trans (Ext.trans (Ext.trans (Ext.trans (Ext.trans (Ext.trans (Ext.trans (Ext.trans (Ext.trans (Ext.trans (Ext.trans (Ext.trans (Ext.trans (Ext.trans (Ext.new (Ext.trans (Ext.trans (Ext.trans (Ext.trans e1 e2) e3) e4) e5) e6 (by rintro i hi rfl; omega)) e7) e8) e9) e10) e11) e12) e13) e14) e15) e_1) e18) e19) e20) e21) e22) e23) e24) e25) e26) e27)) ((((((((((((((((((((he1.keep e7).keep e8).keep e9).keep e10).keep e11).keep e12).keep e13).keep e14).keep e15).keep e_1).keep e18).keep e19).keep e20).keep e21).keep e22).keep e23).keep e24).keep e25).keep e26).keep e27) ((((((((((((((((((((he2.keep e7).keep e8).keep e9).keep e10).keep e11).keep e12).keep e13).keep e14).keep e15).keep e_1).keep e18).keep e19).keep e20).keep e21).keep e22).keep e23).keep e24).keep e25).keep e26).keep e27) (fun j hj => by have hj : j < wk.heap.size := hj; omega) Cn.ctx_yes) ?_
      rintro v_63 w28 ⟨rfl, e28⟩
      have z28 := e28.size
      refine O.pickT rfl ?_
      refine O.mv ?_
      refine O.yes rfl rfl ?_
      refine O.litn [.int .u8 1, .int .u8 2, .int .u8 3] Tryz.underlying32 ti5 ts5 tz5 rfl (by decide) (by decide) rfl (by simp [Value.oneCell']) (fun b66 w29 hb66 hz66 e29 => ?_)
      have z29 := e29.size
      have h66 := hz66.own
      have hl66 := h66.lt
      have h66s : Sl byteE w29 (fun k => k = b66) (.slice (some ⟨b66, 0, none⟩) 3 3) [1, 2, 3] := Sl.of_own (G := byteF) h66 rfl (Nat.le_refl _) (by unfold maxLen; omega) (by simp [byteF])
      refine O.yes rfl rfl ?_
      refine O.build (cells := #[.slice none 0 0, .slice none 0 0]) rfl (by kernel_rfl) ?_
      refine O.yes rfl rfl ?_
      refine O.call Tryz.call53 (args3 rfl rfl rfl) (wseen_spec (.slice (some ⟨b66, 0, none⟩) 3 3) [1, 2, 3] _ (.slice none 0 0) (.slice none 0 0) ([], []) (fun _ => False) 12 _ h66s (by decide) (fun j hj => by have hj : j = b66 := hj; have := h66.lt; omega) (mx.keep (Ext.trans (Ext.trans (Ext.trans (Ext.trans (Ext.trans (Ext.trans (Ext.trans (Ext.trans (Ext.trans (Ext.trans (Ext.trans (Ext.trans (Ext.trans (Ext.trans (Ext.trans (Ext.trans (Ext.trans (Ext.trans (Ext.trans (Ext.trans (Ext.trans (Ext.trans (Ext.new (Ext.trans (Ext.trans (Ext.trans (Ext.trans e1 e2) e3) e4) e5) e6 (by rintro i hi rfl; omega)) e7) e8) e9) e10) e11) e12) e13) e14) e15) e_1) e18) e19) e20) e21) e22) e23) e24) e25) e26) e27) e28) e29)) (Sl.nil _ _ _) (Sl.nil _ _ _) (fun _ h => h.elim) Cn.ctx_no) ?_
      rintro v_68 w30 ⟨rfl, e30⟩
      have z30 := e30.size
      refine O.pickT rfl ?_
      refine O.asg ?_
      refine O.nil ?_
      refine hK14 _ _ ?_
      refine C.ret ?_
      refine Outs.one rfl rfl ?_
      exact ⟨rfl, (Ext.trans (Ext.trans (Ext.trans (Ext.trans (Ext.trans (Ext.trans (Ext.trans (Ext.trans (Ext.trans (Ext.trans (Ext.trans (Ext.trans (Ext.trans (Ext.trans (Ext.trans (Ext.trans (Ext.trans (Ext.trans (Ext.trans (Ext.trans (Ext.trans (Ext.trans (Ext.trans (Ext.new (Ext.trans (Ext.trans (Ext.trans (Ext.trans e1 e2) e3) e4) e5) e6 (by rintro i hi rfl; omega)) e7) e8) e9) e10) e11) e12) e13) e14) e15) e_1) e18) e19) e20) e21) e22) e23) e24) e25) e26) e27) e28) e29) e30)⟩

end Go.Proofs.YtnkcmaoaagnopaaGreatDoor
end
section
/-
  The walks of two laws of reading. Conditions: slices as they lie in memory.
-/
namespace Go.Proofs.YtnkcmaoaagnopaaGreatDoor
open Go.Pn Go.RowKit Go.Proofs
attribute [local irreducible] O C D

set_option maxHeartbeats 8000000 in
theorem decodeHolds_spec (va1 va2 va3 : Value) (a : Cn.Cart) (F : Nat → Prop) (v0 : Value) (l : List UInt8) (F2 : Nat → Prop) (w : World) (hav : Sl Dt.dotF.enc w F va1 a.1.1) (hac : Sl Dt.dotF.enc w F va2 a.1.2) (hai : Sl itemE w F va3 a.2) (hF : ∀ k, F k → k < w.heap.size) (hl : Sl byteE w F2 v0 l) (hF2 : ∀ k, F2 k → k < w.heap.size) (mx : Mx w) :
    Ret Tryz.prog 12 #[.agg #[va1, va2, va3], v0] w (fun v w' => v = .bool true ∧ Le w w') := by
  obtain ⟨ie5, ti5, ts5, tb5, tz5⟩ := inf5
  have hll := hl.le
  have hgl := mx.lt
  refine enter (args := [.agg #[va1, va2, va3], v0]) (n := 80) Tryz.func12 rfl rfl (Nat.le_of_ble_eq_true rfl) ?_
  refine C.seqK fun K1 hK1 => ?_
  refine C.region ?_
  refine O.box (v := .agg #[va1, va2, va3]) rfl (fun b2 w1 hb2 hz2 e1 => ?_)
  have z1 := e1.size
  have h2 := hz2.own
  have hl2 := h2.lt
  refine O.asg ?_
  refine O.nil ?_
  refine hK1 _ _ ?_
  refine C.seqK fun K2 hK2 => ?_
  refine C.seqK fun K3 hK3 => ?_
  refine C.region ?_
  refine O.mv ?_
  refine O.len Tryz.underlying32 rfl (hl.keep e1) ?_
  refine O.gtrI rfl rfl ?_
  refine O.nil ?_
  refine hK3 _ _ ?_
  refine C.condD rfl (fun c11 => ?_) (fun c11 => ?_)
  ·
    refine C.seqK fun K4 hK4 => ?_
    refine C.region ?_
    refine O.call Tryz.call29 (argsN) (wknown_spec _ (mx.keep e1)) ?_
    rintro v_12 w2 ⟨rfl, e2⟩
    have z2 := e2.size
    refine O.asg ?_
    refine O.nil ?_
    refine hK4 _ _ ?_
    refine C.ret ?_
    refine Outs.one rfl rfl ?_
    exact ⟨rfl, (Ext.trans e1 e2)⟩
  ·
    refine C.skip ?_
    refine hK2 _ _ ?_
    refine C.seqK fun K5 hK5 => ?_
    refine C.seqK fun K6 hK6 => ?_
    refine C.region ?_
    refine O.mv ?_
    refine O.call Tryz.call34 (args1 rfl) (dcart_spec v0 l F2 _ (hl.keep e1) (by omega) (fun j hj => by have q1 := hF2 j hj; omega) (mx.keep e1)) ?_
    rintro v_15 w3 ⟨vav15, vbv15, vcv15, cv15, env15, rfl, hxv15, hyv15, hzv15, hgv15, hpv15, e3⟩
    have z3 := e3.size
    replace hxv15 := hxv15.sl
    replace hyv15 := hyv15.sl
    replace hzv15 := hzv15.sl
    obtain ⟨p1, rfl⟩ := hxv15.slv
    obtain ⟨p2, rfl⟩ := hyv15.slv
    obtain ⟨p3, rfl⟩ := hzv15.slv
    obtain ⟨hg1, hg2, hg3, hg4⟩ := hgv15
    refine O.mv ?_
    refine O.extract rfl rfl ?_
    refine O.extract rfl rfl ?_
    refine O.alloc Tryz.zeroValue28 (fun b5 w4 hb5 hz5 e4 => ?_)
    have z4 := e4.size
    have h5 := hz5.own
    have hl5 := h5.lt
    refine O.storeA (vs := [slv p1, slv p2, slv p3]) Tryz.sizeOf28 rfl rfl rfl (by simp [slv, Value.oneCell']) h5 (Nat.le_of_ble_eq_true rfl) (fun w5 hs5 e5 z5 => ?_)
    refine O.asg ?_
    refine O.nil ?_
    refine hK6 _ _ ?_
    refine C.seqK fun K7 hK7 => ?_
    refine C.draw (by kernel_rfl) fun w6 e6 => ?_
    have z6 := e6.size
    refine D.take (i := 0) rfl rfl rfl rfl (by kernel_rfl) (Le.refl _) ⟨pure _, rfl⟩ (fun w_ hw_ N_ hN => (O.mv (O.nil hN))) ?_
    refine D.take (i := 1) rfl rfl rfl rfl (by kernel_rfl) (Le.refl _) ⟨_, rfl⟩ (fun w_ hw_ N_ hN => (O.eqlI rfl rfl (O.nil hN))) ?_
    refine D.take (i := 2) rfl rfl rfl rfl (by kernel_rfl) (Le.refl _) ⟨pure _, rfl⟩ (fun w_ hw_ N_ hN => (O.mv (O.nil hN))) ?_
    refine D.splitD (x := .tmp 20) rfl (fun c20 => ?_) (fun c20 => ?_)
    ·
      obtain ⟨hv9, hl9⟩ := hpv15.of c20
      refine D.takeYes (i := 3) rfl rfl rfl (by kernel_rfl) rfl (isT rfl c20) (Le.refl _) ⟨_, rfl⟩ (fun w_ hw_ N_ hN => (O.loadOA Tryz.isAgg28 Tryz.sizeOf28 rfl ((hs5.keep e6).keep hw_) (Nat.le_of_ble_eq_true rfl) (O.nil hN))) ?_
      refine D.oneYes (i := 4) rfl rfl (isT rfl c20) (by kernel_rfl) ?_
      refine O.call Tryz.call19 (args1 rfl) (cartValid_spec (slv p1) (slv p2) (slv p3) cv15 _ _ (((hxv15.keep e4).keepM e5 (by intro k hk h; first | (have q1 := hF k hk; (try dsimp only at h); omega) | (have q1 := hF2 k hk; (try dsimp only at h); omega) | (have q1 := hFb k hk; (try dsimp only at h); omega) | ((try dsimp only at hk); (try dsimp only at h); omega))).keep e6) (((hyv15.keep e4).keepM e5 (by intro k hk h; first | (have q1 := hF k hk; (try dsimp only at h); omega) | (have q1 := hF2 k hk; (try dsimp only at h); omega) | (have q1 := hFb k hk; (try dsimp only at h); omega) | ((try dsimp only at hk); (try dsimp only at h); omega))).keep e6) (((hzv15.keep e4).keepM e5 (by intro k hk h; first | (have q1 := hF k hk; (try dsimp only at h); omega) | (have q1 := hF2 k hk; (try dsimp only at h); omega) | (have q1 := hFb k hk; (try dsimp only at h); omega) | ((try dsimp only at hk); (try dsimp only at h); omega))).keep e6) (fun j hj => by have q1 := hj.2; omega) hg3 hg4 (mx.keep (Ext.trans (Ext.new (Ext.trans (Ext.trans e1 e3) e4) e5 (by rintro i hi rfl; omega)) e6))) ?_
      rintro v_22 w7 ⟨rfl, e7⟩
      have z7 := e7.size
      refine O.nil ⟨e7, ?_⟩
      refine D.cast (v' := .bool true) (congrArg Value.bool (by exact hv9)) ?_
      refine D.takeYes (i := 5) rfl rfl rfl (by kernel_rfl) rfl (isT rfl c20) e7 ⟨_, rfl⟩ (fun w_ hw_ N_ hN => (O.not rfl (O.cast (v' := .bool false) rfl (O.nil hN)))) ?_
      refine D.takeYes (i := 6) rfl rfl rfl (by kernel_rfl) rfl (isT rfl c20) e7 ⟨pure _, rfl⟩ (fun w_ hw_ N_ hN => (O.mv (O.nil hN))) ?_
      refine D.takeYes (i := 7) rfl rfl rfl (by kernel_rfl) rfl rfl e7 ⟨_, rfl⟩ (fun w_ hw_ N_ hN => (O.loadOA Tryz.isAgg28 Tryz.sizeOf28 rfl ((hs5.keep e6).keep hw_) (Nat.le_of_ble_eq_true rfl) (O.nil hN))) ?_
      refine D.takeYes (i := 10) rfl rfl rfl (by kernel_rfl) rfl rfl e7 ⟨pure _, rfl⟩ (fun w_ hw_ N_ hN => (O.mv (O.nil hN))) ?_
      refine D.takeYes (i := 11) rfl rfl rfl (by kernel_rfl) rfl rfl e7 ⟨_, rfl⟩ (fun w_ hw_ N_ hN => (O.bytesS Tryz.underlying32 Tryz.underlying5 Tryz.underlying9 rfl ((hl.keep (Ext.trans (Ext.new (Ext.trans (Ext.trans e1 e3) e4) e5 (by rintro i hi rfl; omega)) e6)).keep hw_) (O.nil hN))) ?_
      refine D.oneYes (i := 8) rfl rfl rfl (by kernel_rfl) ?_
      refine O.call Tryz.call22 (args1 rfl) (rbytes_spec (slv p1) (slv p2) (slv p3) cv15 _ _ ((((hxv15.keep e4).keepM e5 (by intro k hk h; first | (have q1 := hF k hk; (try dsimp only at h); omega) | (have q1 := hF2 k hk; (try dsimp only at h); omega) | (have q1 := hFb k hk; (try dsimp only at h); omega) | ((try dsimp only at hk); (try dsimp only at h); omega))).keep e6).keep e7) ((((hyv15.keep e4).keepM e5 (by intro k hk h; first | (have q1 := hF k hk; (try dsimp only at h); omega) | (have q1 := hF2 k hk; (try dsimp only at h); omega) | (have q1 := hFb k hk; (try dsimp only at h); omega) | ((try dsimp only at hk); (try dsimp only at h); omega))).keep e6).keep e7) ((((hzv15.keep e4).keepM e5 (by intro k hk h; first | (have q1 := hF k hk; (try dsimp only at h); omega) | (have q1 := hF2 k hk; (try dsimp only at h); omega) | (have q1 := hFb k hk; (try dsimp only at h); omega) | ((try dsimp only at hk); (try dsimp only at h); omega))).keep e6).keep e7) (fun j hj => by have q1 := hj.2; omega) hg3 hg4 hg1 hg2) ?_
      rintro v_26 w8 ⟨e8, h26⟩
      have z8 := e8.size
      refine O.nil ⟨(Ext.trans e7 e8), ?_⟩
      have h26s := h26.sl
      refine D.oneYes (i := 9) rfl rfl rfl (by kernel_rfl) ?_
      refine O.bytesS Tryz.underlying32 Tryz.underlying5 Tryz.underlying9 rfl h26s ?_
      refine O.nil ⟨(Ext.trans e7 e8), ?_⟩
      refine D.takeYes (i := 12) rfl rfl rfl (by kernel_rfl) rfl rfl (Ext.trans e7 e8) ⟨_, rfl⟩ (fun w_ hw_ N_ hN => (O.neqS rfl rfl (O.nil hN))) ?_
      refine D.cast (v' := .bool false) (congrArg Value.bool (by exact decide_eq_false (fun h => h hl9))) ?_
      refine D.takeYes (i := 13) rfl rfl rfl (by kernel_rfl) rfl (isT rfl c20) (Ext.trans e7 e8) pick_form (fun w_ hw_ N_ hN => (O.pickF rfl (O.nil hN))) ?_
      refine D.take (i := 14) rfl rfl rfl rfl (by kernel_rfl) (Ext.trans e7 e8) pick_form (fun w_ hw_ N_ hN => (O.pickT (isT rfl c20) (O.nil hN))) ?_
      refine D.done (by kernel_rfl) ?_
      refine hK7 _ _ ?_
      refine C.condF rfl ?_
      refine C.skip ?_
      refine hK5 _ _ ?_
      refine C.seqK fun K8 hK8 => ?_
      refine C.seqK fun K9 hK9 => ?_
      refine C.region ?_
      refine O.loadOA Tryz.isAgg28 Tryz.sizeOf28 rfl ((((((h2.keep e3).keep e4).keepM e5 (by intro h; (try dsimp only at h); omega)).keep e6).keep e7).keep e8) (Nat.le_of_ble_eq_true rfl) ?_
      refine O.call Tryz.call13 (args1 rfl) (small_spec va1 va2 va3 a F _ (hav.keep (Ext.trans (Ext.trans (Ext.trans (Ext.new (Ext.trans (Ext.trans e1 e3) e4) e5 (by rintro i hi rfl; omega)) e6) e7) e8)) (hac.keep (Ext.trans (Ext.trans (Ext.trans (Ext.new (Ext.trans (Ext.trans e1 e3) e4) e5 (by rintro i hi rfl; omega)) e6) e7) e8)) (hai.keep (Ext.trans (Ext.trans (Ext.trans (Ext.new (Ext.trans (Ext.trans e1 e3) e4) e5 (by rintro i hi rfl; omega)) e6) e7) e8))) ?_
      rintro v_34 w9 ⟨rfl, e9⟩
      have z9 := e9.size
      refine O.not rfl ?_
      refine O.mv ?_
      refine O.split (x := .tmp 36) rfl (fun c36 => ?_) (fun c36 => ?_)
      ·
        refine O.no rfl (noB (isT' rfl c36) rfl) ?_
        refine O.no rfl (noB (isT' rfl c36) rfl) ?_
        refine O.no rfl (noB (isT' rfl c36) rfl) ?_
        refine O.pickT (isT' rfl c36) ?_
        refine O.nil ?_
        refine hK9 _ _ ?_
        refine C.condT rfl ?_
        refine C.seqK fun K10 hK10 => ?_
        refine C.region ?_
        refine O.call Tryz.call29 (argsN) (wknown_spec _ (mx.keep (Ext.trans (Ext.trans (Ext.trans (Ext.trans (Ext.new (Ext.trans (Ext.trans e1 e3) e4) e5 (by rintro i hi rfl; omega)) e6) e7) e8) e9))) ?_
        rintro v_41 w10 ⟨rfl, e10⟩
        have z10 := e10.size
        refine O.asg ?_
        refine O.nil ?_
        refine hK10 _ _ ?_
        refine C.ret ?_
        refine Outs.one rfl rfl ?_
        exact ⟨rfl, (Ext.trans (Ext.trans (Ext.trans (Ext.trans (Ext.trans (Ext.new (Ext.trans (Ext.trans e1 e3) e4) e5 (by rintro i hi rfl; omega)) e6) e7) e8) e9) e10)⟩
      ·
        have hsm : Cn.small a = true := by simpa using c36
        obtain ⟨hs1, hs2, hs3, hs4⟩ := Cn.small_iff hsm
        have hn : a.2.length ≤ 1000000 := by omega
        have hS : ∀ x ∈ a.2, x.1.length ≤ 1000000 ∧ x.2.length ≤ 1000000 := fun x hx => by have := hs4 x hx; omega
        have hp : a.1.1.length ≤ 1000000 := by omega
        have hq : a.1.2.length ≤ 1000000 := by omega
        have hbs := Cn.bytes_small hsm
        refine O.yes rfl (isF' rfl c36) ?_
        refine O.loadOA Tryz.isAgg28 Tryz.sizeOf28 rfl (((((((h2.keep e3).keep e4).keepM e5 (by intro h; (try dsimp only at h); omega)).keep e6).keep e7).keep e8).keep e9) (Nat.le_of_ble_eq_true rfl) ?_
        refine O.yes rfl (isF' rfl c36) ?_
        refine O.call Tryz.call19 (args1 rfl) (cartValid_spec va1 va2 va3 a F _ (hav.keep (Ext.trans (Ext.trans (Ext.trans (Ext.trans (Ext.new (Ext.trans (Ext.trans e1 e3) e4) e5 (by rintro i hi rfl; omega)) e6) e7) e8) e9)) (hac.keep (Ext.trans (Ext.trans (Ext.trans (Ext.trans (Ext.new (Ext.trans (Ext.trans e1 e3) e4) e5 (by rintro i hi rfl; omega)) e6) e7) e8) e9)) (hai.keep (Ext.trans (Ext.trans (Ext.trans (Ext.trans (Ext.new (Ext.trans (Ext.trans e1 e3) e4) e5 (by rintro i hi rfl; omega)) e6) e7) e8) e9)) (fun j hj => by have q1 := hF j hj; omega) hn hS (mx.keep (Ext.trans (Ext.trans (Ext.trans (Ext.trans (Ext.new (Ext.trans (Ext.trans e1 e3) e4) e5 (by rintro i hi rfl; omega)) e6) e7) e8) e9))) ?_
        rintro v_38 w11 ⟨rfl, e11⟩
        have z11 := e11.size
        refine O.yes rfl (isF' rfl c36) ?_
        refine O.not rfl ?_
        refine O.pickF (isF' rfl c36) ?_
        refine O.nil ?_
        refine hK9 _ _ ?_
        refine C.cond rfl (fun c40 => ?_) (fun c40 => ?_)
        ·
          refine C.seqK fun K11 hK11 => ?_
          refine C.region ?_
          refine O.call Tryz.call29 (argsN) (wknown_spec _ (mx.keep (Ext.trans (Ext.trans (Ext.trans (Ext.trans (Ext.trans (Ext.new (Ext.trans (Ext.trans e1 e3) e4) e5 (by rintro i hi rfl; omega)) e6) e7) e8) e9) e11))) ?_
          rintro v_41 w12 ⟨rfl, e12⟩
          have z12 := e12.size
          refine O.asg ?_
          refine O.nil ?_
          refine hK11 _ _ ?_
          refine C.ret ?_
          refine Outs.one rfl rfl ?_
          exact ⟨rfl, (Ext.trans (Ext.trans (Ext.trans (Ext.trans (Ext.trans (Ext.trans (Ext.new (Ext.trans (Ext.trans e1 e3) e4) e5 (by rintro i hi rfl; omega)) e6) e7) e8) e9) e11) e12)⟩
        ·
          have hva : Cn.valid a = true := by simpa using c40
          refine C.skip ?_
          refine hK8 _ _ ?_
          refine C.seqK fun K12 hK12 => ?_
          refine C.region ?_
          refine O.loadOA Tryz.isAgg28 Tryz.sizeOf28 rfl ((((((((h2.keep e3).keep e4).keepM e5 (by intro h; (try dsimp only at h); omega)).keep e6).keep e7).keep e8).keep e9).keep e11) (Nat.le_of_ble_eq_true rfl) ?_
          refine O.call Tryz.call22 (args1 rfl) (rbytes_spec va1 va2 va3 a F _ (hav.keep (Ext.trans (Ext.trans (Ext.trans (Ext.trans (Ext.trans (Ext.new (Ext.trans (Ext.trans e1 e3) e4) e5 (by rintro i hi rfl; omega)) e6) e7) e8) e9) e11)) (hac.keep (Ext.trans (Ext.trans (Ext.trans (Ext.trans (Ext.trans (Ext.new (Ext.trans (Ext.trans e1 e3) e4) e5 (by rintro i hi rfl; omega)) e6) e7) e8) e9) e11)) (hai.keep (Ext.trans (Ext.trans (Ext.trans (Ext.trans (Ext.trans (Ext.new (Ext.trans (Ext.trans e1 e3) e4) e5 (by rintro i hi rfl; omega)) e6) e7) e8) e9) e11)) (fun j hj => by have q1 := hF j hj; omega) hn hS hp hq) ?_
          rintro v_43 w13 ⟨e13, h43⟩
          have z13 := e13.size
          have h43s := h43.sl
          have h43b := h43.bk_ge
          refine O.asg ?_
          refine O.nil ?_
          refine hK12 _ _ ?_
          refine C.seqK fun K13 hK13 => ?_
          refine C.seqK fun K14 hK14 => ?_
          refine C.draw (by kernel_rfl) fun w14 e14 => ?_
          have z14 := e14.size
          refine D.take (i := 0) rfl rfl rfl rfl (by kernel_rfl) (Le.refl _) ⟨pure _, rfl⟩ (fun w_ hw_ N_ hN => (O.mv (O.nil hN))) ?_
          refine D.take (i := 1) rfl rfl rfl rfl (by kernel_rfl) (Le.refl _) ⟨_, rfl⟩ (fun w_ hw_ N_ hN => (O.loadOA Tryz.isAgg28 Tryz.sizeOf28 rfl (((((((((((h2.keep e3).keep e4).keepM e5 (by intro h; (try dsimp only at h); omega)).keep e6).keep e7).keep e8).keep e9).keep e11).keep e13).keep e14).keep hw_) (Nat.le_of_ble_eq_true rfl) (O.nil hN))) ?_
          refine D.one (i := 2) rfl rfl (by kernel_rfl) ?_
          refine O.call Tryz.call35 (args3 rfl rfl rfl) (isY_spec v_43 (Cn.bytes a) (bk v_43) va1 va2 va3 a F _ (h43s.keep e14) (by omega) (fun j hj => by have q1 := ((h43.keep e14)).bk_ge j hj; omega) (mx.keep (Ext.trans (Ext.trans (Ext.trans (Ext.trans (Ext.trans (Ext.trans (Ext.trans (Ext.new (Ext.trans (Ext.trans e1 e3) e4) e5 (by rintro i hi rfl; omega)) e6) e7) e8) e9) e11) e13) e14)) (hav.keep (Ext.trans (Ext.trans (Ext.trans (Ext.trans (Ext.trans (Ext.trans (Ext.trans (Ext.new (Ext.trans (Ext.trans e1 e3) e4) e5 (by rintro i hi rfl; omega)) e6) e7) e8) e9) e11) e13) e14)) (hac.keep (Ext.trans (Ext.trans (Ext.trans (Ext.trans (Ext.trans (Ext.trans (Ext.trans (Ext.new (Ext.trans (Ext.trans e1 e3) e4) e5 (by rintro i hi rfl; omega)) e6) e7) e8) e9) e11) e13) e14)) (hai.keep (Ext.trans (Ext.trans (Ext.trans (Ext.trans (Ext.trans (Ext.trans (Ext.trans (Ext.new (Ext.trans (Ext.trans e1 e3) e4) e5 (by rintro i hi rfl; omega)) e6) e7) e8) e9) e11) e13) e14)) (fun j hj => by have q1 := hF j hj; omega) (Cn.is_bytes hva)) ?_
          rintro v_46 w15 ⟨rfl, e15⟩
          have z15 := e15.size
          refine O.nil ⟨e15, ?_⟩
          refine D.take (i := 3) rfl rfl rfl rfl (by kernel_rfl) e15 ⟨_, rfl⟩ (fun w_ hw_ N_ hN => (O.not rfl (O.cast (v' := .bool false) rfl (O.nil hN)))) ?_
          refine D.take (i := 4) rfl rfl rfl rfl (by kernel_rfl) e15 ⟨pure _, rfl⟩ (fun w_ hw_ N_ hN => (O.mv (O.nil hN))) ?_
          refine D.takeYes (i := 5) rfl rfl rfl (by kernel_rfl) rfl rfl e15 ⟨pure _, rfl⟩ (fun w_ hw_ N_ hN => (O.mv (O.nil hN))) ?_
          refine D.takeYes (i := 7) rfl rfl rfl (by kernel_rfl) rfl rfl e15 ⟨pure _, rfl⟩ (fun w_ hw_ N_ hN => (O.mv (O.nil hN))) ?_
          refine D.takeYes (i := 9) rfl rfl rfl (by kernel_rfl) rfl rfl e15 ⟨_, rfl⟩ (fun w_ hw_ N_ hN => (O.loadOA Tryz.isAgg28 Tryz.sizeOf28 rfl (((((((((((h2.keep e3).keep e4).keepM e5 (by intro h; (try dsimp only at h); omega)).keep e6).keep e7).keep e8).keep e9).keep e11).keep e13).keep e14).keep hw_) (Nat.le_of_ble_eq_true rfl) (O.nil hN))) ?_
          refine D.takeYes (i := 10) rfl rfl rfl (by kernel_rfl) rfl rfl e15 ⟨pure _, rfl⟩ (fun w_ hw_ N_ hN => (O.mv (O.nil hN))) ?_
          refine D.takeYes (i := 11) rfl rfl rfl (by kernel_rfl) rfl rfl e15 len_form (fun w_ hw_ N_ hN => (O.len Tryz.underlying32 rfl ((h43s.keep e14).keep hw_) (O.nil hN))) ?_
          refine D.oneYes (i := 6) rfl rfl rfl (by kernel_rfl) ?_
          refine O.appF (G := byteF) Tryz.underlying32 ti5 tz5 ts5 rfl rfl rfl (OwnF.nil _ _ _ _) ((h43s.keep e14).keep e15) (by rw [tb5]; simp; omega) (by unfold maxLen; simp; omega) (by omega) (fun v50 w16 h50 e16 => ?_)
          replace e16 : Le w15 w16 := e16.mono (fun _ _ h => h)
          have z16 := e16.size
          have h50s := h50.sl
          refine O.nil ⟨(Ext.trans e15 e16), ?_⟩
          refine D.oneYes (i := 8) rfl rfl rfl (by kernel_rfl) ?_
          refine O.appF (G := byteF) Tryz.underlying32 ti5 tz5 ts5 rfl rfl rfl h50 (hl.keep (Ext.trans (Ext.trans (Ext.trans (Ext.trans (Ext.trans (Ext.trans (Ext.trans (Ext.trans (Ext.trans (Ext.new (Ext.trans (Ext.trans e1 e3) e4) e5 (by rintro i hi rfl; omega)) e6) e7) e8) e9) e11) e13) e14) e15) e16)) (by rw [tb5]; simp; omega) (by unfold maxLen; simp; omega) (by omega) (fun v52 w17 h52 e17 => ?_)
          have z17 := e17.size
          have h52s := h52.sl
          refine O.nil ⟨(Ext.new (Ext.trans e15 e16) e17 (by intro i hi h; have := h50.bk_ge i h; omega)), ?_⟩
          refine D.oneYes (i := 12) rfl rfl rfl (by kernel_rfl) ?_
          refine O.call Tryz.call36 (args4 rfl rfl rfl rfl) (begins_spec v52 _ (bk v52) va1 va2 va3 a F (Cn.bytes a).length 0 _ h52s (by simp; omega) (fun j hj => by have q1 := (h52).bk_ge j hj; omega) (mx.keep (Ext.new (Ext.trans (Ext.trans (Ext.trans (Ext.trans (Ext.trans (Ext.trans (Ext.trans (Ext.trans (Ext.trans (Ext.new (Ext.trans (Ext.trans e1 e3) e4) e5 (by rintro i hi rfl; omega)) e6) e7) e8) e9) e11) e13) e14) e15) e16) e17 (by intro i hi h; have := h50.bk_ge i h; omega))) (hav.keep (Ext.new (Ext.trans (Ext.trans (Ext.trans (Ext.trans (Ext.trans (Ext.trans (Ext.trans (Ext.trans (Ext.trans (Ext.new (Ext.trans (Ext.trans e1 e3) e4) e5 (by rintro i hi rfl; omega)) e6) e7) e8) e9) e11) e13) e14) e15) e16) e17 (by intro i hi h; have := h50.bk_ge i h; omega))) (hac.keep (Ext.new (Ext.trans (Ext.trans (Ext.trans (Ext.trans (Ext.trans (Ext.trans (Ext.trans (Ext.trans (Ext.trans (Ext.new (Ext.trans (Ext.trans e1 e3) e4) e5 (by rintro i hi rfl; omega)) e6) e7) e8) e9) e11) e13) e14) e15) e16) e17 (by intro i hi h; have := h50.bk_ge i h; omega))) (hai.keep (Ext.new (Ext.trans (Ext.trans (Ext.trans (Ext.trans (Ext.trans (Ext.trans (Ext.trans (Ext.trans (Ext.trans (Ext.new (Ext.trans (Ext.trans e1 e3) e4) e5 (by rintro i hi rfl; omega)) e6) e7) e8) e9) e11) e13) e14) e15) e16) e17 (by intro i hi h; have := h50.bk_ge i h; omega))) (fun j hj => by have q1 := hF j hj; omega) (Cn.begins_bytes hva)) ?_
          rintro v_56 w18 ⟨rfl, e18⟩
          have z18 := e18.size
          refine O.nil ⟨(Ext.trans (Ext.new (Ext.trans e15 e16) e17 (by intro i hi h; have := h50.bk_ge i h; omega)) e18), ?_⟩
          refine D.takeYes (i := 13) rfl rfl rfl (by kernel_rfl) rfl rfl (Ext.trans (Ext.new (Ext.trans e15 e16) e17 (by intro i hi h; have := h50.bk_ge i h; omega)) e18) ⟨_, rfl⟩ (fun w_ hw_ N_ hN => (O.not rfl (O.cast (v' := .bool false) rfl (O.nil hN)))) ?_
          refine D.take (i := 14) rfl rfl rfl rfl (by kernel_rfl) (Ext.trans (Ext.new (Ext.trans e15 e16) e17 (by intro i hi h; have := h50.bk_ge i h; omega)) e18) pick_form (fun w_ hw_ N_ hN => (O.pickF rfl (O.nil hN))) ?_
          refine D.done (by kernel_rfl) ?_
          refine hK14 _ _ ?_
          refine C.condF rfl ?_
          refine C.skip ?_
          refine hK13 _ _ ?_
          refine C.seqK fun K15 hK15 => ?_
          refine C.seqK fun K16 hK16 => ?_
          refine C.region ?_
          refine O.asg ?_
          refine O.nil ?_
          refine hK16 _ _ ?_
          refine C.block fun K17 hK17 => ?_
          refine C.loop0 (σ := Nat) (fun f0 w0 i f w => f 8 = .int .i64 ((i : Int)) ∧ f 7 = f0 7 ∧ Le w0 w ∧ i ≤ (Cn.bytes a).length) (fun i => (Cn.bytes a).length - i) 0 ?_ ?_
          ·
            refine ⟨rfl, rfl, Le.refl _, ?_⟩
            exact Nat.zero_le _
          ·
            rintro i f_1 w19 ⟨s8_1, s7_1, e_1, hi⟩
            have z_1 := e_1.size
            refine C.seqK fun K18 hK18 => ?_
            refine C.seqK fun K19 hK19 => ?_
            refine C.region ?_
            refine O.mv ?_
            refine O.mv ?_
            refine O.len Tryz.underlying32 s7_1 ((((((h43s.keep e14).keep e15).keep e16).keepM e17 (fun j hj h => by have q1 := h43b j hj; have q2 := h50.bk_ge j h; omega)).keep e18).keep e_1) ?_
            refine O.lssI s8_1 rfl ?_
            refine O.nil ?_
            refine hK19 _ _ ?_
            refine C.condD rfl (fun c62 => ?_) (fun c62 => ?_)
            ·
              have hi2 : i < (Cn.bytes a).length := by omega
              refine C.skip ?_
              refine hK18 _ _ ?_
              refine C.seqK fun K20 hK20 => ?_
              refine C.block fun K21 hK21 => ?_
              refine C.seqK fun K22 hK22 => ?_
              refine C.region ?_
              refine O.mv ?_
              refine O.mv ?_
              have hb67 := Sl.sub (P := Tryz.prog) (0) (i) Tryz.underlying32 Tryz.sizeOf5 (by rfl) ((((((h43s.keep e14).keep e15).keep e16).keepM e17 (fun j hj h => by have q1 := h43b j hj; have q2 := h50.bk_ge j h; omega)).keep e18).keep e_1) (Nat.zero_le _) (by omega)
              obtain ⟨v67, hs67, hr67⟩ := hb67
              refine O.subR s7_1 hr67 (.inl ⟨rfl, rfl⟩) (.inr ⟨_, _, rfl, s8_1⟩) ?_
              refine O.build (cells := #[.slice none 0 0, .slice none 0 0, .slice none 0 0]) rfl (by kernel_rfl) ?_
              refine O.call Tryz.call35 (args3 rfl rfl rfl) (isN_spec v67 ((Cn.bytes a).take i) (bk v_43) (.slice none 0 0) (.slice none 0 0) (.slice none 0 0) Cn.nil0 (fun _ => False) _ hs67 (by rw [List.length_take]; omega) (fun j hj => by have q1 := h43b j hj; omega) (mx.keep (Ext.trans (Ext.trans (Ext.new (Ext.trans (Ext.trans (Ext.trans (Ext.trans (Ext.trans (Ext.trans (Ext.trans (Ext.trans (Ext.trans (Ext.new (Ext.trans (Ext.trans e1 e3) e4) e5 (by rintro i hi rfl; omega)) e6) e7) e8) e9) e11) e13) e14) e15) e16) e17 (by intro i hi h; have := h50.bk_ge i h; omega)) e18) e_1)) (Sl.nil _ _ _) (Sl.nil _ _ _) (Sl.nil _ _ _) (fun _ h => h.elim) (Cn.take_is hva hi2)) ?_
              rintro v_69 w20 ⟨rfl, e20⟩
              have z20 := e20.size
              refine O.not rfl ?_
              refine O.cast (v' := .bool false) rfl ?_
              refine O.mv ?_
              refine O.yes rfl rfl ?_
              refine O.mv ?_
              refine O.yes rfl rfl ?_
              refine O.mv ?_
              refine O.yes rfl rfl ?_
              have hb74 := Sl.sub (P := Tryz.prog) (0) (i) Tryz.underlying32 Tryz.sizeOf5 (by rfl) (((((((h43s.keep e14).keep e15).keep e16).keepM e17 (fun j hj h => by have q1 := h43b j hj; have q2 := h50.bk_ge j h; omega)).keep e18).keep e_1).keep e20) (Nat.zero_le _) (by omega)
              obtain ⟨v74, hs74, hr74⟩ := hb74
              refine O.subR s7_1 hr74 (.inl ⟨rfl, rfl⟩) (.inr ⟨_, _, rfl, s8_1⟩) ?_
              refine O.yes rfl rfl ?_
              refine O.build (cells := #[.slice none 0 0, .slice none 0 0, .slice none 0 0]) rfl (by kernel_rfl) ?_
              refine O.yes rfl rfl ?_
              refine O.call Tryz.call36 (args4 rfl rfl rfl rfl) (begins_spec v74 ((Cn.bytes a).take i) (bk v_43) (.slice none 0 0) (.slice none 0 0) (.slice none 0 0) Cn.nil0 (fun _ => False) 0 12 _ hs74 (by rw [List.length_take]; omega) (fun j hj => by have q1 := h43b j hj; omega) (mx.keep (Ext.trans (Ext.trans (Ext.trans (Ext.new (Ext.trans (Ext.trans (Ext.trans (Ext.trans (Ext.trans (Ext.trans (Ext.trans (Ext.trans (Ext.trans (Ext.new (Ext.trans (Ext.trans e1 e3) e4) e5 (by rintro i hi rfl; omega)) e6) e7) e8) e9) e11) e13) e14) e15) e16) e17 (by intro i hi h; have := h50.bk_ge i h; omega)) e18) e_1) e20)) (Sl.nil _ _ _) (Sl.nil _ _ _) (Sl.nil _ _ _) (fun _ h => h.elim) (Cn.take_begins hva hi2)) ?_
              rintro v_76 w21 ⟨rfl, e21⟩
              have z21 := e21.size
              refine O.yes rfl rfl ?_
              refine O.not rfl ?_
              refine O.cast (v' := .bool false) rfl ?_
              refine O.pickF rfl ?_
              refine O.nil ?_
              refine hK22 _ _ ?_
              refine C.condF rfl ?_
              refine C.skip ?_
              refine hK21 _ _ ?_
              refine hK20 _ _ ?_
              refine C.region ?_
              refine O.mv ?_
              refine O.addI s8_1 rfl (by unfold InI; omega) ?_
              refine O.asg ?_
              refine O.nil ?_
              refine ⟨(i + 1), ⟨rfl, s7_1, (Ext.trans (Ext.trans e_1 e20) e21), ?_⟩, by first | omega | (simp only []; omega)⟩
              omega
            ·
              refine C.exit ?_
              refine hK17 _ _ ?_
              refine hK15 _ _ ?_
              refine C.seqK fun K23 hK23 => ?_
              refine C.region ?_
              refine O.call Tryz.call29 (argsN) (wknown_spec _ (mx.keep (Ext.trans (Ext.trans (Ext.new (Ext.trans (Ext.trans (Ext.trans (Ext.trans (Ext.trans (Ext.trans (Ext.trans (Ext.trans (Ext.trans (Ext.new (Ext.trans (Ext.trans e1 e3) e4) e5 (by rintro i hi rfl; omega)) e6) e7) e8) e9) e11) e13) e14) e15) e16) e17 (by intro i hi h; have := h50.bk_ge i h; omega)) e18) e_1))) ?_
              rintro v_79 w22 ⟨rfl, e22⟩
              have z22 := e22.size
              refine O.asg ?_
              refine O.nil ?_
              refine hK23 _ _ ?_
              refine C.ret ?_
              refine Outs.one rfl rfl ?_
              exact ⟨rfl, (Ext.trans (Ext.trans (Ext.trans (Ext.new (Ext.trans (Ext.trans (Ext.trans (Ext.trans (Ext.trans (Ext.trans (Ext.trans (Ext.trans (Ext.trans (Ext.new (Ext.trans (Ext.trans e1 e3) e4) e5 (by rintro i hi rfl; omega)) e6) e7) e8) e9) e11) e13) e14) e15) e16) e17 (by intro i hi h; have := h50.bk_ge i h; omega)) e18) e_1) e22)⟩
    ·
      refine D.takeNo (i := 3) rfl rfl (by kernel_rfl) (Le.refl _) rfl (noB (isF rfl c20) rfl) ?_
      refine D.takeNo (i := 4) rfl rfl (by kernel_rfl) (Le.refl _) rfl (noB (isF rfl c20) rfl) ?_
      refine D.takeNo (i := 5) rfl rfl (by kernel_rfl) (Le.refl _) rfl (noB (isF rfl c20) rfl) ?_
      refine D.takeNo (i := 6) rfl rfl (by kernel_rfl) (Le.refl _) rfl (noB (isF rfl c20) rfl) ?_
      refine D.takeNo (i := 7) rfl rfl (by kernel_rfl) (Le.refl _) rfl (noU rfl) ?_
      refine D.takeNo (i := 8) rfl rfl (by kernel_rfl) (Le.refl _) rfl (noU rfl) ?_
      refine D.takeNo (i := 9) rfl rfl (by kernel_rfl) (Le.refl _) rfl (noU rfl) ?_
      refine D.takeNo (i := 10) rfl rfl (by kernel_rfl) (Le.refl _) rfl (noU rfl) ?_
      refine D.takeNo (i := 11) rfl rfl (by kernel_rfl) (Le.refl _) rfl (noU rfl) ?_
      refine D.takeNo (i := 12) rfl rfl (by kernel_rfl) (Le.refl _) rfl (noU rfl) ?_
      refine D.takeNo (i := 13) rfl rfl (by kernel_rfl) (Le.refl _) rfl (noB (isF rfl c20) rfl) ?_
      refine D.take (i := 14) rfl rfl rfl rfl (by kernel_rfl) (Le.refl _) pick_form (fun w_ hw_ N_ hN => (O.pickF (isF rfl c20) (O.nil hN))) ?_
      refine D.done (by kernel_rfl) ?_
      refine hK7 _ _ ?_
      refine C.condF rfl ?_
      refine C.skip ?_
      refine hK5 _ _ ?_
      refine C.seqK fun K24 hK24 => ?_
      refine C.seqK fun K25 hK25 => ?_
      refine C.region ?_
      refine O.loadOA Tryz.isAgg28 Tryz.sizeOf28 rfl ((((h2.keep e3).keep e4).keepM e5 (by intro h; (try dsimp only at h); omega)).keep e6) (Nat.le_of_ble_eq_true rfl) ?_
      refine O.call Tryz.call13 (args1 rfl) (small_spec va1 va2 va3 a F _ (hav.keep (Ext.trans (Ext.new (Ext.trans (Ext.trans e1 e3) e4) e5 (by rintro i hi rfl; omega)) e6)) (hac.keep (Ext.trans (Ext.new (Ext.trans (Ext.trans e1 e3) e4) e5 (by rintro i hi rfl; omega)) e6)) (hai.keep (Ext.trans (Ext.new (Ext.trans (Ext.trans e1 e3) e4) e5 (by rintro i hi rfl; omega)) e6))) ?_
      rintro v_34 w23 ⟨rfl, e23⟩
      have z23 := e23.size
      refine O.not rfl ?_
      refine O.mv ?_
      refine O.split (x := .tmp 36) rfl (fun c36 => ?_) (fun c36 => ?_)
      ·
        refine O.no rfl (noB (isT' rfl c36) rfl) ?_
        refine O.no rfl (noB (isT' rfl c36) rfl) ?_
        refine O.no rfl (noB (isT' rfl c36) rfl) ?_
        refine O.pickT (isT' rfl c36) ?_
        refine O.nil ?_
        refine hK25 _ _ ?_
        refine C.condT rfl ?_
        refine C.seqK fun K26 hK26 => ?_
        refine C.region ?_
        refine O.call Tryz.call29 (argsN) (wknown_spec _ (mx.keep (Ext.trans (Ext.trans (Ext.new (Ext.trans (Ext.trans e1 e3) e4) e5 (by rintro i hi rfl; omega)) e6) e23))) ?_
        rintro v_41 w24 ⟨rfl, e24⟩
        have z24 := e24.size
        refine O.asg ?_
        refine O.nil ?_
        refine hK26 _ _ ?_
        refine C.ret ?_
        refine Outs.one rfl rfl ?_
        exact ⟨rfl, (Ext.trans (Ext.trans (Ext.trans (Ext.new (Ext.trans (Ext.trans e1 e3) e4) e5 (by rintro i hi rfl; omega)) e6) e23) e24)⟩
      ·
        have hsm : Cn.small a = true := by simpa using c36
        obtain ⟨hs1, hs2, hs3, hs4⟩ := Cn.small_iff hsm
        have hn : a.2.length ≤ 1000000 := by omega
        have hS : ∀ x ∈ a.2, x.1.length ≤ 1000000 ∧ x.2.length ≤ 1000000 := fun x hx => by have := hs4 x hx; omega
        have hp : a.1.1.length ≤ 1000000 := by omega
        have hq : a.1.2.length ≤ 1000000 := by omega
        have hbs := Cn.bytes_small hsm
        refine O.yes rfl (isF' rfl c36) ?_
        refine O.loadOA Tryz.isAgg28 Tryz.sizeOf28 rfl (((((h2.keep e3).keep e4).keepM e5 (by intro h; (try dsimp only at h); omega)).keep e6).keep e23) (Nat.le_of_ble_eq_true rfl) ?_
        refine O.yes rfl (isF' rfl c36) ?_
        refine O.call Tryz.call19 (args1 rfl) (cartValid_spec va1 va2 va3 a F _ (hav.keep (Ext.trans (Ext.trans (Ext.new (Ext.trans (Ext.trans e1 e3) e4) e5 (by rintro i hi rfl; omega)) e6) e23)) (hac.keep (Ext.trans (Ext.trans (Ext.new (Ext.trans (Ext.trans e1 e3) e4) e5 (by rintro i hi rfl; omega)) e6) e23)) (hai.keep (Ext.trans (Ext.trans (Ext.new (Ext.trans (Ext.trans e1 e3) e4) e5 (by rintro i hi rfl; omega)) e6) e23)) (fun j hj => by have q1 := hF j hj; omega) hn hS (mx.keep (Ext.trans (Ext.trans (Ext.new (Ext.trans (Ext.trans e1 e3) e4) e5 (by rintro i hi rfl; omega)) e6) e23))) ?_
        rintro v_38 w25 ⟨rfl, e25⟩
        have z25 := e25.size
        refine O.yes rfl (isF' rfl c36) ?_
        refine O.not rfl ?_
        refine O.pickF (isF' rfl c36) ?_
        refine O.nil ?_
        refine hK25 _ _ ?_
        refine C.cond rfl (fun c40 => ?_) (fun c40 => ?_)
        ·
          refine C.seqK fun K27 hK27 => ?_
          refine C.region ?_
          refine O.call Tryz.call29 (argsN) (wknown_spec _ (mx.keep (Ext.trans (Ext.trans (Ext.trans (Ext.new (Ext.trans (Ext.trans e1 e3) e4) e5 (by rintro i hi rfl; omega)) e6) e23) e25))) ?_
          rintro v_41 w26 ⟨rfl, e26⟩
          have z26 := e26.size
          refine O.asg ?_
          refine O.nil ?_
          refine hK27 _ _ ?_
          refine C.ret ?_
          refine Outs.one rfl rfl ?_
          exact ⟨rfl, (Ext.trans (Ext.trans (Ext.trans (Ext.trans (Ext.new (Ext.trans (Ext.trans e1 e3) e4) e5 (by rintro i hi rfl; omega)) e6) e23) e25) e26)⟩
        ·
          have hva : Cn.valid a = true := by simpa using c40
          refine C.skip ?_
          refine hK24 _ _ ?_
          refine C.seqK fun K28 hK28 => ?_
          refine C.region ?_
          refine O.loadOA Tryz.isAgg28 Tryz.sizeOf28 rfl ((((((h2.keep e3).keep e4).keepM e5 (by intro h; (try dsimp only at h); omega)).keep e6).keep e23).keep e25) (Nat.le_of_ble_eq_true rfl) ?_
          refine O.call Tryz.call22 (args1 rfl) (rbytes_spec va1 va2 va3 a F _ (hav.keep (Ext.trans (Ext.trans (Ext.trans (Ext.new (Ext.trans (Ext.trans e1 e3) e4) e5 (by rintro i hi rfl; omega)) e6) e23) e25)) (hac.keep (Ext.trans (Ext.trans (Ext.trans (Ext.new (Ext.trans (Ext.trans e1 e3) e4) e5 (by rintro i hi rfl; omega)) e6) e23) e25)) (hai.keep (Ext.trans (Ext.trans (Ext.trans (Ext.new (Ext.trans (Ext.trans e1 e3) e4) e5 (by rintro i hi rfl; omega)) e6) e23) e25)) (fun j hj => by have q1 := hF j hj; omega) hn hS hp hq) ?_
          rintro v_43 w27 ⟨e27, h43⟩
          have z27 := e27.size
          have h43s := h43.sl
          have h43b := h43.bk_ge
          refine O.asg ?_
          refine O.nil ?_
          refine hK28 _ _ ?_
          refine C.seqK fun K29 hK29 => ?_
          refine C.seqK fun K30 hK30 => ?_
          refine C.draw (by kernel_rfl) fun w28 e28 => ?_
          have z28 := e28.size
          refine D.take (i := 0) rfl rfl rfl rfl (by kernel_rfl) (Le.refl _) ⟨pure _, rfl⟩ (fun w_ hw_ N_ hN => (O.mv (O.nil hN))) ?_
          refine D.take (i := 1) rfl rfl rfl rfl (by kernel_rfl) (Le.refl _) ⟨_, rfl⟩ (fun w_ hw_ N_ hN => (O.loadOA Tryz.isAgg28 Tryz.sizeOf28 rfl (((((((((h2.keep e3).keep e4).keepM e5 (by intro h; (try dsimp only at h); omega)).keep e6).keep e23).keep e25).keep e27).keep e28).keep hw_) (Nat.le_of_ble_eq_true rfl) (O.nil hN))) ?_
          refine D.one (i := 2) rfl rfl (by kernel_rfl) ?_
          refine O.call Tryz.call35 (args3 rfl rfl rfl) (isY_spec v_43 (Cn.bytes a) (bk v_43) va1 va2 va3 a F _ (h43s.keep e28) (by omega) (fun j hj => by have q1 := ((h43.keep e28)).bk_ge j hj; omega) (mx.keep (Ext.trans (Ext.trans (Ext.trans (Ext.trans (Ext.trans (Ext.new (Ext.trans (Ext.trans e1 e3) e4) e5 (by rintro i hi rfl; omega)) e6) e23) e25) e27) e28)) (hav.keep (Ext.trans (Ext.trans (Ext.trans (Ext.trans (Ext.trans (Ext.new (Ext.trans (Ext.trans e1 e3) e4) e5 (by rintro i hi rfl; omega)) e6) e23) e25) e27) e28)) (hac.keep (Ext.trans (Ext.trans (Ext.trans (Ext.trans (Ext.trans (Ext.new (Ext.trans (Ext.trans e1 e3) e4) e5 (by rintro i hi rfl; omega)) e6) e23) e25) e27) e28)) (hai.keep (Ext.trans (Ext.trans (Ext.trans (Ext.trans (Ext.trans (Ext.new (Ext.trans (Ext.trans e1 e3) e4) e5 (by rintro i hi rfl; omega)) e6) e23) e25) e27) e28)) (fun j hj => by have q1 := hF j hj; omega) (Cn.is_bytes hva)) ?_
          rintro v_46 w29 ⟨rfl, e29⟩
          have z29 := e29.size
          refine O.nil ⟨e29, ?_⟩
          refine D.take (i := 3) rfl rfl rfl rfl (by kernel_rfl) e29 ⟨_, rfl⟩ (fun w_ hw_ N_ hN => (O.not rfl (O.cast (v' := .bool false) rfl (O.nil hN)))) ?_
          refine D.take (i := 4) rfl rfl rfl rfl (by kernel_rfl) e29 ⟨pure _, rfl⟩ (fun w_ hw_ N_ hN => (O.mv (O.nil hN))) ?_
          refine D.takeYes (i := 5) rfl rfl rfl (by kernel_rfl) rfl rfl e29 ⟨pure _, rfl⟩ (fun w_ hw_ N_ hN => (O.mv (O.nil hN))) ?_
          refine D.takeYes (i := 7) rfl rfl rfl (by kernel_rfl) rfl rfl e29 ⟨pure _, rfl⟩ (fun w_ hw_ N_ hN => (O.mv (O.nil hN))) ?_
          refine D.takeYes (i := 9) rfl rfl rfl (by kernel_rfl) rfl rfl e29 ⟨_, rfl⟩ (fun w_ hw_ N_ hN => (O.loadOA Tryz.isAgg28 Tryz.sizeOf28 rfl (((((((((h2.keep e3).keep e4).keepM e5 (by intro h; (try dsimp only at h); omega)).keep e6).keep e23).keep e25).keep e27).keep e28).keep hw_) (Nat.le_of_ble_eq_true rfl) (O.nil hN))) ?_
          refine D.takeYes (i := 10) rfl rfl rfl (by kernel_rfl) rfl rfl e29 ⟨pure _, rfl⟩ (fun w_ hw_ N_ hN => (O.mv (O.nil hN))) ?_
          refine D.takeYes (i := 11) rfl rfl rfl (by kernel_rfl) rfl rfl e29 len_form (fun w_ hw_ N_ hN => (O.len Tryz.underlying32 rfl ((h43s.keep e28).keep hw_) (O.nil hN))) ?_
          refine D.oneYes (i := 6) rfl rfl rfl (by kernel_rfl) ?_
          refine O.appF (G := byteF) Tryz.underlying32 ti5 tz5 ts5 rfl rfl rfl (OwnF.nil _ _ _ _) ((h43s.keep e28).keep e29) (by rw [tb5]; simp; omega) (by unfold maxLen; simp; omega) (by omega) (fun v50 w30 h50 e30 => ?_)
          replace e30 : Le w29 w30 := e30.mono (fun _ _ h => h)
          have z30 := e30.size
          have h50s := h50.sl
          refine O.nil ⟨(Ext.trans e29 e30), ?_⟩
          refine D.oneYes (i := 8) rfl rfl rfl (by kernel_rfl) ?_
          refine O.appF (G := byteF) Tryz.underlying32 ti5 tz5 ts5 rfl rfl rfl h50 (hl.keep (Ext.trans (Ext.trans (Ext.trans (Ext.trans (Ext.trans (Ext.trans (Ext.trans (Ext.new (Ext.trans (Ext.trans e1 e3) e4) e5 (by rintro i hi rfl; omega)) e6) e23) e25) e27) e28) e29) e30)) (by rw [tb5]; simp; omega) (by unfold maxLen; simp; omega) (by omega) (fun v52 w31 h52 e31 => ?_)
          have z31 := e31.size
          have h52s := h52.sl
          refine O.nil ⟨(Ext.new (Ext.trans e29 e30) e31 (by intro i hi h; have := h50.bk_ge i h; omega)), ?_⟩
          refine D.oneYes (i := 12) rfl rfl rfl (by kernel_rfl) ?_
          refine O.call Tryz.call36 (args4 rfl rfl rfl rfl) (begins_spec v52 _ (bk v52) va1 va2 va3 a F (Cn.bytes a).length 0 _ h52s (by simp; omega) (fun j hj => by have q1 := (h52).bk_ge j hj; omega) (mx.keep (Ext.new (Ext.trans (Ext.trans (Ext.trans (Ext.trans (Ext.trans (Ext.trans (Ext.trans (Ext.new (Ext.trans (Ext.trans e1 e3) e4) e5 (by rintro i hi rfl; omega)) e6) e23) e25) e27) e28) e29) e30) e31 (by intro i hi h; have := h50.bk_ge i h; omega))) (hav.keep (Ext.new (Ext.trans (Ext.trans (Ext.trans (Ext.trans (Ext.trans (Ext.trans (Ext.trans (Ext.new (Ext.trans (Ext.trans e1 e3) e4) e5 (by rintro i hi rfl; omega)) e6) e23) e25) e27) e28) e29) e30) e31 (by intro i hi h; have := h50.bk_ge i h; omega))) (hac.keep (Ext.new (Ext.trans (Ext.trans (Ext.trans (Ext.trans (Ext.trans (Ext.trans (Ext.trans (Ext.new (Ext.trans (Ext.trans e1 e3) e4) e5 (by rintro i hi rfl; omega)) e6) e23) e25) e27) e28) e29) e30) e31 (by intro i hi h; have := h50.bk_ge i h; omega))) (hai.keep (Ext.new (Ext.trans (Ext.trans (Ext.trans (Ext.trans (Ext.trans (Ext.trans (Ext.trans (Ext.new (Ext.trans (Ext.trans e1 e3) e4) e5 (by rintro i hi rfl; omega)) e6) e23) e25) e27) e28) e29) e30) e31 (by intro i hi h; have := h50.bk_ge i h; omega))) (fun j hj => by have q1 := hF j hj; omega) (Cn.begins_bytes hva)) ?_
          rintro v_56 w32 ⟨rfl, e32⟩
          have z32 := e32.size
          refine O.nil ⟨(Ext.trans (Ext.new (Ext.trans e29 e30) e31 (by intro i hi h; have := h50.bk_ge i h; omega)) e32), ?_⟩
          refine D.takeYes (i := 13) rfl rfl rfl (by kernel_rfl) rfl rfl (Ext.trans (Ext.new (Ext.trans e29 e30) e31 (by intro i hi h; have := h50.bk_ge i h; omega)) e32) ⟨_, rfl⟩ (fun w_ hw_ N_ hN => (O.not rfl (O.cast (v' := .bool false) rfl (O.nil hN)))) ?_
          refine D.take (i := 14) rfl rfl rfl rfl (by kernel_rfl) (Ext.trans (Ext.new (Ext.trans e29 e30) e31 (by intro i hi h; have := h50.bk_ge i h; omega)) e32) pick_form (fun w_ hw_ N_ hN => (O.pickF rfl (O.nil hN))) ?_
          refine D.done (by kernel_rfl) ?_
          refine hK30 _ _ ?_
          refine C.condF rfl ?_
          refine C.skip ?_
          refine hK29 _ _ ?_
          refine C.seqK fun K31 hK31 => ?_
          refine C.seqK fun K32 hK32 => ?_
          refine C.region ?_
          refine O.asg ?_
          refine O.nil ?_
          refine hK32 _ _ ?_
          refine C.block fun K33 hK33 => ?_
          refine C.loop0 (σ := Nat) (fun f0 w0 i f w => f 8 = .int .i64 ((i : Int)) ∧ f 7 = f0 7 ∧ Le w0 w ∧ i ≤ (Cn.bytes a).length) (fun i => (Cn.bytes a).length - i) 0 ?_ ?_
          ·
            refine ⟨rfl, rfl, Le.refl _, ?_⟩
            exact Nat.zero_le _
          ·
            rintro i f_2 w33 ⟨s8_2, s7_2, e_2, hi⟩
            have z_2 := e_2.size
            refine C.seqK fun K34 hK34 => ?_
            refine C.seqK fun K35 hK35 => ?_
            refine C.region ?_
            refine O.mv ?_
            refine O.mv ?_
            refine O.len Tryz.underlying32 s7_2 ((((((h43s.keep e28).keep e29).keep e30).keepM e31 (fun j hj h => by have q1 := h43b j hj; have q2 := h50.bk_ge j h; omega)).keep e32).keep e_2) ?_
            refine O.lssI s8_2 rfl ?_
            refine O.nil ?_
            refine hK35 _ _ ?_
            refine C.condD rfl (fun c62 => ?_) (fun c62 => ?_)
            ·
              have hi2 : i < (Cn.bytes a).length := by omega
              refine C.skip ?_
              refine hK34 _ _ ?_
              refine C.seqK fun K36 hK36 => ?_
              refine C.block fun K37 hK37 => ?_
              refine C.seqK fun K38 hK38 => ?_
              refine C.region ?_
              refine O.mv ?_
              refine O.mv ?_
              have hb67 := Sl.sub (P := Tryz.prog) (0) (i) Tryz.underlying32 Tryz.sizeOf5 (by rfl) ((((((h43s.keep e28).keep e29).keep e30).keepM e31 (fun j hj h => by have q1 := h43b j hj; have q2 := h50.bk_ge j h; omega)).keep e32).keep e_2) (Nat.zero_le _) (by omega)
              obtain ⟨v67, hs67, hr67⟩ := hb67
              refine O.subR s7_2 hr67 (.inl ⟨rfl, rfl⟩) (.inr ⟨_, _, rfl, s8_2⟩) ?_
              refine O.build (cells := #[.slice none 0 0, .slice none 0 0, .slice none 0 0]) rfl (by kernel_rfl) ?_
              refine O.call Tryz.call35 (args3 rfl rfl rfl) (isN_spec v67 ((Cn.bytes a).take i) (bk v_43) (.slice none 0 0) (.slice none 0 0) (.slice none 0 0) Cn.nil0 (fun _ => False) _ hs67 (by rw [List.length_take]; omega) (fun j hj => by have q1 := h43b j hj; omega) (mx.keep (Ext.trans (Ext.trans (Ext.new (Ext.trans (Ext.trans (Ext.trans (Ext.trans (Ext.trans (Ext.trans (Ext.trans (Ext.new (Ext.trans (Ext.trans e1 e3) e4) e5 (by rintro i hi rfl; omega)) e6) e23) e25) e27) e28) e29) e30) e31 (by intro i hi h; have := h50.bk_ge i h; omega)) e32) e_2)) (Sl.nil _ _ _) (Sl.nil _ _ _) (Sl.nil _ _ _) (fun _ h => h.elim) (Cn.take_is hva hi2)) ?_
              rintro v_69 w34 ⟨rfl, e34⟩
              have z34 := e34.size
              refine O.not rfl ?_
              refine O.cast (v' := .bool false) rfl ?_
              refine O.mv ?_
              refine O.yes rfl rfl ?_
              refine O.mv ?_
              refine O.yes rfl rfl ?_
              refine O.mv ?_
              refine O.yes rfl rfl ?_
              have hb74 := Sl.sub (P := Tryz.prog) (0) (i) Tryz.underlying32 Tryz.sizeOf5 (by rfl) (((((((h43s.keep e28).keep e29).keep e30).keepM e31 (fun j hj h => by have q1 := h43b j hj; have q2 := h50.bk_ge j h; omega)).keep e32).keep e_2).keep e34) (Nat.zero_le _) (by omega)
              obtain ⟨v74, hs74, hr74⟩ := hb74
              refine O.subR s7_2 hr74 (.inl ⟨rfl, rfl⟩) (.inr ⟨_, _, rfl, s8_2⟩) ?_
              refine O.yes rfl rfl ?_
              refine O.build (cells := #[.slice none 0 0, .slice none 0 0, .slice none 0 0]) rfl (by kernel_rfl) ?_
              refine O.yes rfl rfl ?_
              refine O.call Tryz.call36 (args4 rfl rfl rfl rfl) (begins_spec v74 ((Cn.bytes a).take i) (bk v_43) (.slice none 0 0) (.slice none 0 0) (.slice none 0 0) Cn.nil0 (fun _ => False) 0 12 _ hs74 (by rw [List.length_take]; omega) (fun j hj => by have q1 := h43b j hj; omega) (mx.keep (Ext.trans (Ext.trans (Ext.trans (Ext.new (Ext.trans (Ext.trans (Ext.trans (Ext.trans (Ext.trans (Ext.trans (Ext.trans (Ext.new (Ext.trans (Ext.trans e1 e3) e4) e5 (by rintro i hi rfl; omega)) e6) e23) e25) e27) e28) e29) e30) e31 (by intro i hi h; have := h50.bk_ge i h; omega)) e32) e_2) e34)) (Sl.nil _ _ _) (Sl.nil _ _ _) (Sl.nil _ _ _) (fun _ h => h.elim) (Cn.take_begins hva hi2)) ?_
              rintro v_76 w35 ⟨rfl, e35⟩
              have z35 := e35.size
              refine O.yes rfl rfl ?_
              refine O.not rfl ?_
              refine O.cast (v' := .bool false) rfl ?_
              refine O.pickF rfl ?_
              refine O.nil ?_
              refine hK38 _ _ ?_
              refine C.condF rfl ?_
              refine C.skip ?_
              refine hK37 _ _ ?_
              refine hK36 _ _ ?_
              refine C.region ?_
              refine O.mv ?_
              refine O.addI s8_2 rfl (by unfold InI; omega) ?_
              refine O.asg ?_
              refine O.nil ?_
              refine ⟨(i + 1), ⟨rfl, s7_2, (Ext.trans (Ext.trans e_2 e34) e35), ?_⟩, by first | omega | (simp only []; omega)⟩
              omega
            ·
              refine C.exit ?_
              refine hK33 _ _ ?_
              refine hK31 _ _ ?_
              refine C.seqK fun K39 hK39 => ?_
              refine C.region ?_
              refine O.call Tryz.call29 (argsN) (wknown_spec _ (mx.keep (Ext.trans (Ext.trans (Ext.new (Ext.trans (Ext.trans (Ext.trans (Ext.trans (Ext.trans (Ext.trans (Ext.trans (Ext.new (Ext.trans (Ext.trans e1 e3) e4) e5 (by rintro i hi rfl; omega)) e6) e23) e25) e27) e28) e29) e30) e31 (by intro i hi h; have := h50.bk_ge i h; omega)) e32) e_2))) ?_
              rintro v_79 w36 ⟨rfl, e36⟩
              have z36 := e36.size
              refine O.asg ?_
              refine O.nil ?_
              refine hK39 _ _ ?_
              refine C.ret ?_
              refine Outs.one rfl rfl ?_
              exact ⟨rfl, (Ext.trans (Ext.trans (Ext.trans (Ext.new (Ext.trans (Ext.trans (Ext.trans (Ext.trans (Ext.trans (Ext.trans (Ext.trans (Ext.new (Ext.trans (Ext.trans e1 e3) e4) e5 (by rintro i hi rfl; omega)) e6) e23) e25) e27) e28) e29) e30) e31 (by intro i hi h; have := h50.bk_ge i h; omega)) e32) e_2) e36)⟩

end Go.Proofs.YtnkcmaoaagnopaaGreatDoor
end
