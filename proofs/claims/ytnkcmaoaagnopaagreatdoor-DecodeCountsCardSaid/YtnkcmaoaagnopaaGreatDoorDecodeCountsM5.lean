/-
  The walks that read parts of a cart. Conditions: slices as they lie in memory.
-/
import Derived.Test.YtnkcmaoaagnopaaGreatDoorDecodeCountsM4
import Derived.Test.YtnkcmaoaagnopaaGreatDoorDecodeCountsM2
section
namespace Go.Proofs.YtnkcmaoaagnopaaGreatDoor
open Go.Pn Go.RowKit Go.Proofs
attribute [local irreducible] O C D

theorem Mx.keepM {M : Nat → Prop} {w w' : World} (h : Mx w) (e : Ext M w w') (hM : ¬ M 0) : Mx w' := by obtain ⟨m, hm⟩ := h.h; exact ⟨m, hm.keepM e hM⟩
theorem Mx.lt {w : World} (h : Mx w) : 0 < w.heap.size := by obtain ⟨m, hm⟩ := h.h; exact hm.lt
theorem must_spec (e : Int) (w : World) :
    RetZ Tryz.prog 105 #[.int .i64 (e)] w (fun v w' => v = .tuple #[] ∧ e = 0 ∧ Le w w') (fun ch w' => ch = [{ v := .iface 150 (.agg #[]), recovered := false }] ∧ e ≠ 0 ∧ Le w w') := by
  refine enterZ (args := [.int .i64 (e)]) (n := 6) Tryz.func105 rfl rfl (Nat.le_of_ble_eq_true rfl) ?_
  refine C.seqK fun K1 hK1 => ?_
  refine C.region ?_
  refine O.mv ?_
  refine O.neqI rfl rfl ?_
  refine O.nil ?_
  refine hK1 _ _ ?_
  refine C.condD rfl (fun c3 => ?_) (fun c3 => ?_)
  ·
    refine C.region ?_
    refine O.build (cells := #[]) rfl (by kernel_rfl) ?_
    refine O.mkI Tryz.underlying150 rfl rfl ?_
    refine O.panics rfl ?_
    exact ⟨rfl, c3, (Le.refl _)⟩
  ·
    refine C.skip ?_
    refine Outs.none rfl ?_
    exact ⟨rfl, by omega, (Le.refl _)⟩

theorem num_spec (b : Nat) (vr : Value) (l : List UInt8) (k : Nat) (F : Nat → Prop) (most : BitVec 64) (w : World) (ho : Own w b 152 [.bool true, vr, .int .i64 ((k : Int))]) (hl : Sl byteE w F vr l) (hk : k ≤ l.length) (hF : ∀ j, F j → j ≠ b ∧ j < w.heap.size) (hL : l.length ≤ 1000000) :
    RetZ Tryz.prog 108 #[.pointer (some ⟨b, 0, none⟩), .int .u64 ((most).toNat : Int)] w (fun v w' => ∃ (n : BitVec 64) (k' : Nat), v = .int .u64 (n.toNat : Int) ∧ Own w' b 152 [.bool true, vr, .int .i64 ((k' : Int))] ∧ n.toNat ≤ most.toNat ∧ Cn.SegN n l k k' ∧ Ext (fun j => j = b) w w') (fun ch w' => ch = [{ v := .iface 150 (.agg #[]), recovered := false }] ∧ Cn.NumQ most.toNat l k ∧ Ext (fun j => j = b) w w') := by
  have _hF9 := hF
  have _hk9 := hk
  have hbl := ho.lt
  have hll := hl.le
  refine enterZ (args := [.pointer (some ⟨b, 0, none⟩), .int .u64 ((most).toNat : Int)]) (n := 16) Tryz.func108 rfl rfl (Nat.le_of_ble_eq_true rfl) ?_
  refine C.seqK fun K1 hK1 => ?_
  refine C.region ?_
  refine O.asg ?_
  refine O.nil ?_
  refine hK1 _ _ ?_
  refine C.seqK fun K2 hK2 => ?_
  refine C.region ?_
  refine O.mv ?_
  refine O.mv ?_
  refine O.call Tryz.call123 (args2 rfl rfl) (rdNum_spec b vr l k F most _ ho hl hk (fun j hj => by have q1 := hF j hj; omega) hL) ?_
  rintro v_10 w1 ⟨nv10, env10, knv10, rfl, hov10, hcv10, e1⟩
  have z1 := e1.size
  refine O.mv ?_
  refine O.extract rfl rfl ?_
  refine O.extract rfl rfl ?_
  refine O.asg ?_
  refine O.asg ?_
  refine O.nil ?_
  refine hK2 _ _ ?_
  refine C.seqK fun K3 hK3 => ?_
  refine C.region ?_
  refine O.mv ?_
  refine O.callZ Tryz.call105 (args1 rfl) (must_spec _ _) (fun ch_ wz_ hz_ => ?_) ?_
  ·
    rcases hcv10 with ⟨q1, _⟩ | ⟨q1, q2, q3, q4⟩
    · exact absurd q1 hz_.2.1
    · exact ⟨hz_.1, q4, Ext.trans (Ext.new (Ext.refl _ _) e1 (by intro i hi hk; first | exact hk.elim | ((try dsimp only at hk); (try dsimp only); omega))) (Le.to hz_.2.2)⟩
  rintro v_14 w2 ⟨rfl, hzv14, e2⟩
  have z2 := e2.size
  refine O.nil ?_
  refine hK3 _ _ ?_
  refine C.seqK fun K4 hK4 => ?_
  refine C.region ?_
  refine O.mv ?_
  refine O.asg ?_
  refine O.nil ?_
  refine hK4 _ _ ?_
  refine C.ret ?_
  refine Outs.one rfl rfl ?_
  rcases hcv10 with ⟨q1, q2, q3⟩ | ⟨q1, _⟩
  · exact ⟨nv10, knv10, rfl, (hov10.keep e2), q2, q3, (Ext.new (Ext.new (Ext.refl _ _) e1 (by intro i hi hk; first | exact hk.elim | ((try dsimp only at hk); (try dsimp only); omega))) e2 (by intro i hi hk; first | exact hk.elim | ((try dsimp only at hk); (try dsimp only); omega)))⟩
  · exfalso; omega

theorem one_spec (b : Nat) (vr : Value) (l : List UInt8) (k : Nat) (F : Nat → Prop) (w : World) (ho : Own w b 152 [.bool true, vr, .int .i64 ((k : Int))]) (hl : Sl byteE w F vr l) (hk : k ≤ l.length) (hF : ∀ j, F j → j ≠ b ∧ j < w.heap.size) (hL : l.length ≤ 1000000) :
    RetZ Tryz.prog 125 #[.pointer (some ⟨b, 0, none⟩)] w (fun v w' => ∃ (d : Dt.Dot) (k' : Nat), v = Dt.dv d ∧ Own w' b 152 [.bool true, vr, .int .i64 ((k' : Int))] ∧ Cn.dotQ d ∧ Cn.Seg (Cn.dotB d) l k k' ∧ Ext (fun j => j = b) w w') (fun ch w' => ch = [{ v := .iface 150 (.agg #[]), recovered := false }] ∧ Cn.No Cn.dotQ Cn.dotB l k ∧ Ext (fun j => j = b) w w') := by
  have _hF9 := hF
  have _hk9 := hk
  have hbl := ho.lt
  have hll := hl.le
  refine enterZ (args := [.pointer (some ⟨b, 0, none⟩)]) (n := 12) Tryz.func125 rfl rfl (Nat.le_of_ble_eq_true rfl) ?_
  refine C.seqK fun K1 hK1 => ?_
  refine C.region ?_
  refine O.alloc Tryz.zeroValue51 (fun b2 w1 hb2 hz2 e1 => ?_)
  have z1 := e1.size
  have h2 := hz2.own
  have hl2 := h2.lt
  refine O.nil ?_
  refine hK1 _ _ ?_
  refine C.seqK fun K2 hK2 => ?_
  refine C.region ?_
  refine O.mv ?_
  refine O.callZ Tryz.call108 (args2 rfl rfl) (num_spec b vr l k F 65535#64 _ (ho.keep e1) (hl.keep e1) hk (fun j hj => by have q1 := hF j hj; omega) hL) (fun ch_ wz_ hz_ => ?_) ?_
  ·
    exact ⟨hz_.1, Cn.no_dot1 hz_.2.1, Ext.trans (Ext.new (Ext.refl _ _) e1 (by intro i hi hk; first | exact hk.elim | ((try dsimp only at hk); (try dsimp only); omega))) hz_.2.2⟩
  rintro v_5 w2 ⟨nv5, knv5, rfl, hov5, hqv5, hsv5, e2⟩
  have z2 := e2.size
  refine O.asg ?_
  refine O.nil ?_
  refine hK2 _ _ ?_
  refine C.seqK fun K3 hK3 => ?_
  refine C.region ?_
  refine O.mv ?_
  refine O.convU64I Tryz.underlying49 Tryz.underlying3 rfl ?_
  refine O.mv ?_
  refine O.callZ Tryz.call108 (args2 rfl rfl) (num_spec b vr l knv5 F 4294967295#64 _ hov5 ((hl.keep e1).keepM e2 (by intro k hk h; first | (have q1 := hF k hk; (try dsimp only at h); omega) | ((try dsimp only at hk); (try dsimp only at h); omega))) hsv5.2.2 (fun j hj => by have q1 := hF j hj; omega) hL) (fun ch_ wz_ hz_ => ?_) ?_
  ·
    exact ⟨hz_.1, Cn.no_dot2 hsv5 hqv5 hz_.2.1, Ext.trans (Ext.new (Ext.new (Ext.refl _ _) e1 (by intro i hi hk; first | exact hk.elim | ((try dsimp only at hk); (try dsimp only); omega))) e2 (by intro i hi hk; first | exact hk.elim | ((try dsimp only at hk); (try dsimp only); omega))) hz_.2.2⟩
  rintro v_9 w3 ⟨nv9, knv9, rfl, hov9, hqv9, hsv9, e3⟩
  have z3 := e3.size
  refine O.convU64I Tryz.underlying49 Tryz.underlying3 rfl ?_
  refine O.build (cells := #[.int .i64 nv5.toInt, .int .i64 nv9.toInt]) rfl (by kernel_rfl) ?_
  refine O.storeA (vs := [.int .i64 nv5.toInt, .int .i64 nv9.toInt]) Tryz.sizeOf51 rfl rfl rfl (by simp [Value.oneCell']) ((h2.keepM e2 (by intro h; (try dsimp only at h); omega)).keepM e3 (by intro h; (try dsimp only at h); omega)) (Nat.le_of_ble_eq_true rfl) (fun w4 hs4 e4 z4 => ?_)
  refine O.nil ?_
  refine hK3 _ _ ?_
  refine C.ret ?_
  refine Outs.cellA rfl Tryz.isAgg51 Tryz.sizeOf51 rfl hs4 rfl ?_
  exact ⟨(nv5.toInt, nv9.toInt), knv9, rfl, (hov9.keepM e4 (by intro h; (try dsimp only at h); omega)), Cn.dotQ_mk hqv5 hqv9, Cn.seg_dot hsv5 hsv9, (Ext.new (Ext.new (Ext.new (Ext.new (Ext.refl _ _) e1 (by intro i hi hk; first | exact hk.elim | ((try dsimp only at hk); (try dsimp only); omega))) e2 (by intro i hi hk; first | exact hk.elim | ((try dsimp only at hk); (try dsimp only); omega))) e3 (by intro i hi hk; first | exact hk.elim | ((try dsimp only at hk); (try dsimp only); omega))) e4 (by intro i hi hk; first | exact hk.elim | ((try dsimp only at hk); (try dsimp only); omega)))⟩

set_option maxHeartbeats 1000000 in
theorem ddots_spec (b : Nat) (vr : Value) (l : List UInt8) (k : Nat) (F : Nat → Prop) (w : World) (ho : Own w b 152 [.bool true, vr, .int .i64 ((k : Int))]) (hl : Sl byteE w F vr l) (hk : k ≤ l.length) (hF : ∀ j, F j → j ≠ b ∧ j < w.heap.size) (hL : l.length ≤ 1000000) :
    RetZ Tryz.prog 121 #[.pointer (some ⟨b, 0, none⟩)] w (fun v w' => ∃ (ds : List Dt.Dot) (k' : Nat), Own w' b 152 [.bool true, vr, .int .i64 ((k' : Int))] ∧ Fre Dt.dotF 51 w' (fun j => w.heap.size ≤ j ∧ j < w'.heap.size) v ds ∧ ds.length ≤ l.length ∧ Cn.manyQ Cn.dotQ ds ∧ Cn.Seg (Cn.manyB Cn.dotB ds) l k k' ∧ Ext (fun j => j = b) w w') (fun ch w' => ch = [{ v := .iface 150 (.agg #[]), recovered := false }] ∧ Cn.No (Cn.manyQ Cn.dotQ) (Cn.manyB Cn.dotB) l k ∧ Ext (fun j => j = b) w w') := by
  have _hF9 := hF
  have _hk9 := hk
  have hbl := ho.lt
  have hll := hl.le
  obtain ⟨ie51, ti51, ts51, tb51, tz51⟩ := inf51
  refine enterZ (args := [.pointer (some ⟨b, 0, none⟩)]) (n := 17) Tryz.func121 rfl rfl (Nat.le_of_ble_eq_true rfl) ?_
  refine C.seqK fun K1 hK1 => ?_
  refine C.region ?_
  refine O.asg ?_
  refine O.nil ?_
  refine hK1 _ _ ?_
  refine C.seqK fun K2 hK2 => ?_
  refine C.region ?_
  refine O.asg ?_
  refine O.nil ?_
  refine hK2 _ _ ?_
  refine C.seqK fun K3 hK3 => ?_
  refine C.seqK fun K4 hK4 => ?_
  refine C.region ?_
  refine O.mv ?_
  refine O.callZ Tryz.call108 (args2 rfl rfl) (num_spec b vr l k F 18446744073709551615#64 _ ho hl hk (fun j hj => by have q1 := hF j hj; omega) hL) (fun ch_ wz_ hz_ => ?_) ?_
  ·
    exact ⟨hz_.1, Cn.no_many1 (Cn.numA_of hz_.2.1 (by decide)) Cn.dotB_ge (by omega), Ext.trans (Ext.refl _ _) hz_.2.2⟩
  rintro v_6 w1 ⟨nv6, knv6, rfl, hov6, hqv6, hsv6, e1⟩
  have z1 := e1.size
  refine O.asg ?_
  refine O.nil ?_
  refine hK4 _ _ ?_
  refine C.block fun K5 hK5 => ?_
  refine C.loop0 (σ := List Dt.Dot × Value × Nat) (fun f0 w0 ⟨ds, vs, kc⟩ f wz => f 3 = vs ∧ f 4 = .int .u64 ((BitVec.ofNat 64 (nv6.toNat - ds.length)).toNat : Int) ∧ f 0 = f0 0 ∧ f 2 = f0 2 ∧ Ext (fun j => j = b) w wz ∧ Own wz b 152 [.bool true, vr, .int .i64 ((kc : Int))] ∧ OwnF Dt.dotF 51 w.heap.size wz vs ds ∧ ds.length ≤ nv6.toNat ∧ Cn.manyQ Cn.dotQ ds ∧ Cn.Seg (ds.flatMap Cn.dotB) l knv6 kc) (fun ⟨ds, vs, kc⟩ => nv6.toNat - ds.length) ([], .slice none 0 0, knv6) ?_ ?_
  ·
    refine ⟨rfl, (Eq.trans rfl (congrArg (fun q : BitVec 64 => Value.int .u64 (q.toNat : Int)) (by simp))), rfl, rfl, (Ext.new (Ext.refl _ _) e1 (by intro i hi hk; first | exact hk.elim | ((try dsimp only at hk); (try dsimp only); omega))), hov6, (OwnF.nil _ _ _ _), ?_⟩
    exact ⟨Nat.zero_le _, Cn.manyQ_nil, Cn.Seg.nil hsv6.2.2⟩
  ·
    rintro ⟨ds, vs, kc⟩ f_1 w2 ⟨s3_1, s4_1, s0_1, s2_1, e_1, r0_1, r1_1, ⟨hj, hQ, hS⟩⟩
    have z_1 := e_1.size
    have r1_1s := r1_1.sl
    have hln := Cn.seg_len Cn.dotB_ge hS
    have hNl := nv6.isLt
    refine C.seqK fun K6 hK6 => ?_
    refine C.seqK fun K7 hK7 => ?_
    refine C.region ?_
    refine O.mv ?_
    refine O.gtrU (m := 64) (b := 0#64) s4_1 rfl ?_
    refine O.nil ?_
    refine hK7 _ _ ?_
    refine C.condD rfl (fun c8 => ?_) (fun c8 => ?_)
    ·
      have hj2 : ds.length < nv6.toNat := by have q := (Cn.pos_ofNat (m := nv6.toNat - ds.length) (by omega)).1 c8; omega
      refine C.skip ?_
      refine hK6 _ _ ?_
      refine C.seqK fun K8 hK8 => ?_
      refine C.block fun K9 hK9 => ?_
      refine C.region ?_
      refine O.mv ?_
      refine O.mv ?_
      refine O.callZ Tryz.call125 (args1 s0_1) (one_spec b vr l kc F _ r0_1 (hl.keepM e_1 (by intro k hk h; first | (have q1 := hF k hk; (try dsimp only at h); omega) | ((try dsimp only at hk); (try dsimp only at h); omega))) hS.2.2 (fun j hj => by have q1 := hF j hj; omega) hL) (fun ch_ wz_ hz_ => ?_) ?_
      ·
        exact ⟨hz_.1, Cn.no_many2 hsv6 Cn.pre_dotQ hQ hS hj2 hz_.2.1, Ext.trans (Ext.new (Ext.refl _ _) e_1 (by intro i hi hk; first | exact hk.elim | ((try dsimp only at hk); (try dsimp only); omega))) hz_.2.2⟩
      rintro v_13 w3 ⟨dv13, knv13, rfl, hov13, hqv13, hsv13, e3⟩
      have z3 := e3.size
      refine O.litG (G := Dt.dotF) [dv13] Tryz.underlying22 ti51 ts51 tz51 rfl (by decide) (by decide) rfl (fun b14 w4 hb14 hz14 e4 => ?_)
      have z4 := e4.size
      have h14 := hz14.own
      have hq14 := Sl.litG (n := 1) h14 rfl (by unfold maxLen; omega)
      refine O.appF (G := Dt.dotF) Tryz.underlying22 ti51 tz51 ts51 rfl s3_1 rfl ((r1_1.keepM e3 (fun k hk h => by have := r1_1.bk_ge k hk; (try dsimp only at h); omega)).keep e4) hq14 (by rw [tb51]; simp; omega) (by unfold maxLen; simp; omega) (by omega) (fun v15 w5 h15 e5 => ?_)
      have e5m : Ext (fun j => w.heap.size ≤ j) w4 w5 := e5.mono (fun j _ hj => by have := ((r1_1.keepM e3 (fun k hk h => by have := r1_1.bk_ge k hk; (try dsimp only at h); omega)).keep e4).bk_ge j hj; omega)
      have z5 := e5.size
      have h15s := h15.sl
      refine O.asg ?_
      refine O.nil ?_
      refine hK9 _ _ ?_
      refine hK8 _ _ ?_
      refine C.region ?_
      refine O.mv ?_
      refine O.subU (m := 64) (b := 1#64) rfl rfl s4_1 rfl ?_
      refine O.asg ?_
      refine O.nil ?_
      refine ⟨(ds ++ [dv13], v15, knv13), ⟨rfl, (Eq.trans rfl (congrArg (fun q : BitVec 64 => Value.int .u64 (q.toNat : Int)) (by rw [Cn.dec_ofNat (by omega) (by omega), List.length_append]; rfl))), s0_1, s2_1, (Ext.new (Ext.new (Ext.new (Ext.new (Ext.refl _ _) e_1 (by intro i hi hk; first | exact hk.elim | ((try dsimp only at hk); (try dsimp only); omega))) e3 (by intro i hi hk; first | exact hk.elim | ((try dsimp only at hk); (try dsimp only); omega))) e4 (by intro i hi hk; first | exact hk.elim | ((try dsimp only at hk); (try dsimp only); omega))) e5m (by intro i hi hk; first | exact hk.elim | ((try dsimp only at hk); (try dsimp only); omega))), ((hov13.keep e4).keepM e5 (by intro h; have := ((r1_1.keepM e3 (fun k hk h => by have := r1_1.bk_ge k hk; (try dsimp only at h); omega)).keep e4).bk_ge _ h; omega)), h15, ?_⟩, by show nv6.toNat - (ds ++ [dv13]).length < nv6.toNat - ds.length; rw [List.length_append]; show nv6.toNat - (ds.length + 1) < _; omega⟩
      exact ⟨by rw [List.length_append]; exact hj2, Cn.manyQ_snoc hQ hqv13, Cn.Seg.snoc hS hsv13⟩
    ·
      have hj3 : ds.length = nv6.toNat := by have q := mt (Cn.pos_ofNat (m := nv6.toNat - ds.length) (by omega)).2 c8; omega
      refine C.exit ?_
      refine hK5 _ _ ?_
      refine hK3 _ _ ?_
      refine C.seqK fun K10 hK10 => ?_
      refine C.region ?_
      refine O.mv ?_
      refine O.asg ?_
      refine O.nil ?_
      refine hK10 _ _ ?_
      refine C.ret ?_
      refine Outs.one rfl s3_1 ?_
      exact ⟨ds, kc, r0_1, (r1_1).fre (fun j hj => by have := (r1_1).bk_ge j hj; exact ⟨by omega, by omega⟩), by omega, hQ, Cn.seg_many hsv6 hS hj3, (Ext.new (Ext.refl _ _) e_1 (by intro i hi hk; first | exact hk.elim | ((try dsimp only at hk); (try dsimp only); omega)))⟩

set_option maxHeartbeats 1000000 in
theorem dseen_spec (b : Nat) (vr : Value) (l : List UInt8) (k : Nat) (F : Nat → Prop) (w : World) (ho : Own w b 152 [.bool true, vr, .int .i64 ((k : Int))]) (hl : Sl byteE w F vr l) (hk : k ≤ l.length) (hF : ∀ j, F j → j ≠ b ∧ j < w.heap.size) (hL : l.length ≤ 1000000) :
    RetZ Tryz.prog 104 #[.pointer (some ⟨b, 0, none⟩)] w (fun v w' => ∃ (v1 v2 : Value) (x : Cn.Ctx) (k' : Nat), v = .agg #[v1, v2] ∧ Own w' b 152 [.bool true, vr, .int .i64 ((k' : Int))] ∧ Fre Dt.dotF 51 w' (fun j => w.heap.size ≤ j ∧ j < w'.heap.size) v1 x.1 ∧ Fre Dt.dotF 51 w' (fun j => w.heap.size ≤ j ∧ j < w'.heap.size) v2 x.2 ∧ (x.1.length ≤ l.length ∧ x.2.length ≤ l.length) ∧ Cn.isCompact x = true ∧ Cn.Seg (Cn.ctxB x) l k k' ∧ Ext (fun j => j = b) w w') (fun ch w' => ch = [{ v := .iface 150 (.agg #[]), recovered := false }] ∧ Cn.No Cn.comp Cn.ctxB l k ∧ Ext (fun j => j = b) w w') := by
  have _hF9 := hF
  have _hk9 := hk
  have hbl := ho.lt
  have hll := hl.le
  refine enterZ (args := [.pointer (some ⟨b, 0, none⟩)]) (n := 16) Tryz.func104 rfl rfl (Nat.le_of_ble_eq_true rfl) ?_
  refine C.seqK fun K1 hK1 => ?_
  refine C.region ?_
  refine O.alloc Tryz.zeroValue25 (fun b2 w1 hb2 hz2 e1 => ?_)
  have z1 := e1.size
  have h2 := hz2.own
  have hl2 := h2.lt
  refine O.nil ?_
  refine hK1 _ _ ?_
  refine C.seqK fun K2 hK2 => ?_
  refine C.region ?_
  refine O.mv ?_
  refine O.callZ Tryz.call121 (args1 rfl) (ddots_spec b vr l k F _ (ho.keep e1) (hl.keep e1) hk (fun j hj => by have q1 := hF j hj; omega) hL) (fun ch_ wz_ hz_ => ?_) ?_
  ·
    exact ⟨hz_.1, Cn.no_comp (Cn.no_ctx1 hz_.2.1), Ext.trans (Ext.new (Ext.refl _ _) e1 (by intro i hi hk; first | exact hk.elim | ((try dsimp only at hk); (try dsimp only); omega))) hz_.2.2⟩
  rintro v_5 w2 ⟨dsv5, knv5, hov5, hlv5, hnv5, hqv5, hsv5, e2⟩
  have z2 := e2.size
  obtain ⟨p5, rfl⟩ := hlv5.slv
  have hls5 := hlv5.sl
  refine O.build (cells := #[slv p5, .slice none 0 0]) rfl (by kernel_rfl) ?_
  refine O.alloc Tryz.zeroValue25 (fun b3 w3 hb3 hz3 e3 => ?_)
  have z3 := e3.size
  have h3 := hz3.own
  have hl3 := h3.lt
  refine O.storeA (vs := [slv p5, .slice none 0 0]) Tryz.sizeOf25 rfl rfl rfl (by simp [slv, Value.oneCell']) h3 (Nat.le_of_ble_eq_true rfl) (fun w4 hs4 e4 z4 => ?_)
  refine O.nil ?_
  refine hK2 _ _ ?_
  refine C.seqK fun K3 hK3 => ?_
  refine C.region ?_
  refine O.mv ?_
  refine O.callZ Tryz.call121 (args1 rfl) (ddots_spec b vr l knv5 F _ ((hov5.keep e3).keepM e4 (by intro h; (try dsimp only at h); omega)) ((((hl.keep e1).keepM e2 (by intro k hk h; first | (have q1 := hF k hk; (try dsimp only at h); omega) | ((try dsimp only at hk); (try dsimp only at h); omega))).keep e3).keepM e4 (by intro k hk h; first | (have q1 := hF k hk; (try dsimp only at h); omega) | (have q1 := hF2 k hk; (try dsimp only at h); omega) | (have q1 := hFb k hk; (try dsimp only at h); omega) | ((try dsimp only at hk); (try dsimp only at h); omega))) hsv5.2.2 (fun j hj => by have q1 := hF j hj; omega) hL) (fun ch_ wz_ hz_ => ?_) ?_
  ·
    exact ⟨hz_.1, Cn.no_comp (Cn.no_ctx2 hsv5 hqv5 hz_.2.1), Ext.trans (Ext.new (Ext.new (Ext.new (Ext.new (Ext.refl _ _) e1 (by intro i hi hk; first | exact hk.elim | ((try dsimp only at hk); (try dsimp only); omega))) e2 (by intro i hi hk; first | exact hk.elim | ((try dsimp only at hk); (try dsimp only); omega))) e3 (by intro i hi hk; first | exact hk.elim | ((try dsimp only at hk); (try dsimp only); omega))) e4 (by intro i hi hk; first | exact hk.elim | ((try dsimp only at hk); (try dsimp only); omega))) hz_.2.2⟩
  rintro v_8 w5 ⟨dsv8, knv8, hov8, hlv8, hnv8, hqv8, hsv8, e5⟩
  have z5 := e5.size
  obtain ⟨p8, rfl⟩ := hlv8.slv
  have hls8 := hlv8.sl
  refine O.fieldAd Tryz.underlying25 rfl Tryz.sizeOf22 (by decide) rfl ?_
  refine O.store Tryz.sizeOf22 rfl rfl rfl (hs4.keepM e5 (by intro h; (try dsimp only at h); omega)) (by simp) (fun w6 hs6 e6 z6 => ?_)
  try simp only [Nat.zero_add] at hs6
  refine O.nil ?_
  refine hK3 _ _ ?_
  refine C.seqK fun K4 hK4 => ?_
  refine C.seqK fun K5 hK5 => ?_
  refine C.region ?_
  refine O.loadOA Tryz.isAgg25 Tryz.sizeOf25 rfl hs6 (Nat.le_of_ble_eq_true rfl) ?_
  refine O.call Tryz.call17 (args1 rfl) (isCompact_spec (slv p5) (slv p8) (dsv5, dsv8) (fun _ => True) _ ((((((hls5.keep e3).keepM e4 (by intro k hk h; first | (have q1 := hF k hk; (try dsimp only at h); omega) | (have q1 := hF2 k hk; (try dsimp only at h); omega) | (have q1 := hFb k hk; (try dsimp only at h); omega) | ((try dsimp only at hk); (try dsimp only at h); omega))).keepM e5 (by intro k hk h; first | (have q1 := hF k hk; (try dsimp only at h); omega) | ((try dsimp only at hk); (try dsimp only at h); omega))).keepM e6 (by intro k hk h; first | (have q1 := hF k hk; (try dsimp only at h); omega) | (have q1 := hF2 k hk; (try dsimp only at h); omega) | (have q1 := hFb k hk; (try dsimp only at h); omega) | ((try dsimp only at hk); (try dsimp only at h); omega)))).weak fun _ _ => trivial) (((hls8.keepM e6 (by intro k hk h; first | (have q1 := hF k hk; (try dsimp only at h); omega) | (have q1 := hF2 k hk; (try dsimp only at h); omega) | (have q1 := hFb k hk; (try dsimp only at h); omega) | ((try dsimp only at hk); (try dsimp only at h); omega)))).weak fun _ _ => trivial)) ?_
  rintro v_11 w7 ⟨rfl, e7⟩
  have z7 := e7.size
  refine O.not rfl ?_
  refine O.nil ?_
  refine hK5 _ _ ?_
  refine C.cond rfl (fun c12 => ?_) (fun c12 => ?_)
  ·
    refine C.region ?_
    refine O.build (cells := #[]) rfl (by kernel_rfl) ?_
    refine O.mkI Tryz.underlying150 rfl rfl ?_
    refine O.panics rfl ?_
    exact ⟨rfl, Cn.no_comp3 (Cn.seg_ctx hsv5 hsv8) ⟨hqv5, hqv8⟩ (by simpa using c12), (Ext.new (Ext.new (Ext.new (Ext.new (Ext.new (Ext.new (Ext.new (Ext.refl _ _) e1 (by intro i hi hk; first | exact hk.elim | ((try dsimp only at hk); (try dsimp only); omega))) e2 (by intro i hi hk; first | exact hk.elim | ((try dsimp only at hk); (try dsimp only); omega))) e3 (by intro i hi hk; first | exact hk.elim | ((try dsimp only at hk); (try dsimp only); omega))) e4 (by intro i hi hk; first | exact hk.elim | ((try dsimp only at hk); (try dsimp only); omega))) e5 (by intro i hi hk; first | exact hk.elim | ((try dsimp only at hk); (try dsimp only); omega))) e6 (by intro i hi hk; first | exact hk.elim | ((try dsimp only at hk); (try dsimp only); omega))) e7 (by intro i hi hk; first | exact hk.elim | ((try dsimp only at hk); (try dsimp only); omega)))⟩
  ·
    refine C.skip ?_
    refine hK4 _ _ ?_
    refine C.seqK fun K6 hK6 => ?_
    refine C.region ?_
    refine O.loadOA Tryz.isAgg25 Tryz.sizeOf25 rfl (hs6.keep e7) (Nat.le_of_ble_eq_true rfl) ?_
    refine O.storeA (vs := [slv p5, slv p8]) Tryz.sizeOf25 rfl rfl rfl (by simp [slv, Value.oneCell']) ((((((h2.keepM e2 (by intro h; (try dsimp only at h); omega)).keep e3).keepM e4 (by intro h; (try dsimp only at h); omega)).keepM e5 (by intro h; (try dsimp only at h); omega)).keepM e6 (by intro h; (try dsimp only at h); omega)).keep e7) (Nat.le_of_ble_eq_true rfl) (fun w8 hs8 e8 z8 => ?_)
    refine O.nil ?_
    refine hK6 _ _ ?_
    refine C.ret ?_
    refine Outs.cellA rfl Tryz.isAgg25 Tryz.sizeOf25 rfl hs8 rfl ?_
    exact ⟨slv p5, slv p8, (dsv5, dsv8), knv8, rfl, (((hov8.keepM e6 (by intro h; (try dsimp only at h); omega)).keep e7).keepM e8 (by intro h; (try dsimp only at h); omega)), (((((((hlv5.keep e3).keepM e4 (by intro k hk h; first | (have q1 := hF k hk; (try dsimp only at h); omega) | (have q1 := hF2 k hk; (try dsimp only at h); omega) | (have q1 := hFb k hk; (try dsimp only at h); omega) | ((try dsimp only at hk); (try dsimp only at h); omega))).keepM e5 (by intro k hk h; first | (have q1 := hF k hk; (try dsimp only at h); omega) | ((try dsimp only at hk); (try dsimp only at h); omega))).keepM e6 (by intro k hk h; first | (have q1 := hF k hk; (try dsimp only at h); omega) | (have q1 := hF2 k hk; (try dsimp only at h); omega) | (have q1 := hFb k hk; (try dsimp only at h); omega) | ((try dsimp only at hk); (try dsimp only at h); omega))).keep e7).keepM e8 (by intro k hk h; first | (have q1 := hF k hk; (try dsimp only at h); omega) | (have q1 := hF2 k hk; (try dsimp only at h); omega) | (have q1 := hFb k hk; (try dsimp only at h); omega) | ((try dsimp only at hk); (try dsimp only at h); omega)))).weak (by intro j hj; (try dsimp only at hj); (try dsimp only); omega), ((((hlv8.keepM e6 (by intro k hk h; first | (have q1 := hF k hk; (try dsimp only at h); omega) | (have q1 := hF2 k hk; (try dsimp only at h); omega) | (have q1 := hFb k hk; (try dsimp only at h); omega) | ((try dsimp only at hk); (try dsimp only at h); omega))).keep e7).keepM e8 (by intro k hk h; first | (have q1 := hF k hk; (try dsimp only at h); omega) | (have q1 := hF2 k hk; (try dsimp only at h); omega) | (have q1 := hFb k hk; (try dsimp only at h); omega) | ((try dsimp only at hk); (try dsimp only at h); omega)))).weak (by intro j hj; (try dsimp only at hj); (try dsimp only); omega), ⟨hnv5, hnv8⟩, by simpa using c12, Cn.seg_ctx hsv5 hsv8, (Ext.new (Ext.new (Ext.new (Ext.new (Ext.new (Ext.new (Ext.new (Ext.new (Ext.refl _ _) e1 (by intro i hi hk; first | exact hk.elim | ((try dsimp only at hk); (try dsimp only); omega))) e2 (by intro i hi hk; first | exact hk.elim | ((try dsimp only at hk); (try dsimp only); omega))) e3 (by intro i hi hk; first | exact hk.elim | ((try dsimp only at hk); (try dsimp only); omega))) e4 (by intro i hi hk; first | exact hk.elim | ((try dsimp only at hk); (try dsimp only); omega))) e5 (by intro i hi hk; first | exact hk.elim | ((try dsimp only at hk); (try dsimp only); omega))) e6 (by intro i hi hk; first | exact hk.elim | ((try dsimp only at hk); (try dsimp only); omega))) e7 (by intro i hi hk; first | exact hk.elim | ((try dsimp only at hk); (try dsimp only); omega))) e8 (by intro i hi hk; first | exact hk.elim | ((try dsimp only at hk); (try dsimp only); omega)))⟩

set_option maxHeartbeats 2000000 in
theorem ditem_spec (b : Nat) (vr : Value) (l : List UInt8) (k : Nat) (F : Nat → Prop) (w : World) (ho : Own w b 152 [.bool true, vr, .int .i64 ((k : Int))]) (hl : Sl byteE w F vr l) (hk : k ≤ l.length) (hF : ∀ j, F j → j ≠ b ∧ j < w.heap.size) (hL : l.length ≤ 1000000) :
    RetZ Tryz.prog 109 #[.pointer (some ⟨b, 0, none⟩)] w (fun v w' => ∃ (s : List UInt8) (vm : Value) (ms : List MarkT) (k' : Nat), v = .agg #[str s, vm] ∧ Own w' b 152 [.bool true, vr, .int .i64 ((k' : Int))] ∧ Fre markF 53 w' (fun j => w.heap.size ≤ j ∧ j < w'.heap.size) vm ms ∧ ms.length ≤ l.length ∧ Cn.itemQ (s, ms) ∧ Cn.Seg (Cn.itemB (s, ms)) l k k' ∧ Ext (fun j => j = b) w w') (fun ch w' => ch = [{ v := .iface 150 (.agg #[]), recovered := false }] ∧ Cn.No Cn.itemQ Cn.itemB l k ∧ Ext (fun j => j = b) w w') := by
  have _hF9 := hF
  have _hk9 := hk
  have hbl := ho.lt
  have hll := hl.le
  obtain ⟨ie53, ti53, ts53, tb53, tz53⟩ := inf53
  refine enterZ (args := [.pointer (some ⟨b, 0, none⟩)]) (n := 40) Tryz.func109 rfl rfl (Nat.le_of_ble_eq_true rfl) ?_
  refine C.seqK fun K1 hK1 => ?_
  refine C.region ?_
  refine O.alloc Tryz.zeroValue56 (fun b2 w1 hb2 hz2 e1 => ?_)
  have z1 := e1.size
  have h2 := hz2.own
  have hl2 := h2.lt
  refine O.nil ?_
  refine hK1 _ _ ?_
  refine C.seqK fun K2 hK2 => ?_
  refine C.region ?_
  refine O.mv ?_
  refine O.call Tryz.call124 (args2 rfl rfl) (rdStr_spec b vr l k F 64 _ (ho.keep e1) (hl.keep e1) hk (fun j hj => by have q1 := hF j hj; omega) hL (by unfold InI; omega)) ?_
  rintro v_10 w2 ⟨nv10, env10, knv10, rfl, hov10, hcv10, e2⟩
  have z2 := e2.size
  refine O.mv ?_
  refine O.extract rfl rfl ?_
  refine O.extract rfl rfl ?_
  refine O.asg ?_
  refine O.asg ?_
  refine O.nil ?_
  refine hK2 _ _ ?_
  refine C.seqK fun K3 hK3 => ?_
  refine C.region ?_
  refine O.mv ?_
  refine O.callZ Tryz.call105 (args1 rfl) (must_spec _ _) (fun ch_ wz_ hz_ => ?_) ?_
  ·
    rcases hcv10 with ⟨q1, _⟩ | ⟨q1, q2, q4⟩
    · exact absurd q1 hz_.2.1
    · exact ⟨hz_.1, Cn.no_item1 q4, Ext.trans (Ext.new (Ext.new (Ext.refl _ _) e1 (by intro i hi hk; first | exact hk.elim | ((try dsimp only at hk); (try dsimp only); omega))) e2 (by intro i hi hk; first | exact hk.elim | ((try dsimp only at hk); (try dsimp only); omega))) (Le.to hz_.2.2)⟩
  rintro v_14 w3 ⟨rfl, hzv14, e3⟩
  have z3 := e3.size
  obtain ⟨q1, hnm, hsg10⟩ : env10 = 0 ∧ Cn.nameQ nv10 ∧ Cn.Seg (Cn.strB nv10) l k knv10 := by
    rcases hcv10 with ⟨q1, q2, q3⟩ | ⟨q1, _⟩
    · exact ⟨q1, q2, q3⟩
    · exfalso; omega
  refine O.nil ?_
  refine hK3 _ _ ?_
  refine C.seqK fun K4 hK4 => ?_
  refine C.region ?_
  refine O.mv ?_
  refine O.build (cells := #[str nv10, .slice none 0 0]) rfl (by kernel_rfl) ?_
  refine O.alloc Tryz.zeroValue56 (fun b5 w4 hb5 hz5 e4 => ?_)
  have z4 := e4.size
  have h5 := hz5.own
  have hl5 := h5.lt
  refine O.storeA (vs := [str nv10, .slice none 0 0]) Tryz.sizeOf56 rfl rfl rfl (ones2 rfl) h5 (Nat.le_of_ble_eq_true rfl) (fun w5 hs5 e5 z5 => ?_)
  refine O.nil ?_
  refine hK4 _ _ ?_
  refine C.seqK fun K5 hK5 => ?_
  refine C.seqK fun K6 hK6 => ?_
  refine C.region ?_
  refine O.mv ?_
  refine O.callZ Tryz.call108 (args2 rfl rfl) (num_spec b vr l knv10 F 18446744073709551615#64 _ (((hov10.keep e3).keep e4).keepM e5 (by intro h; (try dsimp only at h); omega)) (((((hl.keep e1).keepM e2 (by intro k hk h; first | (have q1 := hF k hk; (try dsimp only at h); omega) | ((try dsimp only at hk); (try dsimp only at h); omega))).keep e3).keep e4).keepM e5 (by intro k hk h; first | (have q1 := hF k hk; (try dsimp only at h); omega) | (have q1 := hF2 k hk; (try dsimp only at h); omega) | (have q1 := hFb k hk; (try dsimp only at h); omega) | ((try dsimp only at hk); (try dsimp only at h); omega))) hsg10.2.2 (fun j hj => by have q1 := hF j hj; omega) hL) (fun ch_ wz_ hz_ => ?_) ?_
  ·
    exact ⟨hz_.1, Cn.no_item2 hsg10 hnm (Cn.no_many1 (Cn.numA_of hz_.2.1 (by decide)) Cn.markB_ge (by omega)), Ext.trans (Ext.new (Ext.new (Ext.new (Ext.new (Ext.new (Ext.refl _ _) e1 (by intro i hi hk; first | exact hk.elim | ((try dsimp only at hk); (try dsimp only); omega))) e2 (by intro i hi hk; first | exact hk.elim | ((try dsimp only at hk); (try dsimp only); omega))) e3 (by intro i hi hk; first | exact hk.elim | ((try dsimp only at hk); (try dsimp only); omega))) e4 (by intro i hi hk; first | exact hk.elim | ((try dsimp only at hk); (try dsimp only); omega))) e5 (by intro i hi hk; first | exact hk.elim | ((try dsimp only at hk); (try dsimp only); omega))) hz_.2.2⟩
  rintro v_18 w6 ⟨nv18, knv18, rfl, hov18, hqv18, hsv18, e6⟩
  have z6 := e6.size
  refine O.asg ?_
  refine O.nil ?_
  refine hK6 _ _ ?_
  refine C.block fun K7 hK7 => ?_
  refine C.loop0 (σ := List MarkT × Value × Nat) (fun f0 w0 ⟨ms, vm, kc⟩ f wz => f 6 = .int .u64 ((BitVec.ofNat 64 (nv18.toNat - ms.length)).toNat : Int) ∧ f 0 = f0 0 ∧ f 2 = f0 2 ∧ f 5 = f0 5 ∧ Ext (fun j => j = b) w wz ∧ Own wz b 152 [.bool true, vr, .int .i64 ((kc : Int))] ∧ Own wz b2 56 [str [], .slice none 0 0] ∧ Own wz b5 56 [str nv10, vm] ∧ OwnF markF 53 (b5 + 1) wz vm ms ∧ ms.length ≤ nv18.toNat ∧ Cn.manyQ Cn.markQ ms ∧ Cn.Seg (ms.flatMap Cn.markB) l knv18 kc) (fun ⟨ms, vm, kc⟩ => nv18.toNat - ms.length) ([], .slice none 0 0, knv18) ?_ ?_
  ·
    refine ⟨(Eq.trans rfl (congrArg (fun q : BitVec 64 => Value.int .u64 (q.toNat : Int)) (by simp))), rfl, rfl, rfl, (Ext.new (Ext.new (Ext.new (Ext.new (Ext.new (Ext.new (Ext.refl _ _) e1 (by intro i hi hk; first | exact hk.elim | ((try dsimp only at hk); (try dsimp only); omega))) e2 (by intro i hi hk; first | exact hk.elim | ((try dsimp only at hk); (try dsimp only); omega))) e3 (by intro i hi hk; first | exact hk.elim | ((try dsimp only at hk); (try dsimp only); omega))) e4 (by intro i hi hk; first | exact hk.elim | ((try dsimp only at hk); (try dsimp only); omega))) e5 (by intro i hi hk; first | exact hk.elim | ((try dsimp only at hk); (try dsimp only); omega))) e6 (by intro i hi hk; first | exact hk.elim | ((try dsimp only at hk); (try dsimp only); omega))), hov18, (((((h2.keepM e2 (by intro h; (try dsimp only at h); omega)).keep e3).keep e4).keepM e5 (by intro h; (try dsimp only at h); omega)).keepM e6 (by intro h; (try dsimp only at h); omega)), (hs5.keepM e6 (by intro h; (try dsimp only at h); omega)), (OwnF.nil _ _ _ _), ?_⟩
    exact ⟨Nat.zero_le _, Cn.manyQ_nil, Cn.Seg.nil hsv18.2.2⟩
  ·
    rintro ⟨ms, vm, kc⟩ f_1 w7 ⟨s6_1, s0_1, s2_1, s5_1, e_1, r0_1, r1_1, r2_1, r3_1, ⟨hj, hQ, hS⟩⟩
    have z_1 := e_1.size
    have r3_1s := r3_1.sl
    have hln := Cn.seg_len Cn.markB_ge hS
    have hNl := nv18.isLt
    have hvm1 := (r3_1).one
    have hbl5 := (r2_1).lt
    have hbl2 := (r1_1).lt
    refine C.seqK fun K8 hK8 => ?_
    refine C.seqK fun K9 hK9 => ?_
    refine C.region ?_
    refine O.mv ?_
    refine O.gtrU (m := 64) (b := 0#64) s6_1 rfl ?_
    refine O.nil ?_
    refine hK9 _ _ ?_
    refine C.condD rfl (fun c20 => ?_) (fun c20 => ?_)
    ·
      have hj2 : ms.length < nv18.toNat := by have q := (Cn.pos_ofNat (m := nv18.toNat - ms.length) (by omega)).1 c20; omega
      refine C.skip ?_
      refine hK8 _ _ ?_
      refine C.seqK fun K10 hK10 => ?_
      refine C.block fun K11 hK11 => ?_
      refine C.seqK fun K12 hK12 => ?_
      refine C.region ?_
      refine O.mv ?_
      refine O.callZ Tryz.call125 (args1 s0_1) (one_spec b vr l kc F _ r0_1 (hl.keepM e_1 (by intro k hk h; first | (have q1 := hF k hk; (try dsimp only at h); omega) | ((try dsimp only at hk); (try dsimp only at h); omega))) hS.2.2 (fun j hj => by have q1 := hF j hj; omega) hL) (fun ch_ wz_ hz_ => ?_) ?_
      ·
        exact ⟨hz_.1, Cn.no_item2 hsg10 hnm (Cn.no_many2 hsv18 Cn.pre_markQ hQ hS hj2 (Cn.no_mark1 hz_.2.1)), Ext.trans (Ext.new (Ext.refl _ _) e_1 (by intro i hi hk; first | exact hk.elim | ((try dsimp only at hk); (try dsimp only); omega))) hz_.2.2⟩
      rintro v_24 w8 ⟨dv24, knv24, rfl, hov24, hqv24, hsv24, e8⟩
      have z8 := e8.size
      refine O.build (cells := #[.int .i64 dv24.1, .int .i64 dv24.2, .int .i64 0, .int .u64 0]) rfl (by kernel_rfl) ?_
      refine O.alloc Tryz.zeroValue53 (fun b7 w9 hb7 hz7 e9 => ?_)
      have z9 := e9.size
      have h7 := hz7.own
      have hl7 := h7.lt
      refine O.storeA (vs := [.int .i64 dv24.1, .int .i64 dv24.2, .int .i64 0, .int .u64 0]) Tryz.sizeOf53 rfl rfl rfl (by simp [Value.oneCell']) h7 (Nat.le_of_ble_eq_true rfl) (fun w10 hs10 e10 z10 => ?_)
      refine O.nil ?_
      refine hK12 _ _ ?_
      refine C.seqK fun K13 hK13 => ?_
      refine C.region ?_
      refine O.mv ?_
      refine O.callZ Tryz.call108 (args2 s0_1 rfl) (num_spec b vr l knv24 F 2147483647#64 _ ((hov24.keep e9).keepM e10 (by intro h; (try dsimp only at h); omega)) ((((hl.keepM e_1 (by intro k hk h; first | (have q1 := hF k hk; (try dsimp only at h); omega) | ((try dsimp only at hk); (try dsimp only at h); omega))).keepM e8 (by intro k hk h; first | (have q1 := hF k hk; (try dsimp only at h); omega) | ((try dsimp only at hk); (try dsimp only at h); omega))).keep e9).keepM e10 (by intro k hk h; first | (have q1 := hF k hk; (try dsimp only at h); omega) | (have q1 := hF2 k hk; (try dsimp only at h); omega) | (have q1 := hFb k hk; (try dsimp only at h); omega) | ((try dsimp only at hk); (try dsimp only at h); omega))) hsv24.2.2 (fun j hj => by have q1 := hF j hj; omega) hL) (fun ch_ wz_ hz_ => ?_) ?_
      ·
        exact ⟨hz_.1, Cn.no_item2 hsg10 hnm (Cn.no_many2 hsv18 Cn.pre_markQ hQ hS hj2 (Cn.no_mark2 hsv24 hqv24 hz_.2.1)), Ext.trans (Ext.new (Ext.new (Ext.new (Ext.new (Ext.refl _ _) e_1 (by intro i hi hk; first | exact hk.elim | ((try dsimp only at hk); (try dsimp only); omega))) e8 (by intro i hi hk; first | exact hk.elim | ((try dsimp only at hk); (try dsimp only); omega))) e9 (by intro i hi hk; first | exact hk.elim | ((try dsimp only at hk); (try dsimp only); omega))) e10 (by intro i hi hk; first | exact hk.elim | ((try dsimp only at hk); (try dsimp only); omega))) hz_.2.2⟩
      rintro v_27 w11 ⟨nv27, knv27, rfl, hov27, hqv27, hsv27, e11⟩
      have z11 := e11.size
      refine O.convU64I Tryz.underlying49 Tryz.underlying3 rfl ?_
      refine O.fieldAd Tryz.underlying53 rfl Tryz.sizeOf3 (by decide) rfl ?_
      refine O.store Tryz.sizeOf3 rfl rfl rfl (hs10.keepM e11 (by intro h; (try dsimp only at h); omega)) (by simp) (fun w12 hs12 e12 z12 => ?_)
      try simp only [Nat.zero_add] at hs12
      refine O.nil ?_
      refine hK13 _ _ ?_
      refine C.seqK fun K14 hK14 => ?_
      refine C.region ?_
      refine O.mv ?_
      refine O.callZ Tryz.call108 (args2 s0_1 rfl) (num_spec b vr l knv27 F 18446744073709551615#64 _ (hov27.keepM e12 (by intro h; (try dsimp only at h); omega)) ((((((hl.keepM e_1 (by intro k hk h; first | (have q1 := hF k hk; (try dsimp only at h); omega) | ((try dsimp only at hk); (try dsimp only at h); omega))).keepM e8 (by intro k hk h; first | (have q1 := hF k hk; (try dsimp only at h); omega) | ((try dsimp only at hk); (try dsimp only at h); omega))).keep e9).keepM e10 (by intro k hk h; first | (have q1 := hF k hk; (try dsimp only at h); omega) | (have q1 := hF2 k hk; (try dsimp only at h); omega) | (have q1 := hFb k hk; (try dsimp only at h); omega) | ((try dsimp only at hk); (try dsimp only at h); omega))).keepM e11 (by intro k hk h; first | (have q1 := hF k hk; (try dsimp only at h); omega) | ((try dsimp only at hk); (try dsimp only at h); omega))).keepM e12 (by intro k hk h; first | (have q1 := hF k hk; (try dsimp only at h); omega) | (have q1 := hF2 k hk; (try dsimp only at h); omega) | (have q1 := hFb k hk; (try dsimp only at h); omega) | ((try dsimp only at hk); (try dsimp only at h); omega))) hsv27.2.2 (fun j hj => by have q1 := hF j hj; omega) hL) (fun ch_ wz_ hz_ => ?_) ?_
      ·
        exact ⟨hz_.1, Cn.no_item2 hsg10 hnm (Cn.no_many2 hsv18 Cn.pre_markQ hQ hS hj2 (Cn.no_mark3 hsv24 hqv24 hsv27 hqv27 (Cn.numA_of hz_.2.1 (by decide)))), Ext.trans (Ext.new (Ext.new (Ext.new (Ext.new (Ext.new (Ext.new (Ext.refl _ _) e_1 (by intro i hi hk; first | exact hk.elim | ((try dsimp only at hk); (try dsimp only); omega))) e8 (by intro i hi hk; first | exact hk.elim | ((try dsimp only at hk); (try dsimp only); omega))) e9 (by intro i hi hk; first | exact hk.elim | ((try dsimp only at hk); (try dsimp only); omega))) e10 (by intro i hi hk; first | exact hk.elim | ((try dsimp only at hk); (try dsimp only); omega))) e11 (by intro i hi hk; first | exact hk.elim | ((try dsimp only at hk); (try dsimp only); omega))) e12 (by intro i hi hk; first | exact hk.elim | ((try dsimp only at hk); (try dsimp only); omega))) hz_.2.2⟩
      rintro v_31 w13 ⟨nv31, knv31, rfl, hov31, hqv31, hsv31, e13⟩
      have z13 := e13.size
      refine O.fieldAd Tryz.underlying53 rfl Tryz.sizeOf49 (by decide) rfl ?_
      refine O.store Tryz.sizeOf49 rfl rfl rfl (hs12.keepM e13 (by intro h; (try dsimp only at h); omega)) (by simp) (fun w14 hs14 e14 z14 => ?_)
      try simp only [Nat.zero_add] at hs14
      refine O.nil ?_
      refine hK14 _ _ ?_
      refine C.region ?_
      refine O.fieldAd Tryz.underlying56 rfl Tryz.sizeOf54 (by decide) s5_1 ?_
      refine O.loadO Tryz.isAgg54 rfl (((((((r2_1.keepM e8 (by intro h; (try dsimp only at h); omega)).keep e9).keepM e10 (by intro h; (try dsimp only at h); omega)).keepM e11 (by intro h; (try dsimp only at h); omega)).keepM e12 (by intro h; (try dsimp only at h); omega)).keepM e13 (by intro h; (try dsimp only at h); omega)).keepM e14 (by intro h; (try dsimp only at h); omega)) rfl ?_
      refine O.loadOA Tryz.isAgg53 Tryz.sizeOf53 rfl hs14 (Nat.le_of_ble_eq_true rfl) ?_
      refine O.cast (v' := mv (dv24, nv27.toInt, nv31)) rfl ?_
      refine O.litG (G := markF) [(dv24, nv27.toInt, nv31)] Tryz.underlying54 ti53 ts53 tz53 rfl (by decide) (by decide) rfl (fun b36 w15 hb36 hz36 e15 => ?_)
      have z15 := e15.size
      have h36 := hz36.own
      have hq36 := Sl.litG (n := 1) h36 rfl (by unfold maxLen; omega)
      refine O.appF (G := markF) Tryz.underlying54 ti53 tz53 ts53 rfl rfl rfl ((((((((r3_1.keepM e8 (fun k hk h => by have := r3_1.bk_ge k hk; (try dsimp only at h); omega)).keep e9).keepM e10 (fun k hk h => by have := r3_1.bk_ge k hk; (try dsimp only at h); omega)).keepM e11 (fun k hk h => by have := r3_1.bk_ge k hk; (try dsimp only at h); omega)).keepM e12 (fun k hk h => by have := r3_1.bk_ge k hk; (try dsimp only at h); omega)).keepM e13 (fun k hk h => by have := r3_1.bk_ge k hk; (try dsimp only at h); omega)).keepM e14 (fun k hk h => by have := r3_1.bk_ge k hk; (try dsimp only at h); omega)).keep e15) hq36 (by rw [tb53]; simp; omega) (by unfold maxLen; simp; omega) (by omega) (fun v37 w16 h37 e16 => ?_)
      have e16m : Ext (fun j => w.heap.size ≤ j) w15 w16 := e16.mono (fun j _ hj => by have := ((((((((r3_1.keepM e8 (fun k hk h => by have := r3_1.bk_ge k hk; (try dsimp only at h); omega)).keep e9).keepM e10 (fun k hk h => by have := r3_1.bk_ge k hk; (try dsimp only at h); omega)).keepM e11 (fun k hk h => by have := r3_1.bk_ge k hk; (try dsimp only at h); omega)).keepM e12 (fun k hk h => by have := r3_1.bk_ge k hk; (try dsimp only at h); omega)).keepM e13 (fun k hk h => by have := r3_1.bk_ge k hk; (try dsimp only at h); omega)).keepM e14 (fun k hk h => by have := r3_1.bk_ge k hk; (try dsimp only at h); omega)).keep e15).bk_ge j hj; omega)
      have z16 := e16.size
      have h37s := h37.sl
      refine O.fieldAd Tryz.underlying56 rfl Tryz.sizeOf54 (by decide) s5_1 ?_
      refine O.store Tryz.sizeOf54 rfl rfl h37.one (((((((((r2_1.keepM e8 (by intro h; (try dsimp only at h); omega)).keep e9).keepM e10 (by intro h; (try dsimp only at h); omega)).keepM e11 (by intro h; (try dsimp only at h); omega)).keepM e12 (by intro h; (try dsimp only at h); omega)).keepM e13 (by intro h; (try dsimp only at h); omega)).keepM e14 (by intro h; (try dsimp only at h); omega)).keep e15).keepM e16 (by intro h; have := ((((((((r3_1.keepM e8 (fun k hk h => by have := r3_1.bk_ge k hk; (try dsimp only at h); omega)).keep e9).keepM e10 (fun k hk h => by have := r3_1.bk_ge k hk; (try dsimp only at h); omega)).keepM e11 (fun k hk h => by have := r3_1.bk_ge k hk; (try dsimp only at h); omega)).keepM e12 (fun k hk h => by have := r3_1.bk_ge k hk; (try dsimp only at h); omega)).keepM e13 (fun k hk h => by have := r3_1.bk_ge k hk; (try dsimp only at h); omega)).keepM e14 (fun k hk h => by have := r3_1.bk_ge k hk; (try dsimp only at h); omega)).keep e15).bk_ge _ h; omega)) (by simp) (fun w17 hs17 e17 z17 => ?_)
      try simp only [Nat.zero_add] at hs17
      refine O.nil ?_
      refine hK11 _ _ ?_
      refine hK10 _ _ ?_
      refine C.region ?_
      refine O.mv ?_
      refine O.subU (m := 64) (b := 1#64) rfl rfl s6_1 rfl ?_
      refine O.asg ?_
      refine O.nil ?_
      refine ⟨(ms ++ [(dv24, nv27.toInt, nv31)], v37, knv31), ⟨(Eq.trans rfl (congrArg (fun q : BitVec 64 => Value.int .u64 (q.toNat : Int)) (by rw [Cn.dec_ofNat (by omega) (by omega), List.length_append]; rfl))), s0_1, s2_1, s5_1, (Ext.new (Ext.new (Ext.new (Ext.new (Ext.new (Ext.new (Ext.new (Ext.new (Ext.new (Ext.new (Ext.new (Ext.refl _ _) e_1 (by intro i hi hk; first | exact hk.elim | ((try dsimp only at hk); (try dsimp only); omega))) e8 (by intro i hi hk; first | exact hk.elim | ((try dsimp only at hk); (try dsimp only); omega))) e9 (by intro i hi hk; first | exact hk.elim | ((try dsimp only at hk); (try dsimp only); omega))) e10 (by intro i hi hk; first | exact hk.elim | ((try dsimp only at hk); (try dsimp only); omega))) e11 (by intro i hi hk; first | exact hk.elim | ((try dsimp only at hk); (try dsimp only); omega))) e12 (by intro i hi hk; first | exact hk.elim | ((try dsimp only at hk); (try dsimp only); omega))) e13 (by intro i hi hk; first | exact hk.elim | ((try dsimp only at hk); (try dsimp only); omega))) e14 (by intro i hi hk; first | exact hk.elim | ((try dsimp only at hk); (try dsimp only); omega))) e15 (by intro i hi hk; first | exact hk.elim | ((try dsimp only at hk); (try dsimp only); omega))) e16m (by intro i hi hk; first | exact hk.elim | ((try dsimp only at hk); (try dsimp only); omega))) e17 (by intro i hi hk; first | exact hk.elim | ((try dsimp only at hk); (try dsimp only); omega))), ((((hov31.keepM e14 (by intro h; (try dsimp only at h); omega)).keep e15).keepM e16 (by intro h; have := ((((((((r3_1.keepM e8 (fun k hk h => by have := r3_1.bk_ge k hk; (try dsimp only at h); omega)).keep e9).keepM e10 (fun k hk h => by have := r3_1.bk_ge k hk; (try dsimp only at h); omega)).keepM e11 (fun k hk h => by have := r3_1.bk_ge k hk; (try dsimp only at h); omega)).keepM e12 (fun k hk h => by have := r3_1.bk_ge k hk; (try dsimp only at h); omega)).keepM e13 (fun k hk h => by have := r3_1.bk_ge k hk; (try dsimp only at h); omega)).keepM e14 (fun k hk h => by have := r3_1.bk_ge k hk; (try dsimp only at h); omega)).keep e15).bk_ge _ h; omega)).keepM e17 (by intro h; (try dsimp only at h); omega)), ((((((((((r1_1.keepM e8 (by intro h; (try dsimp only at h); omega)).keep e9).keepM e10 (by intro h; (try dsimp only at h); omega)).keepM e11 (by intro h; (try dsimp only at h); omega)).keepM e12 (by intro h; (try dsimp only at h); omega)).keepM e13 (by intro h; (try dsimp only at h); omega)).keepM e14 (by intro h; (try dsimp only at h); omega)).keep e15).keepM e16 (by intro h; have := ((((((((r3_1.keepM e8 (fun k hk h => by have := r3_1.bk_ge k hk; (try dsimp only at h); omega)).keep e9).keepM e10 (fun k hk h => by have := r3_1.bk_ge k hk; (try dsimp only at h); omega)).keepM e11 (fun k hk h => by have := r3_1.bk_ge k hk; (try dsimp only at h); omega)).keepM e12 (fun k hk h => by have := r3_1.bk_ge k hk; (try dsimp only at h); omega)).keepM e13 (fun k hk h => by have := r3_1.bk_ge k hk; (try dsimp only at h); omega)).keepM e14 (fun k hk h => by have := r3_1.bk_ge k hk; (try dsimp only at h); omega)).keep e15).bk_ge _ h; omega)).keepM e17 (by intro h; (try dsimp only at h); omega)), hs17, (h37.keepM e17 (fun k hk h => by have := h37.bk_ge k hk; (try dsimp only at h); omega)), ?_⟩, by show nv18.toNat - (ms ++ [_]).length < nv18.toNat - ms.length; rw [List.length_append]; show nv18.toNat - (ms.length + 1) < _; omega⟩
      exact ⟨by rw [List.length_append]; exact hj2, Cn.manyQ_snoc hQ (Cn.markQ_mk hqv24 hqv27), Cn.Seg.snoc hS (Cn.seg_mark hsv24 hsv27 hsv31)⟩
    ·
      have hj3 : ms.length = nv18.toNat := by have q := mt (Cn.pos_ofNat (m := nv18.toNat - ms.length) (by omega)).2 c20; omega
      refine C.exit ?_
      refine hK7 _ _ ?_
      refine hK5 _ _ ?_
      refine C.seqK fun K15 hK15 => ?_
      refine C.region ?_
      refine O.loadOA Tryz.isAgg56 Tryz.sizeOf56 s5_1 r2_1 (Nat.le_of_ble_eq_true rfl) ?_
      refine O.storeA (vs := [str nv10, vm]) Tryz.sizeOf56 rfl s2_1 rfl (ones2 hvm1) r1_1 (Nat.le_of_ble_eq_true rfl) (fun w18 hs18 e18 z18 => ?_)
      refine O.nil ?_
      refine hK15 _ _ ?_
      refine C.ret ?_
      refine Outs.cellA rfl Tryz.isAgg56 Tryz.sizeOf56 s2_1 hs18 rfl ?_
      exact ⟨nv10, vm, ms, kc, rfl, (r0_1.keepM e18 (by intro h; (try dsimp only at h); omega)), ((r3_1.keepM e18 (fun k hk h => by have := r3_1.bk_ge k hk; (try dsimp only at h); omega))).fre (fun j hj => by have := ((r3_1.keepM e18 (fun k hk h => by have := r3_1.bk_ge k hk; (try dsimp only at h); omega))).bk_ge j hj; exact ⟨by omega, by omega⟩), by omega, Cn.itemQ_mk hnm hQ, Cn.seg_item hsg10 (Cn.seg_many hsv18 hS hj3), (Ext.new (Ext.new (Ext.refl _ _) e_1 (by intro i hi hk; first | exact hk.elim | ((try dsimp only at hk); (try dsimp only); omega))) e18 (by intro i hi hk; first | exact hk.elim | ((try dsimp only at hk); (try dsimp only); omega)))⟩

set_option maxHeartbeats 4000000 in
theorem dwhole_spec (b : Nat) (vr : Value) (l : List UInt8) (k : Nat) (F : Nat → Prop) (w : World) (ho : Own w b 152 [.bool true, vr, .int .i64 ((k : Int))]) (hl : Sl byteE w F vr l) (hk : k ≤ l.length) (hF : ∀ j, F j → j ≠ b ∧ j < w.heap.size) (hL : l.length ≤ 1000000) (mx : Mx w) (hgb : b ≠ 0) :
    RetZ Tryz.prog 84 #[.pointer (some ⟨b, 0, none⟩)] w (fun v w' => ∃ (v1 v2 v3 : Value) (c : Cn.Cart) (k' : Nat), v = .agg #[v1, v2, v3] ∧ Own w' b 152 [.bool true, vr, .int .i64 ((k' : Int))] ∧ Fre Dt.dotF 51 w' (fun j => w.heap.size ≤ j ∧ j < w'.heap.size) v1 c.1.1 ∧ Fre Dt.dotF 51 w' (fun j => w.heap.size ≤ j ∧ j < w'.heap.size) v2 c.1.2 ∧ SlI 56 53 w' (fun j => w.heap.size ≤ j ∧ j < w'.heap.size) v3 c.2 ∧ Cn.big c ∧ Cn.valid c = true ∧ Cn.Seg (Cn.bytes c) l k k' ∧ Ext (fun j => j = b) w w') (fun ch w' => ch = [{ v := .iface 150 (.agg #[]), recovered := false }] ∧ Cn.No Cn.val Cn.bytes l k ∧ Ext (fun j => j = b) w w') := by
  have _hF9 := hF
  have _hk9 := hk
  have hbl := ho.lt
  have hll := hl.le
  obtain ⟨ie56, ti56, ts56, tb56, tz56⟩ := inf56
  have hgl := mx.lt
  refine enterZ (args := [.pointer (some ⟨b, 0, none⟩)]) (n := 27) Tryz.func84 rfl rfl (Nat.le_of_ble_eq_true rfl) ?_
  refine C.seqK fun K1 hK1 => ?_
  refine C.region ?_
  refine O.alloc Tryz.zeroValue28 (fun b2 w1 hb2 hz2 e1 => ?_)
  have z1 := e1.size
  have h2 := hz2.own
  have hl2 := h2.lt
  refine O.nil ?_
  refine hK1 _ _ ?_
  refine C.seqK fun K2 hK2 => ?_
  refine C.region ?_
  refine O.mv ?_
  refine O.callZ Tryz.call104 (args1 rfl) (dseen_spec b vr l k F _ (ho.keep e1) (hl.keep e1) hk (fun j hj => by have q1 := hF j hj; omega) hL) (fun ch_ wz_ hz_ => ?_) ?_
  ·
    exact ⟨hz_.1, Cn.no_val (Cn.no_cart1 hz_.2.1), Ext.trans (Ext.new (Ext.refl _ _) e1 (by intro i hi hk; first | exact hk.elim | ((try dsimp only at hk); (try dsimp only); omega))) hz_.2.2⟩
  rintro v_6 w2 ⟨vav6, vbv6, xv6, knv6, rfl, hov6, hxv6, hyv6, hnv6, hcv6, hsv6, e2⟩
  have z2 := e2.size
  obtain ⟨p6, rfl⟩ := hxv6.slv
  obtain ⟨q6, rfl⟩ := hyv6.slv
  have hxs6 := hxv6.sl
  have hys6 := hyv6.sl
  refine O.build (cells := #[slv p6, slv q6, .slice none 0 0]) rfl (by kernel_rfl) ?_
  refine O.alloc Tryz.zeroValue28 (fun b3 w3 hb3 hz3 e3 => ?_)
  have z3 := e3.size
  have h3 := hz3.own
  have hl3 := h3.lt
  refine O.storeA (vs := [slv p6, slv q6, .slice none 0 0]) Tryz.sizeOf28 rfl rfl rfl (by simp [slv, Value.oneCell']) h3 (Nat.le_of_ble_eq_true rfl) (fun w4 hs4 e4 z4 => ?_)
  refine O.nil ?_
  refine hK2 _ _ ?_
  refine C.seqK fun K3 hK3 => ?_
  refine C.seqK fun K4 hK4 => ?_
  refine C.region ?_
  refine O.mv ?_
  refine O.callZ Tryz.call108 (args2 rfl rfl) (num_spec b vr l knv6 F 18446744073709551615#64 _ ((hov6.keep e3).keepM e4 (by intro h; (try dsimp only at h); omega)) ((((hl.keep e1).keepM e2 (by intro k hk h; first | (have q1 := hF k hk; (try dsimp only at h); omega) | ((try dsimp only at hk); (try dsimp only at h); omega))).keep e3).keepM e4 (by intro k hk h; first | (have q1 := hF k hk; (try dsimp only at h); omega) | (have q1 := hF2 k hk; (try dsimp only at h); omega) | (have q1 := hFb k hk; (try dsimp only at h); omega) | ((try dsimp only at hk); (try dsimp only at h); omega))) hsv6.2.2 (fun j hj => by have q1 := hF j hj; omega) hL) (fun ch_ wz_ hz_ => ?_) ?_
  ·
    exact ⟨hz_.1, Cn.no_val (Cn.no_cart2 hsv6 hcv6 (Cn.no_many1 (Cn.numA_of hz_.2.1 (by decide)) Cn.itemB_ge (by omega))), Ext.trans (Ext.new (Ext.new (Ext.new (Ext.new (Ext.refl _ _) e1 (by intro i hi hk; first | exact hk.elim | ((try dsimp only at hk); (try dsimp only); omega))) e2 (by intro i hi hk; first | exact hk.elim | ((try dsimp only at hk); (try dsimp only); omega))) e3 (by intro i hi hk; first | exact hk.elim | ((try dsimp only at hk); (try dsimp only); omega))) e4 (by intro i hi hk; first | exact hk.elim | ((try dsimp only at hk); (try dsimp only); omega))) hz_.2.2⟩
  rintro v_9 w5 ⟨nv9, knv9, rfl, hov9, hqv9, hsv9, e5⟩
  have z5 := e5.size
  refine O.asg ?_
  refine O.nil ?_
  refine hK4 _ _ ?_
  refine C.block fun K5 hK5 => ?_
  refine C.loop0 (σ := List ItemT × List (List UInt8 × (Option Addr × Nat × Nat)) × Value × Nat) (fun f0 w0 ⟨its, raw, o, kc⟩ f wz => f 4 = .int .u64 ((BitVec.ofNat 64 (nv9.toNat - its.length)).toNat : Int) ∧ f 0 = f0 0 ∧ f 2 = f0 2 ∧ f 3 = f0 3 ∧ Ext (fun j => j = b) w wz ∧ Own wz b 152 [.bool true, vr, .int .i64 ((kc : Int))] ∧ Own wz b2 28 [.slice none 0 0, .slice none 0 0, .slice none 0 0] ∧ Own wz b3 28 [slv p6, slv q6, o] ∧ OwnF itemF 56 (b3 + 1) wz o raw ∧ ItemsF 53 wz (fun j => b3 < j ∧ j < wz.heap.size ∧ ¬ bk o j) raw its ∧ Sl Dt.dotF.enc wz (fun j => b2 < j ∧ j < b3) (slv p6) xv6.1 ∧ Sl Dt.dotF.enc wz (fun j => b2 < j ∧ j < b3) (slv q6) xv6.2 ∧ Fre Dt.dotF 51 wz (fun j => b2 < j ∧ j < b3) (slv p6) xv6.1 ∧ Fre Dt.dotF 51 wz (fun j => b2 < j ∧ j < b3) (slv q6) xv6.2 ∧ its.length ≤ nv9.toNat ∧ Cn.manyQ Cn.itemQ its ∧ (∀ x ∈ its, x.2.length ≤ 1000000) ∧ Cn.Seg (its.flatMap Cn.itemB) l knv9 kc) (fun ⟨its, raw, o, kc⟩ => nv9.toNat - its.length) ([], [], .slice none 0 0, knv9) ?_ ?_
  ·
    refine ⟨(Eq.trans rfl (congrArg (fun q : BitVec 64 => Value.int .u64 (q.toNat : Int)) (by simp))), rfl, rfl, rfl, (Ext.new (Ext.new (Ext.new (Ext.new (Ext.new (Ext.refl _ _) e1 (by intro i hi hk; first | exact hk.elim | ((try dsimp only at hk); (try dsimp only); omega))) e2 (by intro i hi hk; first | exact hk.elim | ((try dsimp only at hk); (try dsimp only); omega))) e3 (by intro i hi hk; first | exact hk.elim | ((try dsimp only at hk); (try dsimp only); omega))) e4 (by intro i hi hk; first | exact hk.elim | ((try dsimp only at hk); (try dsimp only); omega))) e5 (by intro i hi hk; first | exact hk.elim | ((try dsimp only at hk); (try dsimp only); omega))), hov9, ((((h2.keepM e2 (by intro h; (try dsimp only at h); omega)).keep e3).keepM e4 (by intro h; (try dsimp only at h); omega)).keepM e5 (by intro h; (try dsimp only at h); omega)), (hs4.keepM e5 (by intro h; (try dsimp only at h); omega)), (OwnF.nil _ _ _ _), ItemsF.nil, (((((hxs6.keep e3).keepM e4 (by intro k hk h; first | (have q1 := hF k hk; (try dsimp only at h); omega) | (have q1 := hF2 k hk; (try dsimp only at h); omega) | (have q1 := hFb k hk; (try dsimp only at h); omega) | ((try dsimp only at hk); (try dsimp only at h); omega))).keepM e5 (by intro k hk h; first | (have q1 := hF k hk; (try dsimp only at h); omega) | ((try dsimp only at hk); (try dsimp only at h); omega)))).weak (by intro j hj; (try dsimp only at hj); (try dsimp only); omega)), (((((hys6.keep e3).keepM e4 (by intro k hk h; first | (have q1 := hF k hk; (try dsimp only at h); omega) | (have q1 := hF2 k hk; (try dsimp only at h); omega) | (have q1 := hFb k hk; (try dsimp only at h); omega) | ((try dsimp only at hk); (try dsimp only at h); omega))).keepM e5 (by intro k hk h; first | (have q1 := hF k hk; (try dsimp only at h); omega) | ((try dsimp only at hk); (try dsimp only at h); omega)))).weak (by intro j hj; (try dsimp only at hj); (try dsimp only); omega)), (((((hxv6.keep e3).keepM e4 (by intro k hk h; first | (have q1 := hF k hk; (try dsimp only at h); omega) | (have q1 := hF2 k hk; (try dsimp only at h); omega) | (have q1 := hFb k hk; (try dsimp only at h); omega) | ((try dsimp only at hk); (try dsimp only at h); omega))).keepM e5 (by intro k hk h; first | (have q1 := hF k hk; (try dsimp only at h); omega) | ((try dsimp only at hk); (try dsimp only at h); omega)))).weak (by intro j hj; (try dsimp only at hj); (try dsimp only); omega)), (((((hyv6.keep e3).keepM e4 (by intro k hk h; first | (have q1 := hF k hk; (try dsimp only at h); omega) | (have q1 := hF2 k hk; (try dsimp only at h); omega) | (have q1 := hFb k hk; (try dsimp only at h); omega) | ((try dsimp only at hk); (try dsimp only at h); omega))).keepM e5 (by intro k hk h; first | (have q1 := hF k hk; (try dsimp only at h); omega) | ((try dsimp only at hk); (try dsimp only at h); omega)))).weak (by intro j hj; (try dsimp only at hj); (try dsimp only); omega)), ?_⟩
    exact ⟨Nat.zero_le _, Cn.manyQ_nil, Cn.manyQ_nil, Cn.Seg.nil hsv9.2.2⟩
  ·
    rintro ⟨its, raw, o, kc⟩ f_1 w6 ⟨s4_1, s0_1, s2_1, s3_1, e_1, r0_1, r1_1, r2_1, r3_1, r4_1, r5_1, r6_1, r7_1, r8_1, ⟨hj, hQ, hI, hS⟩⟩
    have z_1 := e_1.size
    have r3_1s := r3_1.sl
    obtain ⟨wL, hwL⟩ : ∃ x, x = w6 := ⟨_, rfl⟩
    have hzL : wL.heap.size = w6.heap.size := by rw [hwL]
    have hln := Cn.seg_len Cn.itemB_ge hS
    have hNl := nv9.isLt
    have ho1 := (r3_1).one
    have hbl3 := (r2_1).lt
    have hbl2 := (r1_1).lt
    have hit := r4_1
    have hitl := hit.1
    have hob := (r3_1).bk_ge
    refine C.seqK fun K6 hK6 => ?_
    refine C.seqK fun K7 hK7 => ?_
    refine C.region ?_
    refine O.mv ?_
    refine O.gtrU (m := 64) (b := 0#64) s4_1 rfl ?_
    refine O.nil ?_
    refine hK7 _ _ ?_
    refine C.condD rfl (fun c11 => ?_) (fun c11 => ?_)
    ·
      have hj2 : its.length < nv9.toNat := by have q := (Cn.pos_ofNat (m := nv9.toNat - its.length) (by omega)).1 c11; omega
      refine C.skip ?_
      refine hK6 _ _ ?_
      refine C.seqK fun K8 hK8 => ?_
      refine C.block fun K9 hK9 => ?_
      refine C.drawB (wB := (bare w6)) (by kernel_rfl) fun w7 e7 => ?_
      have z7 := e7.size
      refine D.take (i := 0) rfl rfl rfl rfl (by kernel_rfl) (Ext.bare (Ext.new (Ext.refl (fun _ => True) _) e7 (fun _ _ _ => trivial))) ⟨_, rfl⟩ (fun w_ hw_ N_ hN => (O.fieldAd Tryz.underlying28 rfl Tryz.sizeOf26 (by decide) s3_1 (O.nil hN))) ?_
      refine D.take (i := 2) rfl rfl rfl rfl (by kernel_rfl) (Ext.bare (Ext.new (Ext.refl (fun _ => True) _) e7 (fun _ _ _ => trivial))) ⟨pure _, rfl⟩ (fun w_ hw_ N_ hN => (O.mv (O.nil hN))) ?_
      refine D.many [1, 3] (by kernel_rfl) (by decide) ⟨?_, ?_, trivial⟩
      ·
        refine D.stepU rfl rfl ?_
        refine O.loadO Tryz.isAgg26 rfl (r2_1.keep e7) rfl ?_
        refine O.nil ⟨(Ext.bare (Ext.new (Ext.refl (fun _ => True) _) e7 (fun _ _ _ => trivial))), ?_⟩
        refine D.one (i := 3) rfl rfl (by kernel_rfl) ?_
        refine O.callZ Tryz.call109 (args1 s0_1) (ditem_spec b vr l kc F _ (r0_1.keep e7) ((hl.keepM e_1 (by intro k hk h; first | (have q1 := hF k hk; (try dsimp only at h); omega) | ((try dsimp only at hk); (try dsimp only at h); omega))).keep e7) hS.2.2 (fun j hj => by have q1 := hF j hj; omega) hL) (fun ch_ wz_ hz_ => ?_) ?_
        ·
          exact ⟨hz_.1, Cn.no_val (Cn.no_cart2 hsv6 hcv6 (Cn.no_many2 hsv9 Cn.pre_itemQ hQ hS hj2 hz_.2.1)), Ext.trans (Ext.new (Ext.new (Ext.refl _ _) e_1 (by intro i hi hk; first | exact hk.elim | ((try dsimp only at hk); (try dsimp only); omega))) e7 (by intro i hi hk; first | exact hk.elim | ((try dsimp only at hk); (try dsimp only); omega))) hz_.2.2⟩
        rintro v_17 w8 ⟨sv17, vmv17, msv17, knv17, rfl, hov17, hmv17, hnv17, hqv17, hsv17, e8⟩
        have z8 := e8.size
        refine O.nil ⟨(Ext.bare (Ext.new (Ext.new (Ext.refl (fun _ => True) _) e7 (fun _ _ _ => trivial)) e8 (fun _ _ _ => trivial))), ?_⟩
        obtain ⟨p17, rfl⟩ := hmv17.slv
        refine D.one (i := 4) rfl rfl (by kernel_rfl) ?_
        refine O.litG (G := itemF) [(sv17, p17)] Tryz.underlying26 ti56 ts56 tz56 rfl (by decide) (by decide) rfl (fun b18 w9 hb18 hz18 e9 => ?_)
        have z9 := e9.size
        have h18 := hz18.own
        have hq18 := Sl.litG (n := 1) h18 rfl (by unfold maxLen; omega)
        refine O.nil ⟨(Ext.bare (Ext.new (Ext.new (Ext.new (Ext.refl (fun _ => True) _) e7 (fun _ _ _ => trivial)) e8 (fun _ _ _ => trivial)) e9 (fun _ _ _ => trivial))), ?_⟩
        refine D.one (i := 5) rfl rfl (by kernel_rfl) ?_
        refine O.appW (G := itemF) Tryz.underlying26 ti56 tz56 ts56 rfl rfl rfl (((r3_1.keep e7).keepM e8 (fun k hk h => by have := r3_1.bk_ge k hk; (try dsimp only at h); omega)).keep e9) hq18 (by rw [tb56, hit.1]; simp; omega) (by unfold maxLen; rw [hit.1]; simp; omega) (by omega) (fun v19 w10 h19 e10 hw19 => ?_)
        have e10m : Ext (fun j => w.heap.size ≤ j) w9 w10 := e10.mono (fun j _ hj => by have := (((r3_1.keep e7).keepM e8 (fun k hk h => by have := r3_1.bk_ge k hk; (try dsimp only at h); omega)).keep e9).bk_ge j hj; omega)
        have z10 := e10.size
        have h19s := h19.sl
        refine O.nil ⟨(Ext.bare (Ext.new (Ext.new (Ext.new (Ext.new (Ext.refl (fun _ => True) _) e7 (fun _ _ _ => trivial)) e8 (fun _ _ _ => trivial)) e9 (fun _ _ _ => trivial)) e10 (fun _ _ _ => trivial))), ?_⟩
        have hit19 : ItemsF 53 w10 (fun j => b3 < j ∧ j < w10.heap.size ∧ ¬ bk v19 j) (raw ++ [(sv17, p17)]) (its ++ [(sv17, msv17)]) := ((((((r4_1.keep e7).keepM e8 (by intro k hk h; first | (have q1 := hF k hk; (try dsimp only at h); omega) | ((try dsimp only at hk); (try dsimp only at h); omega))).keep e9).keepM e10 (fun j hj h => hj.2.2 h))).weak (fun j hj => ⟨hj.1, by have := hj.2.1; omega, fun hq => by
          rcases hw19 j hq with q | q
          · exact hj.2.2 q
          · have := hj.2.1; omega⟩)).snoc (x := (sv17, msv17)) rfl ((((hmv17.keep e9).keepM e10 (by intro j hj h; have q2 := hob j h; (try dsimp only at hj); omega))).weak (by
          intro j hj
          (try dsimp only at hj)
          refine ⟨by omega, by omega, fun hq => ?_⟩
          rcases hw19 j hq with q | q
          · have := hob j q; omega
          · omega))
        refine D.take (i := 6) rfl rfl rfl rfl (by kernel_rfl) (Ext.bare (Ext.new (Ext.new (Ext.new (Ext.new (Ext.refl (fun _ => True) _) e7 (fun _ _ _ => trivial)) e8 (fun _ _ _ => trivial)) e9 (fun _ _ _ => trivial)) e10 (fun _ _ _ => trivial))) ⟨_, rfl⟩ (fun w_ hw_ N_ hN => (O.fieldAd Tryz.underlying28 rfl Tryz.sizeOf26 (by decide) s3_1 (O.nil hN))) ?_
        refine D.one (i := 7) rfl rfl (by kernel_rfl) ?_
        refine O.store Tryz.sizeOf26 rfl rfl h19.one ((((r2_1.keep e7).keepM e8 (by intro h; (try dsimp only at h); omega)).keep e9).keepM e10 (by intro h; have := (((r3_1.keep e7).keepM e8 (fun k hk h => by have := r3_1.bk_ge k hk; (try dsimp only at h); omega)).keep e9).bk_ge _ h; omega)) (by simp) (fun w11 hs11 e11 z11 => ?_)
        try simp only [Nat.zero_add] at hs11
        refine O.nil ⟨(Ext.bare (Ext.new (Ext.new (Ext.new (Ext.new (Ext.new (Ext.refl (fun _ => True) _) e7 (fun _ _ _ => trivial)) e8 (fun _ _ _ => trivial)) e9 (fun _ _ _ => trivial)) e10 (fun _ _ _ => trivial)) e11 (fun _ _ _ => trivial))), ?_⟩
        refine D.done (by kernel_rfl) ?_
        refine hK9 _ _ ?_
        refine hK8 _ _ ?_
        refine C.region ?_
        refine O.mv ?_
        refine O.subU (m := 64) (b := 1#64) rfl rfl s4_1 rfl ?_
        refine O.asg ?_
        refine O.nil ?_
        refine ⟨(its ++ [(sv17, msv17)], raw ++ [(sv17, p17)], v19, knv17), ⟨(Eq.trans rfl (congrArg (fun q : BitVec 64 => Value.int .u64 (q.toNat : Int)) (by rw [Cn.dec_ofNat (by omega) (by omega), List.length_append]; rfl))), s0_1, s2_1, s3_1, (Ext.new (Ext.new (Ext.new (Ext.new (Ext.new (Ext.new (Ext.refl _ _) e_1 (by intro i hi hk; first | exact hk.elim | ((try dsimp only at hk); (try dsimp only); omega))) e7 (by intro i hi hk; first | exact hk.elim | ((try dsimp only at hk); (try dsimp only); omega))) e8 (by intro i hi hk; first | exact hk.elim | ((try dsimp only at hk); (try dsimp only); omega))) e9 (by intro i hi hk; first | exact hk.elim | ((try dsimp only at hk); (try dsimp only); omega))) e10m (by intro i hi hk; first | exact hk.elim | ((try dsimp only at hk); (try dsimp only); omega))) e11 (by intro i hi hk; first | exact hk.elim | ((try dsimp only at hk); (try dsimp only); omega))), (((hov17.keep e9).keepM e10 (by intro h; have := (((r3_1.keep e7).keepM e8 (fun k hk h => by have := r3_1.bk_ge k hk; (try dsimp only at h); omega)).keep e9).bk_ge _ h; omega)).keepM e11 (by intro h; (try dsimp only at h); omega)), (((((r1_1.keep e7).keepM e8 (by intro h; (try dsimp only at h); omega)).keep e9).keepM e10 (by intro h; have := (((r3_1.keep e7).keepM e8 (fun k hk h => by have := r3_1.bk_ge k hk; (try dsimp only at h); omega)).keep e9).bk_ge _ h; omega)).keepM e11 (by intro h; (try dsimp only at h); omega)), hs11, (h19.keepM e11 (fun k hk h => by have := h19.bk_ge k hk; (try dsimp only at h); omega)), (((hit19.keepM e11 (by intro k hk h; first | (have q1 := hF k hk; (try dsimp only at h); omega) | (have q1 := hF2 k hk; (try dsimp only at h); omega) | (have q1 := hFb k hk; (try dsimp only at h); omega) | ((try dsimp only at hk); (try dsimp only at h); omega)))).weak (fun j hj => ⟨hj.1, by have := hj.2.1; omega, hj.2.2⟩)), (((((r5_1.keep e7).keepM e8 (by intro k hk h; first | (have q1 := hF k hk; (try dsimp only at h); omega) | ((try dsimp only at hk); (try dsimp only at h); omega))).keep e9).keepM e10 (by intro j hj h; have q2 := (((r3_1.keep e7).keepM e8 (fun k hk h => by have := r3_1.bk_ge k hk; (try dsimp only at h); omega)).keep e9).bk_ge j h; first | (have q1 := hF j hj; omega) | ((try dsimp only at hj); omega))).keepM e11 (by intro k hk h; first | (have q1 := hF k hk; (try dsimp only at h); omega) | (have q1 := hF2 k hk; (try dsimp only at h); omega) | (have q1 := hFb k hk; (try dsimp only at h); omega) | ((try dsimp only at hk); (try dsimp only at h); omega))), (((((r6_1.keep e7).keepM e8 (by intro k hk h; first | (have q1 := hF k hk; (try dsimp only at h); omega) | ((try dsimp only at hk); (try dsimp only at h); omega))).keep e9).keepM e10 (by intro j hj h; have q2 := (((r3_1.keep e7).keepM e8 (fun k hk h => by have := r3_1.bk_ge k hk; (try dsimp only at h); omega)).keep e9).bk_ge j h; first | (have q1 := hF j hj; omega) | ((try dsimp only at hj); omega))).keepM e11 (by intro k hk h; first | (have q1 := hF k hk; (try dsimp only at h); omega) | (have q1 := hF2 k hk; (try dsimp only at h); omega) | (have q1 := hFb k hk; (try dsimp only at h); omega) | ((try dsimp only at hk); (try dsimp only at h); omega))), (((((r7_1.keep e7).keepM e8 (by intro k hk h; first | (have q1 := hF k hk; (try dsimp only at h); omega) | ((try dsimp only at hk); (try dsimp only at h); omega))).keep e9).keepM e10 (by intro j hj h; have q2 := (((r3_1.keep e7).keepM e8 (fun k hk h => by have := r3_1.bk_ge k hk; (try dsimp only at h); omega)).keep e9).bk_ge j h; first | (have q1 := hF j hj; omega) | ((try dsimp only at hj); omega))).keepM e11 (by intro k hk h; first | (have q1 := hF k hk; (try dsimp only at h); omega) | (have q1 := hF2 k hk; (try dsimp only at h); omega) | (have q1 := hFb k hk; (try dsimp only at h); omega) | ((try dsimp only at hk); (try dsimp only at h); omega))), (((((r8_1.keep e7).keepM e8 (by intro k hk h; first | (have q1 := hF k hk; (try dsimp only at h); omega) | ((try dsimp only at hk); (try dsimp only at h); omega))).keep e9).keepM e10 (by intro j hj h; have q2 := (((r3_1.keep e7).keepM e8 (fun k hk h => by have := r3_1.bk_ge k hk; (try dsimp only at h); omega)).keep e9).bk_ge j h; first | (have q1 := hF j hj; omega) | ((try dsimp only at hj); omega))).keepM e11 (by intro k hk h; first | (have q1 := hF k hk; (try dsimp only at h); omega) | (have q1 := hF2 k hk; (try dsimp only at h); omega) | (have q1 := hFb k hk; (try dsimp only at h); omega) | ((try dsimp only at hk); (try dsimp only at h); omega))), ?_⟩, by show nv9.toNat - (its ++ [_]).length < nv9.toNat - its.length; rw [List.length_append]; show nv9.toNat - (its.length + 1) < _; omega⟩
        exact ⟨by rw [List.length_append]; exact hj2, Cn.manyQ_snoc hQ hqv17, Cn.manyQ_snoc hI (by show msv17.length ≤ 1000000; omega), Cn.Seg.snoc hS hsv17⟩
      ·
        refine D.stepU rfl rfl ?_
        refine O.callZ Tryz.call109 (args1 s0_1) (ditem_spec b vr l kc F _ (r0_1.keep e7) ((hl.keepM e_1 (by intro k hk h; first | (have q1 := hF k hk; (try dsimp only at h); omega) | ((try dsimp only at hk); (try dsimp only at h); omega))).keep e7) hS.2.2 (fun j hj => by have q1 := hF j hj; omega) hL) (fun ch_ wz_ hz_ => ?_) ?_
        ·
          exact ⟨hz_.1, Cn.no_val (Cn.no_cart2 hsv6 hcv6 (Cn.no_many2 hsv9 Cn.pre_itemQ hQ hS hj2 hz_.2.1)), Ext.trans (Ext.new (Ext.new (Ext.refl _ _) e_1 (by intro i hi hk; first | exact hk.elim | ((try dsimp only at hk); (try dsimp only); omega))) e7 (by intro i hi hk; first | exact hk.elim | ((try dsimp only at hk); (try dsimp only); omega))) hz_.2.2⟩
        rintro v_17 w12 ⟨sv17, vmv17, msv17, knv17, rfl, hov17, hmv17, hnv17, hqv17, hsv17, e12⟩
        have z12 := e12.size
        refine O.nil ⟨(Ext.bare (Ext.new (Ext.new (Ext.refl (fun _ => True) _) e7 (fun _ _ _ => trivial)) e12 (fun _ _ _ => trivial))), ?_⟩
        obtain ⟨p17, rfl⟩ := hmv17.slv
        refine D.many [1, 4] (by kernel_rfl) (by decide) ⟨?_, ?_, trivial⟩
        ·
          refine D.stepU rfl rfl ?_
          refine O.loadO Tryz.isAgg26 rfl ((r2_1.keep e7).keepM e12 (by intro h; (try dsimp only at h); omega)) rfl ?_
          refine O.nil ⟨(Ext.bare (Ext.new (Ext.new (Ext.refl (fun _ => True) _) e7 (fun _ _ _ => trivial)) e12 (fun _ _ _ => trivial))), ?_⟩
          refine D.one (i := 4) rfl rfl (by kernel_rfl) ?_
          refine O.litG (G := itemF) [(sv17, p17)] Tryz.underlying26 ti56 ts56 tz56 rfl (by decide) (by decide) rfl (fun b18 w13 hb18 hz18 e13 => ?_)
          have z13 := e13.size
          have h18 := hz18.own
          have hq18 := Sl.litG (n := 1) h18 rfl (by unfold maxLen; omega)
          refine O.nil ⟨(Ext.bare (Ext.new (Ext.new (Ext.new (Ext.refl (fun _ => True) _) e7 (fun _ _ _ => trivial)) e12 (fun _ _ _ => trivial)) e13 (fun _ _ _ => trivial))), ?_⟩
          refine D.one (i := 5) rfl rfl (by kernel_rfl) ?_
          refine O.appW (G := itemF) Tryz.underlying26 ti56 tz56 ts56 rfl rfl rfl (((r3_1.keep e7).keepM e12 (fun k hk h => by have := r3_1.bk_ge k hk; (try dsimp only at h); omega)).keep e13) hq18 (by rw [tb56, hit.1]; simp; omega) (by unfold maxLen; rw [hit.1]; simp; omega) (by omega) (fun v19 w14 h19 e14 hw19 => ?_)
          have e14m : Ext (fun j => w.heap.size ≤ j) w13 w14 := e14.mono (fun j _ hj => by have := (((r3_1.keep e7).keepM e12 (fun k hk h => by have := r3_1.bk_ge k hk; (try dsimp only at h); omega)).keep e13).bk_ge j hj; omega)
          have z14 := e14.size
          have h19s := h19.sl
          refine O.nil ⟨(Ext.bare (Ext.new (Ext.new (Ext.new (Ext.new (Ext.refl (fun _ => True) _) e7 (fun _ _ _ => trivial)) e12 (fun _ _ _ => trivial)) e13 (fun _ _ _ => trivial)) e14 (fun _ _ _ => trivial))), ?_⟩
          have hit19 : ItemsF 53 w14 (fun j => b3 < j ∧ j < w14.heap.size ∧ ¬ bk v19 j) (raw ++ [(sv17, p17)]) (its ++ [(sv17, msv17)]) := ((((((r4_1.keep e7).keepM e12 (by intro k hk h; first | (have q1 := hF k hk; (try dsimp only at h); omega) | ((try dsimp only at hk); (try dsimp only at h); omega))).keep e13).keepM e14 (fun j hj h => hj.2.2 h))).weak (fun j hj => ⟨hj.1, by have := hj.2.1; omega, fun hq => by
            rcases hw19 j hq with q | q
            · exact hj.2.2 q
            · have := hj.2.1; omega⟩)).snoc (x := (sv17, msv17)) rfl ((((hmv17.keep e13).keepM e14 (by intro j hj h; have q2 := hob j h; (try dsimp only at hj); omega))).weak (by
            intro j hj
            (try dsimp only at hj)
            refine ⟨by omega, by omega, fun hq => ?_⟩
            rcases hw19 j hq with q | q
            · have := hob j q; omega
            · omega))
          refine D.take (i := 6) rfl rfl rfl rfl (by kernel_rfl) (Ext.bare (Ext.new (Ext.new (Ext.new (Ext.new (Ext.refl (fun _ => True) _) e7 (fun _ _ _ => trivial)) e12 (fun _ _ _ => trivial)) e13 (fun _ _ _ => trivial)) e14 (fun _ _ _ => trivial))) ⟨_, rfl⟩ (fun w_ hw_ N_ hN => (O.fieldAd Tryz.underlying28 rfl Tryz.sizeOf26 (by decide) s3_1 (O.nil hN))) ?_
          refine D.one (i := 7) rfl rfl (by kernel_rfl) ?_
          refine O.store Tryz.sizeOf26 rfl rfl h19.one ((((r2_1.keep e7).keepM e12 (by intro h; (try dsimp only at h); omega)).keep e13).keepM e14 (by intro h; have := (((r3_1.keep e7).keepM e12 (fun k hk h => by have := r3_1.bk_ge k hk; (try dsimp only at h); omega)).keep e13).bk_ge _ h; omega)) (by simp) (fun w15 hs15 e15 z15 => ?_)
          try simp only [Nat.zero_add] at hs15
          refine O.nil ⟨(Ext.bare (Ext.new (Ext.new (Ext.new (Ext.new (Ext.new (Ext.refl (fun _ => True) _) e7 (fun _ _ _ => trivial)) e12 (fun _ _ _ => trivial)) e13 (fun _ _ _ => trivial)) e14 (fun _ _ _ => trivial)) e15 (fun _ _ _ => trivial))), ?_⟩
          refine D.done (by kernel_rfl) ?_
          refine hK9 _ _ ?_
          refine hK8 _ _ ?_
          refine C.region ?_
          refine O.mv ?_
          refine O.subU (m := 64) (b := 1#64) rfl rfl s4_1 rfl ?_
          refine O.asg ?_
          refine O.nil ?_
          refine ⟨(its ++ [(sv17, msv17)], raw ++ [(sv17, p17)], v19, knv17), ⟨(Eq.trans rfl (congrArg (fun q : BitVec 64 => Value.int .u64 (q.toNat : Int)) (by rw [Cn.dec_ofNat (by omega) (by omega), List.length_append]; rfl))), s0_1, s2_1, s3_1, (Ext.new (Ext.new (Ext.new (Ext.new (Ext.new (Ext.new (Ext.refl _ _) e_1 (by intro i hi hk; first | exact hk.elim | ((try dsimp only at hk); (try dsimp only); omega))) e7 (by intro i hi hk; first | exact hk.elim | ((try dsimp only at hk); (try dsimp only); omega))) e12 (by intro i hi hk; first | exact hk.elim | ((try dsimp only at hk); (try dsimp only); omega))) e13 (by intro i hi hk; first | exact hk.elim | ((try dsimp only at hk); (try dsimp only); omega))) e14m (by intro i hi hk; first | exact hk.elim | ((try dsimp only at hk); (try dsimp only); omega))) e15 (by intro i hi hk; first | exact hk.elim | ((try dsimp only at hk); (try dsimp only); omega))), (((hov17.keep e13).keepM e14 (by intro h; have := (((r3_1.keep e7).keepM e12 (fun k hk h => by have := r3_1.bk_ge k hk; (try dsimp only at h); omega)).keep e13).bk_ge _ h; omega)).keepM e15 (by intro h; (try dsimp only at h); omega)), (((((r1_1.keep e7).keepM e12 (by intro h; (try dsimp only at h); omega)).keep e13).keepM e14 (by intro h; have := (((r3_1.keep e7).keepM e12 (fun k hk h => by have := r3_1.bk_ge k hk; (try dsimp only at h); omega)).keep e13).bk_ge _ h; omega)).keepM e15 (by intro h; (try dsimp only at h); omega)), hs15, (h19.keepM e15 (fun k hk h => by have := h19.bk_ge k hk; (try dsimp only at h); omega)), (((hit19.keepM e15 (by intro k hk h; first | (have q1 := hF k hk; (try dsimp only at h); omega) | (have q1 := hF2 k hk; (try dsimp only at h); omega) | (have q1 := hFb k hk; (try dsimp only at h); omega) | ((try dsimp only at hk); (try dsimp only at h); omega)))).weak (fun j hj => ⟨hj.1, by have := hj.2.1; omega, hj.2.2⟩)), (((((r5_1.keep e7).keepM e12 (by intro k hk h; first | (have q1 := hF k hk; (try dsimp only at h); omega) | ((try dsimp only at hk); (try dsimp only at h); omega))).keep e13).keepM e14 (by intro j hj h; have q2 := (((r3_1.keep e7).keepM e12 (fun k hk h => by have := r3_1.bk_ge k hk; (try dsimp only at h); omega)).keep e13).bk_ge j h; first | (have q1 := hF j hj; omega) | ((try dsimp only at hj); omega))).keepM e15 (by intro k hk h; first | (have q1 := hF k hk; (try dsimp only at h); omega) | (have q1 := hF2 k hk; (try dsimp only at h); omega) | (have q1 := hFb k hk; (try dsimp only at h); omega) | ((try dsimp only at hk); (try dsimp only at h); omega))), (((((r6_1.keep e7).keepM e12 (by intro k hk h; first | (have q1 := hF k hk; (try dsimp only at h); omega) | ((try dsimp only at hk); (try dsimp only at h); omega))).keep e13).keepM e14 (by intro j hj h; have q2 := (((r3_1.keep e7).keepM e12 (fun k hk h => by have := r3_1.bk_ge k hk; (try dsimp only at h); omega)).keep e13).bk_ge j h; first | (have q1 := hF j hj; omega) | ((try dsimp only at hj); omega))).keepM e15 (by intro k hk h; first | (have q1 := hF k hk; (try dsimp only at h); omega) | (have q1 := hF2 k hk; (try dsimp only at h); omega) | (have q1 := hFb k hk; (try dsimp only at h); omega) | ((try dsimp only at hk); (try dsimp only at h); omega))), (((((r7_1.keep e7).keepM e12 (by intro k hk h; first | (have q1 := hF k hk; (try dsimp only at h); omega) | ((try dsimp only at hk); (try dsimp only at h); omega))).keep e13).keepM e14 (by intro j hj h; have q2 := (((r3_1.keep e7).keepM e12 (fun k hk h => by have := r3_1.bk_ge k hk; (try dsimp only at h); omega)).keep e13).bk_ge j h; first | (have q1 := hF j hj; omega) | ((try dsimp only at hj); omega))).keepM e15 (by intro k hk h; first | (have q1 := hF k hk; (try dsimp only at h); omega) | (have q1 := hF2 k hk; (try dsimp only at h); omega) | (have q1 := hFb k hk; (try dsimp only at h); omega) | ((try dsimp only at hk); (try dsimp only at h); omega))), (((((r8_1.keep e7).keepM e12 (by intro k hk h; first | (have q1 := hF k hk; (try dsimp only at h); omega) | ((try dsimp only at hk); (try dsimp only at h); omega))).keep e13).keepM e14 (by intro j hj h; have q2 := (((r3_1.keep e7).keepM e12 (fun k hk h => by have := r3_1.bk_ge k hk; (try dsimp only at h); omega)).keep e13).bk_ge j h; first | (have q1 := hF j hj; omega) | ((try dsimp only at hj); omega))).keepM e15 (by intro k hk h; first | (have q1 := hF k hk; (try dsimp only at h); omega) | (have q1 := hF2 k hk; (try dsimp only at h); omega) | (have q1 := hFb k hk; (try dsimp only at h); omega) | ((try dsimp only at hk); (try dsimp only at h); omega))), ?_⟩, by show nv9.toNat - (its ++ [_]).length < nv9.toNat - its.length; rw [List.length_append]; show nv9.toNat - (its.length + 1) < _; omega⟩
          exact ⟨by rw [List.length_append]; exact hj2, Cn.manyQ_snoc hQ hqv17, Cn.manyQ_snoc hI (by show msv17.length ≤ 1000000; omega), Cn.Seg.snoc hS hsv17⟩
        ·
          refine D.stepU rfl rfl ?_
          refine O.litG (G := itemF) [(sv17, p17)] Tryz.underlying26 ti56 ts56 tz56 rfl (by decide) (by decide) rfl (fun b18 w16 hb18 hz18 e16 => ?_)
          have z16 := e16.size
          have h18 := hz18.own
          have hq18 := Sl.litG (n := 1) h18 rfl (by unfold maxLen; omega)
          refine O.nil ⟨(Ext.bare (Ext.new (Ext.new (Ext.new (Ext.refl (fun _ => True) _) e7 (fun _ _ _ => trivial)) e12 (fun _ _ _ => trivial)) e16 (fun _ _ _ => trivial))), ?_⟩
          refine D.one (i := 1) rfl rfl (by kernel_rfl) ?_
          refine O.loadO Tryz.isAgg26 rfl (((r2_1.keep e7).keepM e12 (by intro h; (try dsimp only at h); omega)).keep e16) rfl ?_
          refine O.nil ⟨(Ext.bare (Ext.new (Ext.new (Ext.new (Ext.refl (fun _ => True) _) e7 (fun _ _ _ => trivial)) e12 (fun _ _ _ => trivial)) e16 (fun _ _ _ => trivial))), ?_⟩
          refine D.one (i := 5) rfl rfl (by kernel_rfl) ?_
          refine O.appW (G := itemF) Tryz.underlying26 ti56 tz56 ts56 rfl rfl rfl (((r3_1.keep e7).keepM e12 (fun k hk h => by have := r3_1.bk_ge k hk; (try dsimp only at h); omega)).keep e16) hq18 (by rw [tb56, hit.1]; simp; omega) (by unfold maxLen; rw [hit.1]; simp; omega) (by omega) (fun v19 w17 h19 e17 hw19 => ?_)
          have e17m : Ext (fun j => w.heap.size ≤ j) w16 w17 := e17.mono (fun j _ hj => by have := (((r3_1.keep e7).keepM e12 (fun k hk h => by have := r3_1.bk_ge k hk; (try dsimp only at h); omega)).keep e16).bk_ge j hj; omega)
          have z17 := e17.size
          have h19s := h19.sl
          refine O.nil ⟨(Ext.bare (Ext.new (Ext.new (Ext.new (Ext.new (Ext.refl (fun _ => True) _) e7 (fun _ _ _ => trivial)) e12 (fun _ _ _ => trivial)) e16 (fun _ _ _ => trivial)) e17 (fun _ _ _ => trivial))), ?_⟩
          have hit19 : ItemsF 53 w17 (fun j => b3 < j ∧ j < w17.heap.size ∧ ¬ bk v19 j) (raw ++ [(sv17, p17)]) (its ++ [(sv17, msv17)]) := ((((((r4_1.keep e7).keepM e12 (by intro k hk h; first | (have q1 := hF k hk; (try dsimp only at h); omega) | ((try dsimp only at hk); (try dsimp only at h); omega))).keep e16).keepM e17 (fun j hj h => hj.2.2 h))).weak (fun j hj => ⟨hj.1, by have := hj.2.1; omega, fun hq => by
            rcases hw19 j hq with q | q
            · exact hj.2.2 q
            · have := hj.2.1; omega⟩)).snoc (x := (sv17, msv17)) rfl ((((hmv17.keep e16).keepM e17 (by intro j hj h; have q2 := hob j h; (try dsimp only at hj); omega))).weak (by
            intro j hj
            (try dsimp only at hj)
            refine ⟨by omega, by omega, fun hq => ?_⟩
            rcases hw19 j hq with q | q
            · have := hob j q; omega
            · omega))
          refine D.take (i := 6) rfl rfl rfl rfl (by kernel_rfl) (Ext.bare (Ext.new (Ext.new (Ext.new (Ext.new (Ext.refl (fun _ => True) _) e7 (fun _ _ _ => trivial)) e12 (fun _ _ _ => trivial)) e16 (fun _ _ _ => trivial)) e17 (fun _ _ _ => trivial))) ⟨_, rfl⟩ (fun w_ hw_ N_ hN => (O.fieldAd Tryz.underlying28 rfl Tryz.sizeOf26 (by decide) s3_1 (O.nil hN))) ?_
          refine D.one (i := 7) rfl rfl (by kernel_rfl) ?_
          refine O.store Tryz.sizeOf26 rfl rfl h19.one ((((r2_1.keep e7).keepM e12 (by intro h; (try dsimp only at h); omega)).keep e16).keepM e17 (by intro h; have := (((r3_1.keep e7).keepM e12 (fun k hk h => by have := r3_1.bk_ge k hk; (try dsimp only at h); omega)).keep e16).bk_ge _ h; omega)) (by simp) (fun w18 hs18 e18 z18 => ?_)
          try simp only [Nat.zero_add] at hs18
          refine O.nil ⟨(Ext.bare (Ext.new (Ext.new (Ext.new (Ext.new (Ext.new (Ext.refl (fun _ => True) _) e7 (fun _ _ _ => trivial)) e12 (fun _ _ _ => trivial)) e16 (fun _ _ _ => trivial)) e17 (fun _ _ _ => trivial)) e18 (fun _ _ _ => trivial))), ?_⟩
          refine D.done (by kernel_rfl) ?_
          refine hK9 _ _ ?_
          refine hK8 _ _ ?_
          refine C.region ?_
          refine O.mv ?_
          refine O.subU (m := 64) (b := 1#64) rfl rfl s4_1 rfl ?_
          refine O.asg ?_
          refine O.nil ?_
          refine ⟨(its ++ [(sv17, msv17)], raw ++ [(sv17, p17)], v19, knv17), ⟨(Eq.trans rfl (congrArg (fun q : BitVec 64 => Value.int .u64 (q.toNat : Int)) (by rw [Cn.dec_ofNat (by omega) (by omega), List.length_append]; rfl))), s0_1, s2_1, s3_1, (Ext.new (Ext.new (Ext.new (Ext.new (Ext.new (Ext.new (Ext.refl _ _) e_1 (by intro i hi hk; first | exact hk.elim | ((try dsimp only at hk); (try dsimp only); omega))) e7 (by intro i hi hk; first | exact hk.elim | ((try dsimp only at hk); (try dsimp only); omega))) e12 (by intro i hi hk; first | exact hk.elim | ((try dsimp only at hk); (try dsimp only); omega))) e16 (by intro i hi hk; first | exact hk.elim | ((try dsimp only at hk); (try dsimp only); omega))) e17m (by intro i hi hk; first | exact hk.elim | ((try dsimp only at hk); (try dsimp only); omega))) e18 (by intro i hi hk; first | exact hk.elim | ((try dsimp only at hk); (try dsimp only); omega))), (((hov17.keep e16).keepM e17 (by intro h; have := (((r3_1.keep e7).keepM e12 (fun k hk h => by have := r3_1.bk_ge k hk; (try dsimp only at h); omega)).keep e16).bk_ge _ h; omega)).keepM e18 (by intro h; (try dsimp only at h); omega)), (((((r1_1.keep e7).keepM e12 (by intro h; (try dsimp only at h); omega)).keep e16).keepM e17 (by intro h; have := (((r3_1.keep e7).keepM e12 (fun k hk h => by have := r3_1.bk_ge k hk; (try dsimp only at h); omega)).keep e16).bk_ge _ h; omega)).keepM e18 (by intro h; (try dsimp only at h); omega)), hs18, (h19.keepM e18 (fun k hk h => by have := h19.bk_ge k hk; (try dsimp only at h); omega)), (((hit19.keepM e18 (by intro k hk h; first | (have q1 := hF k hk; (try dsimp only at h); omega) | (have q1 := hF2 k hk; (try dsimp only at h); omega) | (have q1 := hFb k hk; (try dsimp only at h); omega) | ((try dsimp only at hk); (try dsimp only at h); omega)))).weak (fun j hj => ⟨hj.1, by have := hj.2.1; omega, hj.2.2⟩)), (((((r5_1.keep e7).keepM e12 (by intro k hk h; first | (have q1 := hF k hk; (try dsimp only at h); omega) | ((try dsimp only at hk); (try dsimp only at h); omega))).keep e16).keepM e17 (by intro j hj h; have q2 := (((r3_1.keep e7).keepM e12 (fun k hk h => by have := r3_1.bk_ge k hk; (try dsimp only at h); omega)).keep e16).bk_ge j h; first | (have q1 := hF j hj; omega) | ((try dsimp only at hj); omega))).keepM e18 (by intro k hk h; first | (have q1 := hF k hk; (try dsimp only at h); omega) | (have q1 := hF2 k hk; (try dsimp only at h); omega) | (have q1 := hFb k hk; (try dsimp only at h); omega) | ((try dsimp only at hk); (try dsimp only at h); omega))), (((((r6_1.keep e7).keepM e12 (by intro k hk h; first | (have q1 := hF k hk; (try dsimp only at h); omega) | ((try dsimp only at hk); (try dsimp only at h); omega))).keep e16).keepM e17 (by intro j hj h; have q2 := (((r3_1.keep e7).keepM e12 (fun k hk h => by have := r3_1.bk_ge k hk; (try dsimp only at h); omega)).keep e16).bk_ge j h; first | (have q1 := hF j hj; omega) | ((try dsimp only at hj); omega))).keepM e18 (by intro k hk h; first | (have q1 := hF k hk; (try dsimp only at h); omega) | (have q1 := hF2 k hk; (try dsimp only at h); omega) | (have q1 := hFb k hk; (try dsimp only at h); omega) | ((try dsimp only at hk); (try dsimp only at h); omega))), (((((r7_1.keep e7).keepM e12 (by intro k hk h; first | (have q1 := hF k hk; (try dsimp only at h); omega) | ((try dsimp only at hk); (try dsimp only at h); omega))).keep e16).keepM e17 (by intro j hj h; have q2 := (((r3_1.keep e7).keepM e12 (fun k hk h => by have := r3_1.bk_ge k hk; (try dsimp only at h); omega)).keep e16).bk_ge j h; first | (have q1 := hF j hj; omega) | ((try dsimp only at hj); omega))).keepM e18 (by intro k hk h; first | (have q1 := hF k hk; (try dsimp only at h); omega) | (have q1 := hF2 k hk; (try dsimp only at h); omega) | (have q1 := hFb k hk; (try dsimp only at h); omega) | ((try dsimp only at hk); (try dsimp only at h); omega))), (((((r8_1.keep e7).keepM e12 (by intro k hk h; first | (have q1 := hF k hk; (try dsimp only at h); omega) | ((try dsimp only at hk); (try dsimp only at h); omega))).keep e16).keepM e17 (by intro j hj h; have q2 := (((r3_1.keep e7).keepM e12 (fun k hk h => by have := r3_1.bk_ge k hk; (try dsimp only at h); omega)).keep e16).bk_ge j h; first | (have q1 := hF j hj; omega) | ((try dsimp only at hj); omega))).keepM e18 (by intro k hk h; first | (have q1 := hF k hk; (try dsimp only at h); omega) | (have q1 := hF2 k hk; (try dsimp only at h); omega) | (have q1 := hFb k hk; (try dsimp only at h); omega) | ((try dsimp only at hk); (try dsimp only at h); omega))), ?_⟩, by show nv9.toNat - (its ++ [_]).length < nv9.toNat - its.length; rw [List.length_append]; show nv9.toNat - (its.length + 1) < _; omega⟩
          exact ⟨by rw [List.length_append]; exact hj2, Cn.manyQ_snoc hQ hqv17, Cn.manyQ_snoc hI (by show msv17.length ≤ 1000000; omega), Cn.Seg.snoc hS hsv17⟩
    ·
      have hj3 : its.length = nv9.toNat := by have q := mt (Cn.pos_ofNat (m := nv9.toNat - its.length) (by omega)).2 c11; omega
      obtain ⟨wq, hwq⟩ : ∃ x, x = w6 := ⟨_, rfl⟩
      have hzq : wq.heap.size = w6.heap.size := by rw [hwq]
      have hsa1 : Sl Dt.dotF.enc w6 (fun j => j < wq.heap.size) (slv p6) xv6.1 := (r5_1).weak (by intro j hj; have q := hj.2; show j < wq.heap.size; omega)
      have hsa2 : Sl Dt.dotF.enc w6 (fun j => j < wq.heap.size) (slv q6) xv6.2 := (r6_1).weak (by intro j hj; have q := hj.2; show j < wq.heap.size; omega)
      have hsi : Sl itemE w6 (fun j => b3 < j ∧ j < wq.heap.size) o its := (hit.weak (by intro j hj; have q1 := hj.1; have q := hj.2.1; show b3 < j ∧ j < wq.heap.size; omega)).items.sl ((r3_1).sl.weak (by intro j hj; have q := hob j hj; show b3 < j ∧ j < wq.heap.size; omega))
      have hsa3 : Sl itemE w6 (fun j => j < wq.heap.size) o its := hsi.weak fun j hj => hj.2
      have hsI : SlI 56 53 w6 (fun j => b3 < j ∧ j < wq.heap.size) o its := ⟨raw, (r3_1).fre (by intro j hj; have q := hob j hj; show b3 < j ∧ j < wq.heap.size; omega), hit.weak (by intro j hj; have q1 := hj.1; have q := hj.2.1; show b3 < j ∧ j < wq.heap.size; omega)⟩
      refine C.exit ?_
      refine hK5 _ _ ?_
      refine hK3 _ _ ?_
      refine C.seqK fun K10 hK10 => ?_
      refine C.seqK fun K11 hK11 => ?_
      refine C.region ?_
      refine O.loadOA Tryz.isAgg28 Tryz.sizeOf28 s3_1 r2_1 (Nat.le_of_ble_eq_true rfl) ?_
      refine O.call Tryz.call19 (args1 rfl) (cartValid_spec (slv p6) (slv q6) o (xv6, its) (fun j => j < wq.heap.size) _ hsa1 hsa2 hsa3 (fun j hj => by have hj : j < wq.heap.size := hj; omega) (by show its.length ≤ 1000000; omega) (fun x hx => ⟨by have := (hQ x hx).1; omega, hI x hx⟩) (mx.keepM e_1 (fun h => hgb h.symm))) ?_
      rintro v_22 w19 ⟨rfl, e19⟩
      have z19 := e19.size
      refine O.not rfl ?_
      refine O.nil ?_
      refine hK11 _ _ ?_
      refine C.cond rfl (fun c23 => ?_) (fun c23 => ?_)
      ·
        refine C.region ?_
        refine O.build (cells := #[]) rfl (by kernel_rfl) ?_
        refine O.mkI Tryz.underlying150 rfl rfl ?_
        refine O.panics rfl ?_
        exact ⟨rfl, Cn.no_val3 (Cn.seg_cart hsv6 (Cn.seg_many hsv9 hS hj3)) ⟨hcv6, hQ⟩ (by simpa using c23), (Ext.new (Ext.new (Ext.refl _ _) e_1 (by intro i hi hk; first | exact hk.elim | ((try dsimp only at hk); (try dsimp only); omega))) e19 (by intro i hi hk; first | exact hk.elim | ((try dsimp only at hk); (try dsimp only); omega)))⟩
      ·
        refine C.skip ?_
        refine hK10 _ _ ?_
        refine C.seqK fun K12 hK12 => ?_
        refine C.region ?_
        refine O.loadOA Tryz.isAgg28 Tryz.sizeOf28 s3_1 (r2_1.keep e19) (Nat.le_of_ble_eq_true rfl) ?_
        refine O.storeA (vs := [slv p6, slv q6, o]) Tryz.sizeOf28 rfl s2_1 rfl (by have q9 := ho1; intro u hu; simp only [List.mem_cons, List.not_mem_nil, or_false] at hu; rcases hu with rfl | rfl | rfl <;> first | rfl | exact q9) (r1_1.keep e19) (Nat.le_of_ble_eq_true rfl) (fun w20 hs20 e20 z20 => ?_)
        refine O.nil ?_
        refine hK12 _ _ ?_
        refine C.ret ?_
        refine Outs.cellA rfl Tryz.isAgg28 Tryz.sizeOf28 s2_1 hs20 rfl ?_
        exact ⟨slv p6, slv q6, o, (xv6, its), kc, rfl, ((r0_1.keep e19).keepM e20 (by intro h; (try dsimp only at h); omega)), (((r7_1.keep e19).keepM e20 (by intro k hk h; first | (have q1 := hF k hk; (try dsimp only at h); omega) | (have q1 := hF2 k hk; (try dsimp only at h); omega) | (have q1 := hFb k hk; (try dsimp only at h); omega) | ((try dsimp only at hk); (try dsimp only at h); omega)))).weak (by intro j hj; (try dsimp only at hj); (try dsimp only); omega), (((r8_1.keep e19).keepM e20 (by intro k hk h; first | (have q1 := hF k hk; (try dsimp only at h); omega) | (have q1 := hF2 k hk; (try dsimp only at h); omega) | (have q1 := hFb k hk; (try dsimp only at h); omega) | ((try dsimp only at hk); (try dsimp only at h); omega)))).weak (by intro j hj; (try dsimp only at hj); (try dsimp only); omega), (((hsI.keep e19).keepM e20 (by intro k hk h; first | (have q1 := hF k hk; (try dsimp only at h); omega) | (have q1 := hF2 k hk; (try dsimp only at h); omega) | (have q1 := hFb k hk; (try dsimp only at h); omega) | ((try dsimp only at hk); (try dsimp only at h); omega)))).weak (by intro j hj; (try dsimp only at hj); (try dsimp only); omega), ⟨by have := hnv6.1; show xv6.1.length ≤ 1000000; omega, by have := hnv6.2; show xv6.2.length ≤ 1000000; omega, by show its.length ≤ 1000000; omega, fun x hx => ⟨by have := (hQ x hx).1; omega, hI x hx⟩⟩, by simpa using c23, Cn.seg_cart hsv6 (Cn.seg_many hsv9 hS hj3), (Ext.new (Ext.new (Ext.new (Ext.refl _ _) e_1 (by intro i hi hk; first | exact hk.elim | ((try dsimp only at hk); (try dsimp only); omega))) e19 (by intro i hi hk; first | exact hk.elim | ((try dsimp only at hk); (try dsimp only); omega))) e20 (by intro i hi hk; first | exact hk.elim | ((try dsimp only at hk); (try dsimp only); omega)))⟩

end Go.Proofs.YtnkcmaoaagnopaaGreatDoor
end
section
/-
  The walks that read whole carts: what panics is caught. Conditions: slices as they lie in memory.
-/
namespace Go.Proofs.YtnkcmaoaagnopaaGreatDoor
open Go.Pn Go.RowKit Go.Proofs
attribute [local irreducible] O C D

theorem caught_idle (v : Value) (w : World) : CallsD Tryz.prog 82 #[v] .returning w fun e u' w' => (∃ q, e = .returned q) ∧ settle u' = .returning ∧ w' = w := by
  refine (callsD_recover (S := fun w' => w' = w) (u' := .returning) (rv := .nilIface) (args := [v]) (n := Tryz.f82.ntmps) Tryz.func82 rfl rfl (Nat.le_of_ble_eq_true rfl) rfl (fun c₀ cs hu => ?_) ?_).mono fun e u2 w' h => ⟨h.1, by rw [h.2.1]; rfl, h.2.2⟩
  · simp [recoverD, hu]
  refine C.block fun K1 hK1 => ?_
  refine C.seqK fun K2 hK2 => ?_
  refine C.region ?_
  refine O.eqlN0 rfl Tryz.underlying20 ?_
  refine O.nil ?_
  refine hK2 _ _ ?_
  refine C.condT rfl ?_
  refine C.region ?_
  refine O.asg ?_
  refine O.nil ?_
  exact hK1 _ _ rfl
theorem caught_wrong (b : Nat) (x : Int) (w : World) (ho : Own w b 33 [.int .i64 x]) : CallsD Tryz.prog 82 #[.pointer (some ⟨b, 0, none⟩)] (.panicking [{ v := .iface 150 (.agg #[]), recovered := false }]) w fun e u' w' => (∃ q, e = .returned q) ∧ settle u' = .returning ∧ (Own w' b 33 [.int .i64 12] ∧ Ext (fun j => j = b) w w') := by
  have hbl := ho.lt
  refine (callsD_recover (S := fun w' => Own w' b 33 [.int .i64 12] ∧ Ext (fun j => j = b) w w') (u' := .panicking [{ v := .iface 150 (.agg #[]), recovered := true }]) (rv := .iface 150 (.agg #[])) (args := [.pointer (some ⟨b, 0, none⟩)]) (n := Tryz.f82.ntmps) Tryz.func82 rfl rfl (Nat.le_of_ble_eq_true rfl) rfl (fun c₀ cs hu => ?_) ?_).mono fun e u2 w' h => ⟨h.1, by rw [h.2.1]; rfl, h.2.2⟩
  · simp [recoverD, hu]
  refine C.block fun K1 hK1 => ?_
  refine C.seqK fun K2 hK2 => ?_
  refine C.region ?_
  refine O.eqlN1 rfl rfl Tryz.underlying20 ?_
  refine O.nil ?_
  refine hK2 _ _ ?_
  refine C.condF rfl ?_
  refine C.seqK fun K3 hK3 => ?_
  refine C.region ?_
  refine O.holds Tryz.underlying150 rfl rfl ?_
  refine O.extract rfl rfl ?_
  refine O.extract rfl rfl ?_
  refine O.nil ?_
  refine hK3 _ _ ?_
  refine C.condT rfl ?_
  refine C.seqK fun K4 hK4 => ?_
  refine C.region ?_
  refine O.alloc Tryz.zeroValue150 (fun b3 w1 hb3 hz3 e1 => ?_)
  have z1 := e1.size
  refine O.storeA (vs := []) Tryz.sizeOf150 rfl rfl rfl (by simp) hz3.own (Nat.zero_le _) (fun w2 hs2 e2 z2 => ?_)
  refine O.nil ?_
  refine hK4 _ _ ?_
  refine C.region ?_
  refine O.mv ?_
  refine O.nilChk rfl ?_
  refine O.store Tryz.sizeOf33 rfl rfl rfl ((ho.keep e1).keepM e2 (by intro h; (try dsimp only at h); omega)) (by simp) (fun w3 hs3 e3 z3 => ?_)
  refine O.nil ?_
  refine hK1 _ _ ⟨hs3, ?_⟩
  exact Ext.trans (Ext.new (Le.to e1) e2 (by intro i hi h; (try dsimp only at h); omega)) e3
set_option maxHeartbeats 2000000 in
theorem prefix_spec (v0 : Value) (l : List UInt8) (F : Nat → Prop) (w : World) (hl : Sl byteE w F v0 l) (hL : l.length ≤ 1000000) (hF : ∀ j, F j → j < w.heap.size) (mx : Mx w) :
    Ret Tryz.prog 58 #[v0] w (fun v w' => ∃ (v1 v2 v3 : Value) (c : Cn.Cart) (k' : Nat) (e : Int), v = .tuple #[.agg #[v1, v2, v3], .int .i64 (k' : Int), .int .i64 e] ∧ Fre Dt.dotF 51 w' (fun j => w.heap.size ≤ j ∧ j < w'.heap.size) v1 c.1.1 ∧ Fre Dt.dotF 51 w' (fun j => w.heap.size ≤ j ∧ j < w'.heap.size) v2 c.1.2 ∧ SlI 56 53 w' (fun j => w.heap.size ≤ j ∧ j < w'.heap.size) v3 c.2 ∧ Cn.big c ∧ Cn.Pref l c k' e ∧ Le w w') := by
  have hgl := mx.lt
  have hll := hl.le
  have _hF9 := hF
  refine enterD (args := [v0]) (n := 14) (ks := [2, 3, 4]) Tryz.func58 rfl rfl (Nat.le_of_ble_eq_true rfl) rfl ?_
  refine C.region ?_
  refine O.alloc Tryz.zeroValue28 (fun b2 w1 hb2 hz2 e1 => ?_)
  have z1 := e1.size
  have h2 := hz2.own
  have hl2 := h2.lt
  refine O.asg ?_
  refine O.alloc Tryz.zeroValue33 (fun b4 w2 hb4 hz4 e2 => ?_)
  have z2 := e2.size
  have h4 := hz4.own
  have hl4 := h4.lt
  refine O.nil ?_
  refine ⟨.pointer (some ⟨b4, 0, none⟩), (fun ch w' => ch = [{ v := .iface 150 (.agg #[]), recovered := false }] ∧ Cn.No Cn.val Cn.bytes l 0 ∧ Le w2 w'), rfl, ?_, ?_⟩
  ·
    refine CD.seqK fun K1 hK1 => ?_
    refine CD.region (by kernel_rfl) rfl ?_
    refine O.mv ?_
    refine O.call Tryz.call83 (args1 rfl) (rdNew_spec _ l _ _ ((hl.keep e1).keep e2) hL) ?_
    rintro v_8 w3 ⟨brv8, vrv8, rfl, hov8, hlv8, hbv8, hb2v8, e3⟩
    have z3 := e3.size
    refine O.asg ?_
    refine O.nil ?_
    refine hK1 _ _ ?_
    refine CD.seqK fun K2 hK2 => ?_
    refine CD.region (by kernel_rfl) rfl ?_
    refine O.mv ?_
    refine O.callZ Tryz.call84 (args1 rfl) (dwhole_spec brv8 vrv8 l 0 _ _ hov8 hlv8 (Nat.zero_le _) (fun j hj => by have hj1 := hj.1; have hj2 := hj.2; exact ⟨by omega, by omega⟩) hL (((mx.keep e1).keep e2).keep e3) (by omega)) (fun ch_ wz_ hz_ => ?_) ?_
    ·
      exact ⟨hz_.1, hz_.2.1, Ext.new e3 hz_.2.2 (by intro i hi h; (try dsimp only at h); omega)⟩
    rintro v_10 w4 ⟨vav10, vbv10, vcv10, cv10, knv10, rfl, hov10, hxv10, hyv10, hzv10, hgv10, hcv10, hsv10, e4⟩
    have z4 := e4.size
    obtain ⟨p1, rfl⟩ := hxv10.slv
    obtain ⟨p2, rfl⟩ := hyv10.slv
    obtain ⟨p3, rfl⟩ := hzv10.sl.slv
    refine O.alloc Tryz.zeroValue28 (fun b6 w5 hb6 hz6 e5 => ?_)
    have z5 := e5.size
    have h6 := hz6.own
    have hl6 := h6.lt
    refine O.storeA (vs := [slv p1, slv p2, slv p3]) Tryz.sizeOf28 rfl rfl rfl (by simp [slv, Value.oneCell']) h6 (Nat.le_of_ble_eq_true rfl) (fun w6 hs6 e6 z6 => ?_)
    refine O.nil ?_
    refine hK2 _ _ ?_
    refine CD.seqK fun K3 hK3 => ?_
    refine CD.drawB (wB := (bare w6)) (by kernel_rfl) fun w7 e7 => ?_
    have z7 := e7.size
    refine D.take (i := 1) rfl rfl rfl rfl (by kernel_rfl) (Ext.bare (Ext.new (Ext.refl (fun _ => True) _) e7 (fun _ _ _ => trivial))) ⟨pure _, rfl⟩ (fun w_ hw_ N_ hN => (O.mv (O.nil hN))) ?_
    refine D.many [0, 2] (by kernel_rfl) (by decide) ⟨?_, ?_, trivial⟩
    ·
      refine D.stepU rfl rfl ?_
      refine O.loadOA Tryz.isAgg28 Tryz.sizeOf28 rfl (hs6.keep e7) (Nat.le_of_ble_eq_true rfl) ?_
      refine O.nil ⟨(Ext.bare (Ext.new (Ext.refl (fun _ => True) _) e7 (fun _ _ _ => trivial))), ?_⟩
      refine D.one (i := 2) rfl rfl (by kernel_rfl) ?_
      refine O.call Tryz.call85 (args1 rfl) (rdAt_spec brv8 vrv8 l knv10 _ _ (((hov10.keep e5).keepM e6 (by intro h; (try dsimp only at h); omega)).keep e7) ((((hlv8.keepM e4 (by intro k hk h; (try dsimp only at hk); (try dsimp only at h); omega)).keep e5).keepM e6 (by intro k hk h; (try dsimp only at hk); (try dsimp only at h); omega)).keep e7) (hsv10.2.2) (fun j hj => by have hj1 := hj.1; have hj2 := hj.2; exact ⟨by omega, by omega⟩)) ?_
      rintro v_13 w8 ⟨rfl, hw_⟩
      replace hw_ := hw_.symm
      subst hw_
      refine O.nil ⟨(Ext.bare (Ext.new (Ext.refl (fun _ => True) _) e7 (fun _ _ _ => trivial))), ?_⟩
      refine D.one (i := 3) rfl rfl (by kernel_rfl) ?_
      refine O.storeA (vs := [slv p1, slv p2, slv p3]) Tryz.sizeOf28 rfl rfl rfl (by simp [slv, Value.oneCell']) ((((((h2.keep e2).keep e3).keepM e4 (by intro h; (try dsimp only at h); omega)).keep e5).keepM e6 (by intro h; (try dsimp only at h); omega)).keep e7) (Nat.le_of_ble_eq_true rfl) (fun w8 hs8 e8 z8 => ?_)
      refine O.nil ⟨(Ext.bare (Ext.new (Ext.new (Ext.refl (fun _ => True) _) e7 (fun _ _ _ => trivial)) e8 (fun _ _ _ => trivial))), ?_⟩
      refine D.take (i := 4) rfl rfl rfl rfl (by kernel_rfl) (Ext.bare (Ext.new (Ext.new (Ext.refl (fun _ => True) _) e7 (fun _ _ _ => trivial)) e8 (fun _ _ _ => trivial))) ⟨pure _, rfl⟩ (fun w_ hw_ N_ hN => (O.asg (O.nil hN))) ?_
      refine D.one (i := 5) rfl rfl (by kernel_rfl) ?_
      refine O.store Tryz.sizeOf33 rfl rfl rfl ((((((h4.keep e3).keepM e4 (by intro h; (try dsimp only at h); omega)).keep e5).keepM e6 (by intro h; (try dsimp only at h); omega)).keep e7).keepM e8 (by intro h; (try dsimp only at h); omega)) (by decide) (fun w9 hs9 e9 z9 => ?_)
      try simp only [Int.toNat_natCast, Nat.zero_add, Nat.mul_one] at hs9
      refine O.nil ⟨(Ext.bare (Ext.new (Ext.new (Ext.new (Ext.refl (fun _ => True) _) e7 (fun _ _ _ => trivial)) e8 (fun _ _ _ => trivial)) e9 (fun _ _ _ => trivial))), ?_⟩
      refine D.done (by kernel_rfl) ?_
      refine hK3 _ _ ?_
      refine CD.ret ?_
      refine leaves1 (by simp) Tryz.call82 (caught_idle _ _) ?_
      rintro _ rfl
      refine ⟨_, res_ctc (s := 3) rfl (getD_Fr _ _ 2) (getD_Fr _ _ 3) (getD_Fr _ _ 4) Tryz.isAgg28 Tryz.sizeOf28 (hs8.keepM e9 (by intro h; (try dsimp only at h); omega)) rfl Tryz.isAgg33 hs9, ?_⟩
      exact ⟨slv p1, slv p2, slv p3, cv10, knv10, 0, rfl, ((((((hxv10.keep e5).keepM e6 (by intro k hk h; first | (have q1 := hF k hk; (try dsimp only at h); omega) | (have q1 := hF2 k hk; (try dsimp only at h); omega) | (have q1 := hFb k hk; (try dsimp only at h); omega) | ((try dsimp only at hk); (try dsimp only at h); omega))).keep e7).keepM e8 (by intro k hk h; first | (have q1 := hF k hk; (try dsimp only at h); omega) | (have q1 := hF2 k hk; (try dsimp only at h); omega) | (have q1 := hFb k hk; (try dsimp only at h); omega) | ((try dsimp only at hk); (try dsimp only at h); omega))).keepM e9 (by intro k hk h; first | (have q1 := hF k hk; (try dsimp only at h); omega) | (have q1 := hF2 k hk; (try dsimp only at h); omega) | (have q1 := hFb k hk; (try dsimp only at h); omega) | ((try dsimp only at hk); (try dsimp only at h); omega)))).weak (by intro j hj; (try dsimp only at hj); (try dsimp only); omega), ((((((hyv10.keep e5).keepM e6 (by intro k hk h; first | (have q1 := hF k hk; (try dsimp only at h); omega) | (have q1 := hF2 k hk; (try dsimp only at h); omega) | (have q1 := hFb k hk; (try dsimp only at h); omega) | ((try dsimp only at hk); (try dsimp only at h); omega))).keep e7).keepM e8 (by intro k hk h; first | (have q1 := hF k hk; (try dsimp only at h); omega) | (have q1 := hF2 k hk; (try dsimp only at h); omega) | (have q1 := hFb k hk; (try dsimp only at h); omega) | ((try dsimp only at hk); (try dsimp only at h); omega))).keepM e9 (by intro k hk h; first | (have q1 := hF k hk; (try dsimp only at h); omega) | (have q1 := hF2 k hk; (try dsimp only at h); omega) | (have q1 := hFb k hk; (try dsimp only at h); omega) | ((try dsimp only at hk); (try dsimp only at h); omega)))).weak (by intro j hj; (try dsimp only at hj); (try dsimp only); omega), ((((((hzv10.keep e5).keepM e6 (by intro k hk h; first | (have q1 := hF k hk; (try dsimp only at h); omega) | (have q1 := hF2 k hk; (try dsimp only at h); omega) | (have q1 := hFb k hk; (try dsimp only at h); omega) | ((try dsimp only at hk); (try dsimp only at h); omega))).keep e7).keepM e8 (by intro k hk h; first | (have q1 := hF k hk; (try dsimp only at h); omega) | (have q1 := hF2 k hk; (try dsimp only at h); omega) | (have q1 := hFb k hk; (try dsimp only at h); omega) | ((try dsimp only at hk); (try dsimp only at h); omega))).keepM e9 (by intro k hk h; first | (have q1 := hF k hk; (try dsimp only at h); omega) | (have q1 := hF2 k hk; (try dsimp only at h); omega) | (have q1 := hFb k hk; (try dsimp only at h); omega) | ((try dsimp only at hk); (try dsimp only at h); omega)))).weak (by intro j hj; (try dsimp only at hj); (try dsimp only); omega), hgv10, .inl ⟨rfl, hcv10, hsv10⟩, (Ext.new (Ext.new (Ext.trans (Ext.new (Ext.trans (Ext.new (Ext.trans (Ext.trans e1 e2) e3) e4 (by rintro i hi rfl; omega)) e5) e6 (by rintro i hi rfl; omega)) e7) e8 (by rintro i hi rfl; omega)) e9 (by rintro i hi rfl; omega))⟩
    ·
      refine D.stepU rfl rfl ?_
      refine O.call Tryz.call85 (args1 rfl) (rdAt_spec brv8 vrv8 l knv10 _ _ (((hov10.keep e5).keepM e6 (by intro h; (try dsimp only at h); omega)).keep e7) ((((hlv8.keepM e4 (by intro k hk h; (try dsimp only at hk); (try dsimp only at h); omega)).keep e5).keepM e6 (by intro k hk h; (try dsimp only at hk); (try dsimp only at h); omega)).keep e7) (hsv10.2.2) (fun j hj => by have hj1 := hj.1; have hj2 := hj.2; exact ⟨by omega, by omega⟩)) ?_
      rintro v_13 w10 ⟨rfl, hw_⟩
      replace hw_ := hw_.symm
      subst hw_
      refine O.nil ⟨(Ext.bare (Ext.new (Ext.refl (fun _ => True) _) e7 (fun _ _ _ => trivial))), ?_⟩
      refine D.one (i := 0) rfl rfl (by kernel_rfl) ?_
      refine O.loadOA Tryz.isAgg28 Tryz.sizeOf28 rfl (hs6.keep e7) (Nat.le_of_ble_eq_true rfl) ?_
      refine O.nil ⟨(Ext.bare (Ext.new (Ext.refl (fun _ => True) _) e7 (fun _ _ _ => trivial))), ?_⟩
      refine D.one (i := 3) rfl rfl (by kernel_rfl) ?_
      refine O.storeA (vs := [slv p1, slv p2, slv p3]) Tryz.sizeOf28 rfl rfl rfl (by simp [slv, Value.oneCell']) ((((((h2.keep e2).keep e3).keepM e4 (by intro h; (try dsimp only at h); omega)).keep e5).keepM e6 (by intro h; (try dsimp only at h); omega)).keep e7) (Nat.le_of_ble_eq_true rfl) (fun w10 hs10 e10 z10 => ?_)
      refine O.nil ⟨(Ext.bare (Ext.new (Ext.new (Ext.refl (fun _ => True) _) e7 (fun _ _ _ => trivial)) e10 (fun _ _ _ => trivial))), ?_⟩
      refine D.take (i := 4) rfl rfl rfl rfl (by kernel_rfl) (Ext.bare (Ext.new (Ext.new (Ext.refl (fun _ => True) _) e7 (fun _ _ _ => trivial)) e10 (fun _ _ _ => trivial))) ⟨pure _, rfl⟩ (fun w_ hw_ N_ hN => (O.asg (O.nil hN))) ?_
      refine D.one (i := 5) rfl rfl (by kernel_rfl) ?_
      refine O.store Tryz.sizeOf33 rfl rfl rfl ((((((h4.keep e3).keepM e4 (by intro h; (try dsimp only at h); omega)).keep e5).keepM e6 (by intro h; (try dsimp only at h); omega)).keep e7).keepM e10 (by intro h; (try dsimp only at h); omega)) (by decide) (fun w11 hs11 e11 z11 => ?_)
      try simp only [Int.toNat_natCast, Nat.zero_add, Nat.mul_one] at hs11
      refine O.nil ⟨(Ext.bare (Ext.new (Ext.new (Ext.new (Ext.refl (fun _ => True) _) e7 (fun _ _ _ => trivial)) e10 (fun _ _ _ => trivial)) e11 (fun _ _ _ => trivial))), ?_⟩
      refine D.done (by kernel_rfl) ?_
      refine hK3 _ _ ?_
      refine CD.ret ?_
      refine leaves1 (by simp) Tryz.call82 (caught_idle _ _) ?_
      rintro _ rfl
      refine ⟨_, res_ctc (s := 3) rfl (getD_Fr _ _ 2) (getD_Fr _ _ 3) (getD_Fr _ _ 4) Tryz.isAgg28 Tryz.sizeOf28 (hs10.keepM e11 (by intro h; (try dsimp only at h); omega)) rfl Tryz.isAgg33 hs11, ?_⟩
      exact ⟨slv p1, slv p2, slv p3, cv10, knv10, 0, rfl, ((((((hxv10.keep e5).keepM e6 (by intro k hk h; first | (have q1 := hF k hk; (try dsimp only at h); omega) | (have q1 := hF2 k hk; (try dsimp only at h); omega) | (have q1 := hFb k hk; (try dsimp only at h); omega) | ((try dsimp only at hk); (try dsimp only at h); omega))).keep e7).keepM e10 (by intro k hk h; first | (have q1 := hF k hk; (try dsimp only at h); omega) | (have q1 := hF2 k hk; (try dsimp only at h); omega) | (have q1 := hFb k hk; (try dsimp only at h); omega) | ((try dsimp only at hk); (try dsimp only at h); omega))).keepM e11 (by intro k hk h; first | (have q1 := hF k hk; (try dsimp only at h); omega) | (have q1 := hF2 k hk; (try dsimp only at h); omega) | (have q1 := hFb k hk; (try dsimp only at h); omega) | ((try dsimp only at hk); (try dsimp only at h); omega)))).weak (by intro j hj; (try dsimp only at hj); (try dsimp only); omega), ((((((hyv10.keep e5).keepM e6 (by intro k hk h; first | (have q1 := hF k hk; (try dsimp only at h); omega) | (have q1 := hF2 k hk; (try dsimp only at h); omega) | (have q1 := hFb k hk; (try dsimp only at h); omega) | ((try dsimp only at hk); (try dsimp only at h); omega))).keep e7).keepM e10 (by intro k hk h; first | (have q1 := hF k hk; (try dsimp only at h); omega) | (have q1 := hF2 k hk; (try dsimp only at h); omega) | (have q1 := hFb k hk; (try dsimp only at h); omega) | ((try dsimp only at hk); (try dsimp only at h); omega))).keepM e11 (by intro k hk h; first | (have q1 := hF k hk; (try dsimp only at h); omega) | (have q1 := hF2 k hk; (try dsimp only at h); omega) | (have q1 := hFb k hk; (try dsimp only at h); omega) | ((try dsimp only at hk); (try dsimp only at h); omega)))).weak (by intro j hj; (try dsimp only at hj); (try dsimp only); omega), ((((((hzv10.keep e5).keepM e6 (by intro k hk h; first | (have q1 := hF k hk; (try dsimp only at h); omega) | (have q1 := hF2 k hk; (try dsimp only at h); omega) | (have q1 := hFb k hk; (try dsimp only at h); omega) | ((try dsimp only at hk); (try dsimp only at h); omega))).keep e7).keepM e10 (by intro k hk h; first | (have q1 := hF k hk; (try dsimp only at h); omega) | (have q1 := hF2 k hk; (try dsimp only at h); omega) | (have q1 := hFb k hk; (try dsimp only at h); omega) | ((try dsimp only at hk); (try dsimp only at h); omega))).keepM e11 (by intro k hk h; first | (have q1 := hF k hk; (try dsimp only at h); omega) | (have q1 := hF2 k hk; (try dsimp only at h); omega) | (have q1 := hFb k hk; (try dsimp only at h); omega) | ((try dsimp only at hk); (try dsimp only at h); omega)))).weak (by intro j hj; (try dsimp only at hj); (try dsimp only); omega), hgv10, .inl ⟨rfl, hcv10, hsv10⟩, (Ext.new (Ext.new (Ext.trans (Ext.new (Ext.trans (Ext.new (Ext.trans (Ext.trans e1 e2) e3) e4 (by rintro i hi rfl; omega)) e5) e6 (by rintro i hi rfl; omega)) e7) e10 (by rintro i hi rfl; omega)) e11 (by rintro i hi rfl; omega))⟩
  ·
    rintro a ch wz hh ⟨rfl, hno, ez⟩
    refine leaves1 (by simp) Tryz.call82 (caught_wrong b4 0 wz ((h4).keep ez)) ?_
    rintro w9 ⟨ho9, e9⟩
    have h2l := (((h2.keep e2)).keep ez).lt
    refine ⟨_, res_ctc (s := 3) rfl (hh 2 (by decide)) (hh 3 (by decide)) (hh 4 (by decide)) Tryz.isAgg28 Tryz.sizeOf28 ((((h2.keep e2)).keep ez).keepM e9 (by intro h; (try dsimp only at h); omega)) rfl Tryz.isAgg33 ho9, ?_⟩
    exact ⟨_, _, _, Cn.nil0, 0, 12, rfl, Fre.nil _ _ _ _, Fre.nil _ _ _ _, SlI.nil _ _ _ _, Cn.big_nil0, .inr ⟨rfl, rfl, rfl, hno⟩, Ext.new (Ext.trans (Ext.trans e1 e2) ez) e9 (by intro i hi h; (try dsimp only at h); omega)⟩

set_option maxHeartbeats 2000000 in
theorem dcontext_spec (v0 : Value) (l : List UInt8) (F : Nat → Prop) (w : World) (hl : Sl byteE w F v0 l) (hL : l.length ≤ 1000000) (hF : ∀ j, F j → j < w.heap.size) (mx : Mx w) :
    Ret Tryz.prog 77 #[v0] w (fun v w' => ∃ (v1 v2 : Value) (x : Cn.Ctx) (e : Int), v = .tuple #[.agg #[v1, v2], .int .i64 e] ∧ Sl Dt.dotF.enc w' (fun j => w.heap.size ≤ j ∧ j < w'.heap.size) v1 x.1 ∧ Sl Dt.dotF.enc w' (fun j => w.heap.size ≤ j ∧ j < w'.heap.size) v2 x.2 ∧ (x.1.length ≤ 1000000 ∧ x.2.length ≤ 1000000) ∧ Cn.CtxRes l x e ∧ Le w w') := by
  have hgl := mx.lt
  have hll := hl.le
  have _hF9 := hF
  refine enterD (args := [v0]) (n := 14) (ks := [2, 3]) Tryz.func77 rfl rfl (Nat.le_of_ble_eq_true rfl) rfl ?_
  refine C.region ?_
  refine O.alloc Tryz.zeroValue25 (fun b2 w1 hb2 hz2 e1 => ?_)
  have z1 := e1.size
  have h2 := hz2.own
  have hl2 := h2.lt
  refine O.alloc Tryz.zeroValue33 (fun b3 w2 hb3 hz3 e2 => ?_)
  have z2 := e2.size
  have h3 := hz3.own
  have hl3 := h3.lt
  refine O.nil ?_
  refine ⟨.pointer (some ⟨b3, 0, none⟩), (fun ch w' => ch = [{ v := .iface 150 (.agg #[]), recovered := false }] ∧ (∀ y, Cn.comp y → l ≠ Cn.ctxB y) ∧ Le w2 w'), rfl, ?_, ?_⟩
  ·
    refine CD.seqK fun K1 hK1 => ?_
    refine CD.region (by kernel_rfl) rfl ?_
    refine O.mv ?_
    refine O.call Tryz.call83 (args1 rfl) (rdNew_spec _ l _ _ ((hl.keep e1).keep e2) hL) ?_
    rintro v_7 w3 ⟨brv7, vrv7, rfl, hov7, hlv7, hbv7, hb2v7, e3⟩
    have z3 := e3.size
    refine O.asg ?_
    refine O.nil ?_
    refine hK1 _ _ ?_
    refine CD.seqK fun K2 hK2 => ?_
    refine CD.region (by kernel_rfl) rfl ?_
    refine O.mv ?_
    refine O.callZ Tryz.call104 (args1 rfl) (dseen_spec brv7 vrv7 l 0 _ _ hov7 hlv7 (Nat.zero_le _) (fun j hj => by have hj1 := hj.1; have hj2 := hj.2; exact ⟨by omega, by omega⟩) hL) (fun ch_ wz_ hz_ => ?_) ?_
    ·
      exact ⟨hz_.1, Cn.no_whole hz_.2.1, Ext.new e3 hz_.2.2 (by intro i hi h; (try dsimp only at h); omega)⟩
    rintro v_9 w4 ⟨vav9, vbv9, xv9, knv9, rfl, hov9, hxv9, hyv9, hnv9, hcv9, hsv9, e4⟩
    have z4 := e4.size
    replace hxv9 := hxv9.sl
    replace hyv9 := hyv9.sl
    obtain ⟨p1, rfl⟩ := hxv9.slv
    obtain ⟨p2, rfl⟩ := hyv9.slv
    refine O.alloc Tryz.zeroValue25 (fun b5 w5 hb5 hz5 e5 => ?_)
    have z5 := e5.size
    have h5 := hz5.own
    have hl5 := h5.lt
    refine O.storeA (vs := [slv p1, slv p2]) Tryz.sizeOf25 rfl rfl rfl (by simp [slv, Value.oneCell']) h5 (Nat.le_of_ble_eq_true rfl) (fun w6 hs6 e6 z6 => ?_)
    refine O.nil ?_
    refine hK2 _ _ ?_
    refine CD.seqK fun K3 hK3 => ?_
    refine CD.region (by kernel_rfl) rfl ?_
    refine O.mv ?_
    refine O.call Tryz.call106 (args1 rfl) (rdEnd_spec brv7 vrv7 l knv9 _ _ ((hov9.keep e5).keepM e6 (by intro h; (try dsimp only at h); omega)) (((hlv7.keepM e4 (by intro k hk h; (try dsimp only at hk); (try dsimp only at h); omega)).keep e5).keepM e6 (by intro k hk h; (try dsimp only at hk); (try dsimp only at h); omega)) (hsv9.2.2) (fun j hj => by have hj1 := hj.1; have hj2 := hj.2; exact ⟨by omega, by omega⟩)) ?_
    rintro v_11 w7 ⟨rfl, e7⟩
    have z7 := e7.size
    refine O.callZ Tryz.call105 (args1 rfl) (must_spec _ _) (fun ch_ wz_ hz_ => ?_) ?_
    ·
      have hk9 : knv9 < l.length := Classical.byContradiction fun h => hz_.2.1 (if_neg h)
      exact ⟨hz_.1, Cn.ctx_more hsv9 hcv9 hk9, Ext.trans (Ext.trans (Ext.new (Ext.trans (Ext.new e3 e4 (by rintro i hi rfl; omega)) e5) e6 (by rintro i hi rfl; omega)) e7) hz_.2.2⟩
    rintro v_12 w8 ⟨rfl, hzv12, e8⟩
    have z8 := e8.size
    refine O.nil ?_
    refine hK3 _ _ ?_
    refine CD.seqK fun K4 hK4 => ?_
    refine CD.region (by kernel_rfl) rfl ?_
    refine O.loadOA Tryz.isAgg25 Tryz.sizeOf25 rfl ((hs6.keep e7).keep e8) (Nat.le_of_ble_eq_true rfl) ?_
    refine O.storeA (vs := [slv p1, slv p2]) Tryz.sizeOf25 rfl rfl rfl (by simp [slv, Value.oneCell']) (((((((h2.keep e2).keep e3).keepM e4 (by intro h; (try dsimp only at h); omega)).keep e5).keepM e6 (by intro h; (try dsimp only at h); omega)).keep e7).keep e8) (Nat.le_of_ble_eq_true rfl) (fun w9 hs9 e9 z9 => ?_)
    refine O.store Tryz.sizeOf33 rfl rfl rfl (((((((h3.keep e3).keepM e4 (by intro h; (try dsimp only at h); omega)).keep e5).keepM e6 (by intro h; (try dsimp only at h); omega)).keep e7).keep e8).keepM e9 (by intro h; (try dsimp only at h); omega)) (by decide) (fun w10 hs10 e10 z10 => ?_)
    try simp only [Int.toNat_natCast, Nat.zero_add, Nat.mul_one] at hs10
    refine O.nil ?_
    refine hK4 _ _ ?_
    refine CD.ret ?_
    have hk9 : knv9 = l.length := by
      have h1 := hsv9.2.2
      rcases Nat.lt_or_ge knv9 l.length with h | h
      · rw [if_pos h] at hzv12
        cases hzv12
      · omega
    refine leaves1 (by simp) Tryz.call82 (caught_idle _ _) ?_
    rintro _ rfl
    refine ⟨_, res_cc (s := 2) rfl (getD_Fr _ _ 2) (getD_Fr _ _ 3) Tryz.isAgg25 Tryz.sizeOf25 (hs9.keepM e10 (by intro h; (try dsimp only at h); omega)) rfl Tryz.isAgg33 hs10, ?_⟩
    exact ⟨slv p1, slv p2, xv9, 0, rfl, (((((((hxv9.keep e5).keepM e6 (by intro k hk h; first | (have q1 := hF k hk; (try dsimp only at h); omega) | (have q1 := hF2 k hk; (try dsimp only at h); omega) | (have q1 := hFb k hk; (try dsimp only at h); omega) | ((try dsimp only at hk); (try dsimp only at h); omega))).keep e7).keep e8).keepM e9 (by intro k hk h; first | (have q1 := hF k hk; (try dsimp only at h); omega) | (have q1 := hF2 k hk; (try dsimp only at h); omega) | (have q1 := hFb k hk; (try dsimp only at h); omega) | ((try dsimp only at hk); (try dsimp only at h); omega))).keepM e10 (by intro k hk h; first | (have q1 := hF k hk; (try dsimp only at h); omega) | (have q1 := hF2 k hk; (try dsimp only at h); omega) | (have q1 := hFb k hk; (try dsimp only at h); omega) | ((try dsimp only at hk); (try dsimp only at h); omega)))).weak (by intro j hj; (try dsimp only at hj); (try dsimp only); omega), (((((((hyv9.keep e5).keepM e6 (by intro k hk h; first | (have q1 := hF k hk; (try dsimp only at h); omega) | (have q1 := hF2 k hk; (try dsimp only at h); omega) | (have q1 := hFb k hk; (try dsimp only at h); omega) | ((try dsimp only at hk); (try dsimp only at h); omega))).keep e7).keep e8).keepM e9 (by intro k hk h; first | (have q1 := hF k hk; (try dsimp only at h); omega) | (have q1 := hF2 k hk; (try dsimp only at h); omega) | (have q1 := hFb k hk; (try dsimp only at h); omega) | ((try dsimp only at hk); (try dsimp only at h); omega))).keepM e10 (by intro k hk h; first | (have q1 := hF k hk; (try dsimp only at h); omega) | (have q1 := hF2 k hk; (try dsimp only at h); omega) | (have q1 := hFb k hk; (try dsimp only at h); omega) | ((try dsimp only at hk); (try dsimp only at h); omega)))).weak (by intro j hj; (try dsimp only at hj); (try dsimp only); omega), ⟨by have := hnv9.1; omega, by have := hnv9.2; omega⟩, .inl ⟨rfl, hcv9, Cn.seg_whole hsv9 hk9⟩, (Ext.new (Ext.new (Ext.trans (Ext.trans (Ext.new (Ext.trans (Ext.new (Ext.trans (Ext.trans e1 e2) e3) e4 (by rintro i hi rfl; omega)) e5) e6 (by rintro i hi rfl; omega)) e7) e8) e9 (by rintro i hi rfl; omega)) e10 (by rintro i hi rfl; omega))⟩
  ·
    rintro a ch wz hh ⟨rfl, hno, ez⟩
    refine leaves1 (by simp) Tryz.call82 (caught_wrong b3 0 wz ((h3).keep ez)) ?_
    rintro w9 ⟨ho9, e9⟩
    have h2l := (((h2.keep e2)).keep ez).lt
    refine ⟨_, res_cc (s := 2) rfl (hh 2 (by decide)) (hh 3 (by decide)) Tryz.isAgg25 Tryz.sizeOf25 ((((h2.keep e2)).keep ez).keepM e9 (by intro h; (try dsimp only at h); omega)) rfl Tryz.isAgg33 ho9, ?_⟩
    exact ⟨_, _, ([], []), 12, rfl, Sl.nil _ _ _, Sl.nil _ _ _, ⟨by simp, by simp⟩, .inr ⟨rfl, rfl, hno⟩, Ext.new (Ext.trans (Ext.trans e1 e2) ez) e9 (by intro i hi h; (try dsimp only at h); omega)⟩

set_option maxHeartbeats 2000000 in
theorem dcart_spec (v0 : Value) (l : List UInt8) (F : Nat → Prop) (w : World) (hl : Sl byteE w F v0 l) (hL : l.length ≤ 1000000) (hF : ∀ j, F j → j < w.heap.size) (mx : Mx w) :
    Ret Tryz.prog 34 #[v0] w (fun v w' => ∃ (v1 v2 v3 : Value) (c : Cn.Cart) (e : Int), v = .tuple #[.agg #[v1, v2, v3], .int .i64 e] ∧ Fre Dt.dotF 51 w' (fun j => w.heap.size ≤ j ∧ j < w'.heap.size) v1 c.1.1 ∧ Fre Dt.dotF 51 w' (fun j => w.heap.size ≤ j ∧ j < w'.heap.size) v2 c.1.2 ∧ SlI 56 53 w' (fun j => w.heap.size ≤ j ∧ j < w'.heap.size) v3 c.2 ∧ Cn.big c ∧ Cn.CartRes l c e ∧ Le w w') := by
  have hgl := mx.lt
  have hll := hl.le
  refine enter (args := [v0]) (n := 23) Tryz.func34 rfl rfl (Nat.le_of_ble_eq_true rfl) ?_
  refine C.seqK fun K1 hK1 => ?_
  refine C.region ?_
  refine O.alloc Tryz.zeroValue28 (fun b2 w1 hb2 hz2 e1 => ?_)
  have z1 := e1.size
  have h2 := hz2.own
  have hl2 := h2.lt
  refine O.asg ?_
  refine O.nil ?_
  refine hK1 _ _ ?_
  refine C.seqK fun K2 hK2 => ?_
  refine C.region ?_
  refine O.mv ?_
  refine O.call Tryz.call58 (args1 rfl) (prefix_spec _ l _ _ (hl.keep e1) hL (fun j hj => by have q1 := hF j hj; omega) (mx.keep e1)) ?_
  rintro v_9 w2 ⟨vav9, vbv9, vcv9, cv9, knv9, env9, rfl, hxv9, hyv9, hzv9, hgv9, hpv9, e2⟩
  have z2 := e2.size
  obtain ⟨p1, rfl⟩ := hxv9.slv
  obtain ⟨p2, rfl⟩ := hyv9.slv
  obtain ⟨p3, rfl⟩ := hzv9.sl.slv
  refine O.mv ?_
  refine O.extract rfl rfl ?_
  refine O.extract rfl rfl ?_
  refine O.extract rfl rfl ?_
  refine O.alloc Tryz.zeroValue28 (fun b4 w3 hb4 hz4 e3 => ?_)
  have z3 := e3.size
  have h4 := hz4.own
  have hl4 := h4.lt
  refine O.storeA (vs := [slv p1, slv p2, slv p3]) Tryz.sizeOf28 rfl rfl rfl (by simp [slv, Value.oneCell']) h4 (Nat.le_of_ble_eq_true rfl) (fun w4 hs4 e4 z4 => ?_)
  refine O.asg ?_
  refine O.asg ?_
  refine O.nil ?_
  refine hK2 _ _ ?_
  refine C.seqK fun K3 hK3 => ?_
  refine C.seqK fun K4 hK4 => ?_
  refine C.region ?_
  refine O.mv ?_
  refine O.neqI rfl rfl ?_
  refine O.mv ?_
  refine O.splitD (x := .tmp 15) rfl (fun c15 => ?_) (fun c15 => ?_)
  ·
    refine O.no rfl (noB (isT rfl c15) rfl) ?_
    refine O.no rfl (noB (isT rfl c15) rfl) ?_
    refine O.no rfl (noB (isT rfl c15) rfl) ?_
    refine O.no rfl (noB (isT rfl c15) rfl) ?_
    refine O.pickT (isT rfl c15) ?_
    refine O.nil ?_
    refine hK4 _ _ ?_
    refine C.condT rfl ?_
    refine C.seqK fun K5 hK5 => ?_
    refine C.region ?_
    refine O.build (cells := #[.slice none 0 0, .slice none 0 0, .slice none 0 0]) rfl (by kernel_rfl) ?_
    refine O.storeA (vs := [.slice none 0 0, .slice none 0 0, .slice none 0 0]) Tryz.sizeOf28 rfl rfl rfl (by simp [slv, Value.oneCell']) (((h2.keep e2).keep e3).keepM e4 (by intro h; (try dsimp only at h); omega)) (Nat.le_of_ble_eq_true rfl) (fun w5 hs5 e5 z5 => ?_)
    refine O.asg ?_
    refine O.nil ?_
    refine hK5 _ _ ?_
    refine C.ret ?_
    refine Outs.cellA2 rfl Tryz.isAgg28 Tryz.sizeOf28 rfl rfl hs5 rfl ?_
    rcases hpv9 with ⟨q1, q2, q3⟩ | ⟨q1, q2, q3, q4⟩
    · first
      | exact ⟨slv p1, slv p2, slv p3, cv9, 0, rfl, ((((hxv9.keep e3).keepM e4 (by intro k hk h; first | (have q1 := hF k hk; (try dsimp only at h); omega) | (have q1 := hF2 k hk; (try dsimp only at h); omega) | (have q1 := hFb k hk; (try dsimp only at h); omega) | ((try dsimp only at hk); (try dsimp only at h); omega))).keepM e5 (by intro k hk h; first | (have q1 := hF k hk; (try dsimp only at h); omega) | (have q1 := hF2 k hk; (try dsimp only at h); omega) | (have q1 := hFb k hk; (try dsimp only at h); omega) | ((try dsimp only at hk); (try dsimp only at h); omega)))).weak (by intro j hj; (try dsimp only at hj); (try dsimp only); omega), ((((hyv9.keep e3).keepM e4 (by intro k hk h; first | (have q1 := hF k hk; (try dsimp only at h); omega) | (have q1 := hF2 k hk; (try dsimp only at h); omega) | (have q1 := hFb k hk; (try dsimp only at h); omega) | ((try dsimp only at hk); (try dsimp only at h); omega))).keepM e5 (by intro k hk h; first | (have q1 := hF k hk; (try dsimp only at h); omega) | (have q1 := hF2 k hk; (try dsimp only at h); omega) | (have q1 := hFb k hk; (try dsimp only at h); omega) | ((try dsimp only at hk); (try dsimp only at h); omega)))).weak (by intro j hj; (try dsimp only at hj); (try dsimp only); omega), ((((hzv9.keep e3).keepM e4 (by intro k hk h; first | (have q1 := hF k hk; (try dsimp only at h); omega) | (have q1 := hF2 k hk; (try dsimp only at h); omega) | (have q1 := hFb k hk; (try dsimp only at h); omega) | ((try dsimp only at hk); (try dsimp only at h); omega))).keepM e5 (by intro k hk h; first | (have q1 := hF k hk; (try dsimp only at h); omega) | (have q1 := hF2 k hk; (try dsimp only at h); omega) | (have q1 := hFb k hk; (try dsimp only at h); omega) | ((try dsimp only at hk); (try dsimp only at h); omega)))).weak (by intro j hj; (try dsimp only at hj); (try dsimp only); omega), hgv9, .inl ⟨rfl, q2, Cn.seg_whole q3 (by omega)⟩, (Ext.new (Ext.new (Ext.trans (Ext.trans e1 e2) e3) e4 (by rintro i hi rfl; omega)) e5 (by rintro i hi rfl; omega))⟩
      | exact ⟨_, _, _, Cn.nil0, 12, rfl, Fre.nil _ _ _ _, Fre.nil _ _ _ _, SlI.nil _ _ _ _, Cn.big_nil0, .inr ⟨rfl, rfl, Cn.cart_more q3 q2 (by omega)⟩, (Ext.new (Ext.new (Ext.trans (Ext.trans e1 e2) e3) e4 (by rintro i hi rfl; omega)) e5 (by rintro i hi rfl; omega))⟩
      | (exfalso; omega)
    · first
      | exact ⟨_, _, _, Cn.nil0, 12, rfl, Fre.nil _ _ _ _, Fre.nil _ _ _ _, SlI.nil _ _ _ _, Cn.big_nil0, .inr ⟨rfl, rfl, Cn.no_whole q4⟩, (Ext.new (Ext.new (Ext.trans (Ext.trans e1 e2) e3) e4 (by rintro i hi rfl; omega)) e5 (by rintro i hi rfl; omega))⟩
      | (exfalso; omega)
  ·
    refine O.yes rfl (isF rfl c15) ?_
    refine O.mv ?_
    refine O.yes rfl (isF rfl c15) ?_
    refine O.mv ?_
    refine O.yes rfl (isF rfl c15) ?_
    refine O.len Tryz.underlying32 rfl (hl.keep (Ext.new (Ext.trans (Ext.trans e1 e2) e3) e4 (by rintro i hi rfl; omega))) ?_
    refine O.yes rfl (isF rfl c15) ?_
    refine O.neqI rfl rfl ?_
    refine O.pickF (isF rfl c15) ?_
    refine O.nil ?_
    refine hK4 _ _ ?_
    refine C.condD rfl (fun c20 => ?_) (fun c20 => ?_)
    ·
      refine C.seqK fun K6 hK6 => ?_
      refine C.region ?_
      refine O.build (cells := #[.slice none 0 0, .slice none 0 0, .slice none 0 0]) rfl (by kernel_rfl) ?_
      refine O.storeA (vs := [.slice none 0 0, .slice none 0 0, .slice none 0 0]) Tryz.sizeOf28 rfl rfl rfl (by simp [slv, Value.oneCell']) (((h2.keep e2).keep e3).keepM e4 (by intro h; (try dsimp only at h); omega)) (Nat.le_of_ble_eq_true rfl) (fun w6 hs6 e6 z6 => ?_)
      refine O.asg ?_
      refine O.nil ?_
      refine hK6 _ _ ?_
      refine C.ret ?_
      refine Outs.cellA2 rfl Tryz.isAgg28 Tryz.sizeOf28 rfl rfl hs6 rfl ?_
      rcases hpv9 with ⟨q1, q2, q3⟩ | ⟨q1, q2, q3, q4⟩
      · first
        | exact ⟨slv p1, slv p2, slv p3, cv9, 0, rfl, ((((hxv9.keep e3).keepM e4 (by intro k hk h; first | (have q1 := hF k hk; (try dsimp only at h); omega) | (have q1 := hF2 k hk; (try dsimp only at h); omega) | (have q1 := hFb k hk; (try dsimp only at h); omega) | ((try dsimp only at hk); (try dsimp only at h); omega))).keepM e6 (by intro k hk h; first | (have q1 := hF k hk; (try dsimp only at h); omega) | (have q1 := hF2 k hk; (try dsimp only at h); omega) | (have q1 := hFb k hk; (try dsimp only at h); omega) | ((try dsimp only at hk); (try dsimp only at h); omega)))).weak (by intro j hj; (try dsimp only at hj); (try dsimp only); omega), ((((hyv9.keep e3).keepM e4 (by intro k hk h; first | (have q1 := hF k hk; (try dsimp only at h); omega) | (have q1 := hF2 k hk; (try dsimp only at h); omega) | (have q1 := hFb k hk; (try dsimp only at h); omega) | ((try dsimp only at hk); (try dsimp only at h); omega))).keepM e6 (by intro k hk h; first | (have q1 := hF k hk; (try dsimp only at h); omega) | (have q1 := hF2 k hk; (try dsimp only at h); omega) | (have q1 := hFb k hk; (try dsimp only at h); omega) | ((try dsimp only at hk); (try dsimp only at h); omega)))).weak (by intro j hj; (try dsimp only at hj); (try dsimp only); omega), ((((hzv9.keep e3).keepM e4 (by intro k hk h; first | (have q1 := hF k hk; (try dsimp only at h); omega) | (have q1 := hF2 k hk; (try dsimp only at h); omega) | (have q1 := hFb k hk; (try dsimp only at h); omega) | ((try dsimp only at hk); (try dsimp only at h); omega))).keepM e6 (by intro k hk h; first | (have q1 := hF k hk; (try dsimp only at h); omega) | (have q1 := hF2 k hk; (try dsimp only at h); omega) | (have q1 := hFb k hk; (try dsimp only at h); omega) | ((try dsimp only at hk); (try dsimp only at h); omega)))).weak (by intro j hj; (try dsimp only at hj); (try dsimp only); omega), hgv9, .inl ⟨rfl, q2, Cn.seg_whole q3 (by omega)⟩, (Ext.new (Ext.new (Ext.trans (Ext.trans e1 e2) e3) e4 (by rintro i hi rfl; omega)) e6 (by rintro i hi rfl; omega))⟩
        | exact ⟨_, _, _, Cn.nil0, 12, rfl, Fre.nil _ _ _ _, Fre.nil _ _ _ _, SlI.nil _ _ _ _, Cn.big_nil0, .inr ⟨rfl, rfl, Cn.cart_more q3 q2 (by omega)⟩, (Ext.new (Ext.new (Ext.trans (Ext.trans e1 e2) e3) e4 (by rintro i hi rfl; omega)) e6 (by rintro i hi rfl; omega))⟩
        | (exfalso; omega)
      · first
        | exact ⟨_, _, _, Cn.nil0, 12, rfl, Fre.nil _ _ _ _, Fre.nil _ _ _ _, SlI.nil _ _ _ _, Cn.big_nil0, .inr ⟨rfl, rfl, Cn.no_whole q4⟩, (Ext.new (Ext.new (Ext.trans (Ext.trans e1 e2) e3) e4 (by rintro i hi rfl; omega)) e6 (by rintro i hi rfl; omega))⟩
        | (exfalso; omega)
    ·
      refine C.skip ?_
      refine hK3 _ _ ?_
      refine C.seqK fun K7 hK7 => ?_
      refine C.region ?_
      refine O.loadOA Tryz.isAgg28 Tryz.sizeOf28 rfl hs4 (Nat.le_of_ble_eq_true rfl) ?_
      refine O.storeA (vs := [slv p1, slv p2, slv p3]) Tryz.sizeOf28 rfl rfl rfl (by simp [slv, Value.oneCell']) (((h2.keep e2).keep e3).keepM e4 (by intro h; (try dsimp only at h); omega)) (Nat.le_of_ble_eq_true rfl) (fun w7 hs7 e7 z7 => ?_)
      refine O.asg ?_
      refine O.nil ?_
      refine hK7 _ _ ?_
      refine C.ret ?_
      refine Outs.cellA2 rfl Tryz.isAgg28 Tryz.sizeOf28 rfl rfl hs7 rfl ?_
      rcases hpv9 with ⟨q1, q2, q3⟩ | ⟨q1, q2, q3, q4⟩
      · first
        | exact ⟨slv p1, slv p2, slv p3, cv9, 0, rfl, ((((hxv9.keep e3).keepM e4 (by intro k hk h; first | (have q1 := hF k hk; (try dsimp only at h); omega) | (have q1 := hF2 k hk; (try dsimp only at h); omega) | (have q1 := hFb k hk; (try dsimp only at h); omega) | ((try dsimp only at hk); (try dsimp only at h); omega))).keepM e7 (by intro k hk h; first | (have q1 := hF k hk; (try dsimp only at h); omega) | (have q1 := hF2 k hk; (try dsimp only at h); omega) | (have q1 := hFb k hk; (try dsimp only at h); omega) | ((try dsimp only at hk); (try dsimp only at h); omega)))).weak (by intro j hj; (try dsimp only at hj); (try dsimp only); omega), ((((hyv9.keep e3).keepM e4 (by intro k hk h; first | (have q1 := hF k hk; (try dsimp only at h); omega) | (have q1 := hF2 k hk; (try dsimp only at h); omega) | (have q1 := hFb k hk; (try dsimp only at h); omega) | ((try dsimp only at hk); (try dsimp only at h); omega))).keepM e7 (by intro k hk h; first | (have q1 := hF k hk; (try dsimp only at h); omega) | (have q1 := hF2 k hk; (try dsimp only at h); omega) | (have q1 := hFb k hk; (try dsimp only at h); omega) | ((try dsimp only at hk); (try dsimp only at h); omega)))).weak (by intro j hj; (try dsimp only at hj); (try dsimp only); omega), ((((hzv9.keep e3).keepM e4 (by intro k hk h; first | (have q1 := hF k hk; (try dsimp only at h); omega) | (have q1 := hF2 k hk; (try dsimp only at h); omega) | (have q1 := hFb k hk; (try dsimp only at h); omega) | ((try dsimp only at hk); (try dsimp only at h); omega))).keepM e7 (by intro k hk h; first | (have q1 := hF k hk; (try dsimp only at h); omega) | (have q1 := hF2 k hk; (try dsimp only at h); omega) | (have q1 := hFb k hk; (try dsimp only at h); omega) | ((try dsimp only at hk); (try dsimp only at h); omega)))).weak (by intro j hj; (try dsimp only at hj); (try dsimp only); omega), hgv9, .inl ⟨rfl, q2, Cn.seg_whole q3 (by omega)⟩, (Ext.new (Ext.new (Ext.trans (Ext.trans e1 e2) e3) e4 (by rintro i hi rfl; omega)) e7 (by rintro i hi rfl; omega))⟩
        | exact ⟨_, _, _, Cn.nil0, 12, rfl, Fre.nil _ _ _ _, Fre.nil _ _ _ _, SlI.nil _ _ _ _, Cn.big_nil0, .inr ⟨rfl, rfl, Cn.cart_more q3 q2 (by omega)⟩, (Ext.new (Ext.new (Ext.trans (Ext.trans e1 e2) e3) e4 (by rintro i hi rfl; omega)) e7 (by rintro i hi rfl; omega))⟩
        | (exfalso; omega)
      · first
        | exact ⟨_, _, _, Cn.nil0, 12, rfl, Fre.nil _ _ _ _, Fre.nil _ _ _ _, SlI.nil _ _ _ _, Cn.big_nil0, .inr ⟨rfl, rfl, Cn.no_whole q4⟩, (Ext.new (Ext.new (Ext.trans (Ext.trans e1 e2) e3) e4 (by rintro i hi rfl; omega)) e7 (by rintro i hi rfl; omega))⟩
        | (exfalso; omega)

end Go.Proofs.YtnkcmaoaagnopaaGreatDoor
end
section
/-
  The walks of the reference that reads. Conditions: slices as they lie in memory.
-/
namespace Go.Proofs.YtnkcmaoaagnopaaGreatDoor
open Go.Pn Go.RowKit Go.Proofs
attribute [local irreducible] O C D

set_option maxHeartbeats 4000000 in
theorem xnum_spec (b : Nat) (vl : Value) (l : List UInt8) (k : Nat) (bad : Bool) (F : Nat → Prop) (w : World) (ho : Own w b 122 [vl, .int .i64 ((k : Int)), .bool bad]) (hl : Sl byteE w F vl l) (hk : k ≤ l.length) (hF : ∀ j, F j → j ≠ b ∧ j < w.heap.size) (hL : l.length ≤ 1000000) :
    Ret Tryz.prog 79 #[.pointer (some ⟨b, 0, none⟩)] w (fun v w' => ∃ (n : BitVec 64) (k' : Nat) (bad' : Bool), v = .int .u64 (n.toNat : Int) ∧ Own w' b 122 [vl, .int .i64 ((k' : Int)), .bool bad'] ∧ Cn.RdN l k bad n k' bad' ∧ (bad' = true → n = 0#64) ∧ Ext (fun j => j = b) w w') := by
  have _hF9 := hF
  have _hk9 := hk
  have hbl := ho.lt
  have hll := hl.le
  refine enter (args := [.pointer (some ⟨b, 0, none⟩)]) (n := 87) Tryz.func79 rfl rfl (Nat.le_of_ble_eq_true rfl) ?_
  refine C.seqK fun K1 hK1 => ?_
  refine C.region ?_
  refine O.asg ?_
  refine O.nil ?_
  refine hK1 _ _ ?_
  refine C.seqK fun K2 hK2 => ?_
  refine C.seqK fun K3 hK3 => ?_
  refine C.region ?_
  refine O.mv ?_
  refine O.nilChk rfl ?_
  refine O.fieldAd Tryz.underlying122 rfl Tryz.sizeOf4 (by decide) rfl ?_
  refine O.loadO Tryz.isAgg4 rfl ho rfl ?_
  refine O.nil ?_
  refine hK3 _ _ ?_
  refine C.cond rfl (fun c10 => ?_) (fun c10 => ?_)
  ·
    subst c10
    refine C.seqK fun K4 hK4 => ?_
    refine C.region ?_
    refine O.asg ?_
    refine O.nil ?_
    refine hK4 _ _ ?_
    refine C.ret ?_
    refine Outs.one rfl rfl ?_
    first
    | exact ⟨0#64, k, true, rfl, ho, Cn.RdN.of_bad hk rfl, fun _ => rfl, (Ext.refl _ _)⟩
    | exact ⟨0#64, k, true, rfl, ho, ⟨hk, .inr ⟨rfl, fun _ => Cn.num_no2 hall hy2 hy4 hq8⟩⟩, fun _ => rfl, (Ext.refl _ _)⟩
    | exact ⟨0#64, k, true, rfl, ho, ⟨hk, .inr ⟨rfl, fun _ => Cn.num_no1 hall (by first | (left; omega) | (right; rw [List.length_drop]; omega))⟩⟩, fun _ => rfl, (Ext.refl _ _)⟩
    | exact ⟨BitVec.ofNat 64 (Cn.valN ((l.drop k).take (i + 1))), k + (i + 1), false, rfl, ho, ⟨by omega, .inl ⟨rfl, rfl, Cn.num_yes (by omega) hq9⟩⟩, (fun h => by cases h), (Ext.refl _ _)⟩
  ·
    subst c10
    refine C.skip ?_
    refine hK2 _ _ ?_
    refine C.seqK fun K5 hK5 => ?_
    refine C.region ?_
    refine O.asg ?_
    refine O.nil ?_
    refine hK5 _ _ ?_
    refine C.seqK fun K6 hK6 => ?_
    refine C.seqK fun K7 hK7 => ?_
    refine C.region ?_
    refine O.asg ?_
    refine O.nil ?_
    refine hK7 _ _ ?_
    refine C.block fun K8 hK8 => ?_
    refine C.loop0 (σ := Nat) (fun f0 w0 i f w => f 3 = .int .u64 ((BitVec.ofNat 64 (Cn.valN ((l.drop k).take i))).toNat : Int) ∧ f 4 = .int .i64 ((i : Int)) ∧ f 0 = f0 0 ∧ Le w0 w ∧ i ≤ 10 ∧ k + i ≤ l.length ∧ ∀ j, ∀ h : j < (l.drop k).length, j < i → ¬ (l.drop k)[j].toNat < 128) (fun i => 10 - i) 0 ?_ ?_
    ·
      refine ⟨(Eq.trans rfl (by rw [List.take_zero]; rfl)), rfl, rfl, Le.refl _, ?_⟩
      exact ⟨Nat.zero_le _, by omega, fun j h h2 => absurd h2 (Nat.not_lt_zero _)⟩
    ·
      rintro i f_1 w1 ⟨s3_1, s4_1, s0_1, e_1, ⟨hi, hki, hall⟩⟩
      have z_1 := e_1.size
      refine C.seqK fun K9 hK9 => ?_
      refine C.seqK fun K10 hK10 => ?_
      refine C.draw (by kernel_rfl) fun w2 e2 => ?_
      have z2 := e2.size
      refine D.take (i := 0) rfl rfl rfl rfl (by kernel_rfl) (Le.refl _) ⟨pure _, rfl⟩ (fun w_ hw_ N_ hN => (O.mv (O.nil hN))) ?_
      refine D.take (i := 1) rfl rfl rfl rfl (by kernel_rfl) (Le.refl _) ⟨_, rfl⟩ (fun w_ hw_ N_ hN => (O.lssI s4_1 rfl (O.nil hN))) ?_
      refine D.take (i := 2) rfl rfl rfl rfl (by kernel_rfl) (Le.refl _) ⟨pure _, rfl⟩ (fun w_ hw_ N_ hN => (O.mv (O.nil hN))) ?_
      refine D.splitD (x := .tmp 13) rfl (fun c13 => ?_) (fun c13 => ?_)
      ·
        refine D.takeYes (i := 3) rfl rfl rfl (by kernel_rfl) rfl (isT rfl c13) (Le.refl _) ⟨pure _, rfl⟩ (fun w_ hw_ N_ hN => (O.mv (O.nil hN))) ?_
        refine D.takeYes (i := 4) rfl rfl rfl (by kernel_rfl) rfl (isT rfl c13) (Le.refl _) (nil_form s0_1) (fun w_ hw_ N_ hN => (O.nilChk s0_1 (O.nil hN))) ?_
        refine D.takeYes (i := 5) rfl rfl rfl (by kernel_rfl) rfl (isT rfl c13) (Le.refl _) ⟨_, rfl⟩ (fun w_ hw_ N_ hN => (O.fieldAd Tryz.underlying122 rfl Tryz.sizeOf3 (by decide) rfl (O.nil hN))) ?_
        refine D.takeYes (i := 6) rfl rfl rfl (by kernel_rfl) rfl (isT rfl c13) (Le.refl _) ⟨_, rfl⟩ (fun w_ hw_ N_ hN => (O.loadO Tryz.isAgg3 rfl (((ho.keep e_1).keep e2).keep hw_) rfl (O.nil hN))) ?_
        refine D.takeYes (i := 7) rfl rfl rfl (by kernel_rfl) rfl (isT rfl c13) (Le.refl _) ⟨pure _, rfl⟩ (fun w_ hw_ N_ hN => (O.mv (O.nil hN))) ?_
        refine D.takeYes (i := 8) rfl rfl rfl (by kernel_rfl) rfl (isT rfl c13) (Le.refl _) ⟨_, rfl⟩ (fun w_ hw_ N_ hN => (O.addI rfl s4_1 (by unfold InI; omega) (O.nil hN))) ?_
        refine D.takeYes (i := 9) rfl rfl rfl (by kernel_rfl) rfl (isT rfl c13) (Le.refl _) ⟨pure _, rfl⟩ (fun w_ hw_ N_ hN => (O.mv (O.nil hN))) ?_
        refine D.takeYes (i := 10) rfl rfl rfl (by kernel_rfl) rfl (isT rfl c13) (Le.refl _) (nil_form s0_1) (fun w_ hw_ N_ hN => (O.nilChk s0_1 (O.nil hN))) ?_
        refine D.takeYes (i := 11) rfl rfl rfl (by kernel_rfl) rfl (isT rfl c13) (Le.refl _) ⟨_, rfl⟩ (fun w_ hw_ N_ hN => (O.fieldAd Tryz.underlying122 rfl Tryz.sizeOf32 (by decide) rfl (O.nil hN))) ?_
        refine D.takeYes (i := 12) rfl rfl rfl (by kernel_rfl) rfl (isT rfl c13) (Le.refl _) ⟨_, rfl⟩ (fun w_ hw_ N_ hN => (O.loadO Tryz.isAgg32 rfl (((ho.keep e_1).keep e2).keep hw_) rfl (O.nil hN))) ?_
        refine D.takeYes (i := 13) rfl rfl rfl (by kernel_rfl) rfl (isT rfl c13) (Le.refl _) len_form (fun w_ hw_ N_ hN => (O.len Tryz.underlying32 rfl (((hl.keep e_1).keep e2).keep hw_) (O.nil hN))) ?_
        refine D.takeYes (i := 14) rfl rfl rfl (by kernel_rfl) rfl (isT rfl c13) (Le.refl _) ⟨_, rfl⟩ (fun w_ hw_ N_ hN => (O.lssI rfl rfl (O.nil hN))) ?_
        refine D.take (i := 15) rfl rfl rfl rfl (by kernel_rfl) (Le.refl _) pick_form (fun w_ hw_ N_ hN => (O.pickT (isT rfl c13) (O.nil hN))) ?_
        refine D.done (by kernel_rfl) ?_
        refine hK10 _ _ ?_
        refine C.condD rfl (fun c26 => ?_) (fun c26 => ?_)
        ·
          have hy2 : i < (l.drop k).length := by rw [List.length_drop]; omega
          obtain ⟨y, hy⟩ : ∃ y, y = (l.drop k)[i] := ⟨_, rfl⟩
          refine C.skip ?_
          refine hK9 _ _ ?_
          refine C.seqK fun K11 hK11 => ?_
          refine C.block fun K12 hK12 => ?_
          refine C.seqK fun K13 hK13 => ?_
          refine C.draw (by kernel_rfl) fun w3 e3 => ?_
          have z3 := e3.size
          refine D.take (i := 0) rfl rfl rfl rfl (by kernel_rfl) (Le.refl _) ⟨pure _, rfl⟩ (fun w_ hw_ N_ hN => (O.mv (O.nil hN))) ?_
          refine D.take (i := 1) rfl rfl rfl rfl (by kernel_rfl) (Le.refl _) (nil_form s0_1) (fun w_ hw_ N_ hN => (O.nilChk s0_1 (O.nil hN))) ?_
          refine D.take (i := 2) rfl rfl rfl rfl (by kernel_rfl) (Le.refl _) ⟨_, rfl⟩ (fun w_ hw_ N_ hN => (O.fieldAd Tryz.underlying122 rfl Tryz.sizeOf32 (by decide) rfl (O.nil hN))) ?_
          refine D.take (i := 3) rfl rfl rfl rfl (by kernel_rfl) (Le.refl _) ⟨_, rfl⟩ (fun w_ hw_ N_ hN => (O.loadO Tryz.isAgg32 rfl ((((ho.keep e_1).keep e2).keep e3).keep hw_) rfl (O.nil hN))) ?_
          refine D.take (i := 4) rfl rfl rfl rfl (by kernel_rfl) (Le.refl _) ⟨pure _, rfl⟩ (fun w_ hw_ N_ hN => (O.mv (O.nil hN))) ?_
          refine D.take (i := 5) rfl rfl rfl rfl (by kernel_rfl) (Le.refl _) (nil_form s0_1) (fun w_ hw_ N_ hN => (O.nilChk s0_1 (O.nil hN))) ?_
          refine D.take (i := 6) rfl rfl rfl rfl (by kernel_rfl) (Le.refl _) ⟨_, rfl⟩ (fun w_ hw_ N_ hN => (O.fieldAd Tryz.underlying122 rfl Tryz.sizeOf3 (by decide) rfl (O.nil hN))) ?_
          refine D.take (i := 7) rfl rfl rfl rfl (by kernel_rfl) (Le.refl _) ⟨_, rfl⟩ (fun w_ hw_ N_ hN => (O.loadO Tryz.isAgg3 rfl ((((ho.keep e_1).keep e2).keep e3).keep hw_) rfl (O.nil hN))) ?_
          refine D.take (i := 8) rfl rfl rfl rfl (by kernel_rfl) (Le.refl _) ⟨pure _, rfl⟩ (fun w_ hw_ N_ hN => (O.mv (O.nil hN))) ?_
          refine D.take (i := 9) rfl rfl rfl rfl (by kernel_rfl) (Le.refl _) ⟨_, rfl⟩ (fun w_ hw_ N_ hN => (O.addI rfl s4_1 (by unfold InI; omega) (O.nil hN))) ?_
          obtain ⟨a39, h39, hr39⟩ := Sl.at (i := ((k : Int) + (i : Int))) (P := Tryz.prog) Tryz.underlying32 Tryz.sizeOf5 rfl (((hl.keep e_1).keep e2).keep e3) (by omega)
          refine D.take (i := 10) rfl rfl rfl rfl (by kernel_rfl) (Le.refl _) ⟨_, rfl⟩ (fun w_ hw_ N_ hN => (O.idxR rfl rfl hr39 (O.nil hN))) ?_
          refine D.take (i := 11) rfl rfl rfl rfl (by kernel_rfl) (Le.refl _) ⟨_, rfl⟩ (fun w_ hw_ N_ hN => (O.loadB Tryz.isAgg5 rfl (h39.keep hw_) (O.nil hN))) ?_
          refine D.take (i := 12) rfl rfl rfl rfl (by kernel_rfl) (Le.refl _) ⟨pure _, rfl⟩ (fun w_ hw_ N_ hN => (O.asg (O.nil hN))) ?_
          refine D.cast (v' := .int .u8 (y.toBitVec.toNat : Int)) (by show Value.int .u8 ((l[((k : Int) + (i : Int)).toNat]'(by omega)).toBitVec.toNat : Int) = _; rw [hy, Cn.drop_get (by omega) hy2]; simp only [show ((k : Int) + (i : Int)).toNat = k + i by omega]) ?_
          refine D.done (by kernel_rfl) ?_
          refine hK13 _ _ ?_
          refine C.seqK fun K14 hK14 => ?_
          refine C.region ?_
          refine O.mv ?_
          refine O.mv ?_
          refine O.remU (m := 8) (b := 128#8) rfl rfl rfl rfl (by decide) ?_
          refine O.convUU (m := 8) (m' := 64) Tryz.underlying5 Tryz.underlying49 rfl rfl rfl ?_
          refine O.mv ?_
          refine O.mulI rfl s4_1 (by unfold InI; omega) ?_
          refine O.cast (v' := .int .i64 ((7 * i : Nat) : Int)) (congrArg (Value.int .i64) (by omega)) ?_
          refine O.shlU (m := 64) rfl rfl rfl rfl ?_
          refine O.addU (m := 64) rfl rfl s3_1 rfl ?_
          refine O.cast (v' := .int .u64 ((BitVec.ofNat 64 (Cn.valN ((l.drop k).take (i + 1)))).toNat : Int)) (congrArg (fun q : BitVec 64 => Value.int .u64 (q.toNat : Int)) (by rw [Cn.valN_front hy2, ← hy]; exact Cn.group2 _ _ _)) ?_
          refine O.asg ?_
          refine O.nil ?_
          refine hK14 _ _ ?_
          refine C.seqK fun K15 hK15 => ?_
          refine C.seqK fun K16 hK16 => ?_
          refine C.region ?_
          refine O.mv ?_
          refine O.geqU (m := 8) (b := 128#8) rfl rfl ?_
          refine O.nil ?_
          refine hK16 _ _ ?_
          refine C.condD rfl (fun c50 => ?_) (fun c50 => ?_)
          ·
            have hy3 : ¬ (l.drop k)[i].toNat < 128 := by
              rw [← hy]
              have q := BitVec.le_def.1 c50
              exact Nat.not_lt.2 q
            refine C.exit ?_
            refine hK12 _ _ ?_
            refine hK11 _ _ ?_
            refine C.region ?_
            refine O.mv ?_
            refine O.addI s4_1 rfl (by unfold InI; omega) ?_
            refine O.asg ?_
            refine O.nil ?_
            refine ⟨(i + 1), ⟨rfl, rfl, s0_1, (Ext.trans (Ext.trans e_1 e2) e3), ?_⟩, by first | omega | (simp only []; omega)⟩
            refine ⟨by omega, by omega, fun j h h2 => ?_⟩
            rcases Nat.lt_or_eq_of_le (Nat.le_of_lt_succ h2) with h3 | h3
            · exact hall j h h3
            · subst h3; exact hy3
          ·
            have hy4 : (l.drop k)[i].toNat < 128 := by
              rw [← hy]
              have q := mt BitVec.le_def.2 c50
              exact Nat.lt_of_not_le q
            refine C.skip ?_
            refine hK15 _ _ ?_
            refine C.seqK fun K17 hK17 => ?_
            refine C.seqK fun K18 hK18 => ?_
            refine C.region ?_
            refine O.mv ?_
            refine O.call Tryz.call33 (args1 rfl) (rnum_spec (BitVec.ofNat 64 (Cn.valN ((l.drop k).take (i + 1)))) _) ?_
            rintro v_52 w4 ⟨e4, h52⟩
            have z4 := e4.size
            have h52s := h52.sl
            refine O.asg ?_
            refine O.nil ?_
            refine hK18 _ _ ?_
            refine C.seqK fun K19 hK19 => ?_
            refine C.draw (by kernel_rfl) fun w5 e5 => ?_
            have z5 := e5.size
            refine D.take (i := 0) rfl rfl rfl rfl (by kernel_rfl) (Le.refl _) ⟨pure _, rfl⟩ (fun w_ hw_ N_ hN => (O.mv (O.nil hN))) ?_
            refine D.take (i := 1) rfl rfl rfl rfl (by kernel_rfl) (Le.refl _) ⟨_, rfl⟩ (fun w_ hw_ N_ hN => (O.bytesS Tryz.underlying32 Tryz.underlying5 Tryz.underlying9 rfl ((h52s.keep e5).keep hw_) (O.nil hN))) ?_
            refine D.take (i := 2) rfl rfl rfl rfl (by kernel_rfl) (Le.refl _) ⟨pure _, rfl⟩ (fun w_ hw_ N_ hN => (O.mv (O.nil hN))) ?_
            refine D.take (i := 3) rfl rfl rfl rfl (by kernel_rfl) (Le.refl _) (nil_form s0_1) (fun w_ hw_ N_ hN => (O.nilChk s0_1 (O.nil hN))) ?_
            refine D.take (i := 4) rfl rfl rfl rfl (by kernel_rfl) (Le.refl _) ⟨_, rfl⟩ (fun w_ hw_ N_ hN => (O.fieldAd Tryz.underlying122 rfl Tryz.sizeOf32 (by decide) rfl (O.nil hN))) ?_
            refine D.take (i := 5) rfl rfl rfl rfl (by kernel_rfl) (Le.refl _) ⟨_, rfl⟩ (fun w_ hw_ N_ hN => (O.loadO Tryz.isAgg32 rfl ((((((ho.keep e_1).keep e2).keep e3).keep e4).keep e5).keep hw_) rfl (O.nil hN))) ?_
            refine D.take (i := 6) rfl rfl rfl rfl (by kernel_rfl) (Le.refl _) ⟨pure _, rfl⟩ (fun w_ hw_ N_ hN => (O.mv (O.nil hN))) ?_
            refine D.take (i := 7) rfl rfl rfl rfl (by kernel_rfl) (Le.refl _) (nil_form s0_1) (fun w_ hw_ N_ hN => (O.nilChk s0_1 (O.nil hN))) ?_
            refine D.take (i := 8) rfl rfl rfl rfl (by kernel_rfl) (Le.refl _) ⟨_, rfl⟩ (fun w_ hw_ N_ hN => (O.fieldAd Tryz.underlying122 rfl Tryz.sizeOf3 (by decide) rfl (O.nil hN))) ?_
            refine D.take (i := 9) rfl rfl rfl rfl (by kernel_rfl) (Le.refl _) ⟨_, rfl⟩ (fun w_ hw_ N_ hN => (O.loadO Tryz.isAgg3 rfl ((((((ho.keep e_1).keep e2).keep e3).keep e4).keep e5).keep hw_) rfl (O.nil hN))) ?_
            refine D.take (i := 10) rfl rfl rfl rfl (by kernel_rfl) (Le.refl _) ⟨pure _, rfl⟩ (fun w_ hw_ N_ hN => (O.mv (O.nil hN))) ?_
            refine D.take (i := 11) rfl rfl rfl rfl (by kernel_rfl) (Le.refl _) (nil_form s0_1) (fun w_ hw_ N_ hN => (O.nilChk s0_1 (O.nil hN))) ?_
            refine D.take (i := 12) rfl rfl rfl rfl (by kernel_rfl) (Le.refl _) ⟨_, rfl⟩ (fun w_ hw_ N_ hN => (O.fieldAd Tryz.underlying122 rfl Tryz.sizeOf3 (by decide) rfl (O.nil hN))) ?_
            refine D.take (i := 13) rfl rfl rfl rfl (by kernel_rfl) (Le.refl _) ⟨_, rfl⟩ (fun w_ hw_ N_ hN => (O.loadO Tryz.isAgg3 rfl ((((((ho.keep e_1).keep e2).keep e3).keep e4).keep e5).keep hw_) rfl (O.nil hN))) ?_
            refine D.take (i := 14) rfl rfl rfl rfl (by kernel_rfl) (Le.refl _) ⟨pure _, rfl⟩ (fun w_ hw_ N_ hN => (O.mv (O.nil hN))) ?_
            refine D.take (i := 15) rfl rfl rfl rfl (by kernel_rfl) (Le.refl _) ⟨_, rfl⟩ (fun w_ hw_ N_ hN => (O.addI rfl s4_1 (by unfold InI; omega) (O.nil hN))) ?_
            refine D.take (i := 16) rfl rfl rfl rfl (by kernel_rfl) (Le.refl _) ⟨_, rfl⟩ (fun w_ hw_ N_ hN => (O.addI rfl rfl (by unfold InI; omega) (O.nil hN))) ?_
            refine D.cast (v' := .int .i64 ((k + (i + 1) : Nat) : Int)) (congrArg (Value.int .i64) (by omega)) ?_
            have hb70 := Sl.sub (P := Tryz.prog) (k) (k + (i + 1)) Tryz.underlying32 Tryz.sizeOf5 (by rfl) (((((hl.keep e_1).keep e2).keep e3).keep e4).keep e5) (by omega) (by omega)
            obtain ⟨v70, hs70, hr70⟩ := hb70
            refine D.take (i := 17) rfl rfl rfl rfl (by kernel_rfl) (Le.refl _) ⟨_, rfl⟩ (fun w_ hw_ N_ hN => (O.subR rfl hr70 (.inr ⟨_, _, rfl, rfl⟩) (.inr ⟨_, _, rfl, rfl⟩) (O.nil hN))) ?_
            refine D.take (i := 18) rfl rfl rfl rfl (by kernel_rfl) (Le.refl _) ⟨_, rfl⟩ (fun w_ hw_ N_ hN => (O.bytesS Tryz.underlying32 Tryz.underlying5 Tryz.underlying9 rfl (hs70.keep hw_) (O.nil hN))) ?_
            refine D.take (i := 19) rfl rfl rfl rfl (by kernel_rfl) (Le.refl _) ⟨_, rfl⟩ (fun w_ hw_ N_ hN => (O.eqlS rfl rfl (O.nil hN))) ?_
            refine D.done (by kernel_rfl) ?_
            refine hK19 _ _ ?_
            refine C.condD rfl (fun c72 => ?_) (fun c72 => ?_)
            ·
              have hq9 : Cn.num (BitVec.ofNat 64 (Cn.valN ((l.drop k).take (i + 1)))).toNat = (l.drop k).take (i + 1) := by
                rw [c72, List.drop_take, show k + (i + 1) - k = i + 1 by omega]
              refine C.seqK fun K20 hK20 => ?_
              refine C.region ?_
              refine O.mv ?_
              refine O.mv ?_
              refine O.nilChk s0_1 ?_
              refine O.fieldAd Tryz.underlying122 rfl Tryz.sizeOf3 (by decide) rfl ?_
              refine O.loadO Tryz.isAgg3 rfl (((((ho.keep e_1).keep e2).keep e3).keep e4).keep e5) rfl ?_
              refine O.mv ?_
              refine O.addI rfl s4_1 (by unfold InI; omega) ?_
              refine O.addI rfl rfl (by unfold InI; omega) ?_
              refine O.cast (v' := .int .i64 ((k + (i + 1) : Nat) : Int)) (congrArg (Value.int .i64) (by omega)) ?_
              refine O.nilChk s0_1 ?_
              refine O.fieldAd Tryz.underlying122 rfl Tryz.sizeOf3 (by decide) rfl ?_
              refine O.store Tryz.sizeOf3 rfl rfl rfl (((((ho.keep e_1).keep e2).keep e3).keep e4).keep e5) (by simp) (fun w6 hs6 e6 z6 => ?_)
              try simp only [Nat.zero_add] at hs6
              refine O.nil ?_
              refine hK20 _ _ ?_
              refine C.seqK fun K21 hK21 => ?_
              refine C.region ?_
              refine O.mv ?_
              refine O.asg ?_
              refine O.nil ?_
              refine hK21 _ _ ?_
              refine C.ret ?_
              refine Outs.one rfl rfl ?_
              first
              | exact ⟨0#64, k, true, rfl, hs6, Cn.RdN.of_bad hk rfl, fun _ => rfl, (Ext.new (Ext.new (Ext.new (Ext.new (Ext.new (Ext.new (Ext.refl _ _) e_1 (by intro i hi hk; first | exact hk.elim | ((try dsimp only at hk); (try dsimp only); omega))) e2 (by intro i hi hk; first | exact hk.elim | ((try dsimp only at hk); (try dsimp only); omega))) e3 (by intro i hi hk; first | exact hk.elim | ((try dsimp only at hk); (try dsimp only); omega))) e4 (by intro i hi hk; first | exact hk.elim | ((try dsimp only at hk); (try dsimp only); omega))) e5 (by intro i hi hk; first | exact hk.elim | ((try dsimp only at hk); (try dsimp only); omega))) e6 (by intro i hi hk; first | exact hk.elim | ((try dsimp only at hk); (try dsimp only); omega)))⟩
              | exact ⟨0#64, k, true, rfl, hs6, ⟨hk, .inr ⟨rfl, fun _ => Cn.num_no2 hall hy2 hy4 hq8⟩⟩, fun _ => rfl, (Ext.new (Ext.new (Ext.new (Ext.new (Ext.new (Ext.new (Ext.refl _ _) e_1 (by intro i hi hk; first | exact hk.elim | ((try dsimp only at hk); (try dsimp only); omega))) e2 (by intro i hi hk; first | exact hk.elim | ((try dsimp only at hk); (try dsimp only); omega))) e3 (by intro i hi hk; first | exact hk.elim | ((try dsimp only at hk); (try dsimp only); omega))) e4 (by intro i hi hk; first | exact hk.elim | ((try dsimp only at hk); (try dsimp only); omega))) e5 (by intro i hi hk; first | exact hk.elim | ((try dsimp only at hk); (try dsimp only); omega))) e6 (by intro i hi hk; first | exact hk.elim | ((try dsimp only at hk); (try dsimp only); omega)))⟩
              | exact ⟨0#64, k, true, rfl, hs6, ⟨hk, .inr ⟨rfl, fun _ => Cn.num_no1 hall (by first | (left; omega) | (right; rw [List.length_drop]; omega))⟩⟩, fun _ => rfl, (Ext.new (Ext.new (Ext.new (Ext.new (Ext.new (Ext.new (Ext.refl _ _) e_1 (by intro i hi hk; first | exact hk.elim | ((try dsimp only at hk); (try dsimp only); omega))) e2 (by intro i hi hk; first | exact hk.elim | ((try dsimp only at hk); (try dsimp only); omega))) e3 (by intro i hi hk; first | exact hk.elim | ((try dsimp only at hk); (try dsimp only); omega))) e4 (by intro i hi hk; first | exact hk.elim | ((try dsimp only at hk); (try dsimp only); omega))) e5 (by intro i hi hk; first | exact hk.elim | ((try dsimp only at hk); (try dsimp only); omega))) e6 (by intro i hi hk; first | exact hk.elim | ((try dsimp only at hk); (try dsimp only); omega)))⟩
              | exact ⟨BitVec.ofNat 64 (Cn.valN ((l.drop k).take (i + 1))), k + (i + 1), false, rfl, hs6, ⟨by omega, .inl ⟨rfl, rfl, Cn.num_yes (by omega) hq9⟩⟩, (fun h => by cases h), (Ext.new (Ext.new (Ext.new (Ext.new (Ext.new (Ext.new (Ext.refl _ _) e_1 (by intro i hi hk; first | exact hk.elim | ((try dsimp only at hk); (try dsimp only); omega))) e2 (by intro i hi hk; first | exact hk.elim | ((try dsimp only at hk); (try dsimp only); omega))) e3 (by intro i hi hk; first | exact hk.elim | ((try dsimp only at hk); (try dsimp only); omega))) e4 (by intro i hi hk; first | exact hk.elim | ((try dsimp only at hk); (try dsimp only); omega))) e5 (by intro i hi hk; first | exact hk.elim | ((try dsimp only at hk); (try dsimp only); omega))) e6 (by intro i hi hk; first | exact hk.elim | ((try dsimp only at hk); (try dsimp only); omega)))⟩
            ·
              have hq8 : Cn.num (BitVec.ofNat 64 (Cn.valN ((l.drop k).take (i + 1)))).toNat ≠ (l.drop k).take (i + 1) := by
                intro q
                apply c72
                rw [q, List.drop_take, show k + (i + 1) - k = i + 1 by omega]
              refine C.skip ?_
              refine hK17 _ _ ?_
              refine C.exit ?_
              refine hK8 _ _ ?_
              refine hK6 _ _ ?_
              refine C.seqK fun K22 hK22 => ?_
              refine C.region ?_
              refine O.mv ?_
              refine O.nilChk s0_1 ?_
              refine O.fieldAd Tryz.underlying122 rfl Tryz.sizeOf4 (by decide) rfl ?_
              refine O.store Tryz.sizeOf4 rfl rfl rfl (((((ho.keep e_1).keep e2).keep e3).keep e4).keep e5) (by simp) (fun w7 hs7 e7 z7 => ?_)
              try simp only [Nat.zero_add] at hs7
              refine O.nil ?_
              refine hK22 _ _ ?_
              refine C.seqK fun K23 hK23 => ?_
              refine C.region ?_
              refine O.asg ?_
              refine O.nil ?_
              refine hK23 _ _ ?_
              refine C.ret ?_
              refine Outs.one rfl rfl ?_
              first
              | exact ⟨0#64, k, true, rfl, hs7, Cn.RdN.of_bad hk rfl, fun _ => rfl, (Ext.new (Ext.new (Ext.new (Ext.new (Ext.new (Ext.new (Ext.refl _ _) e_1 (by intro i hi hk; first | exact hk.elim | ((try dsimp only at hk); (try dsimp only); omega))) e2 (by intro i hi hk; first | exact hk.elim | ((try dsimp only at hk); (try dsimp only); omega))) e3 (by intro i hi hk; first | exact hk.elim | ((try dsimp only at hk); (try dsimp only); omega))) e4 (by intro i hi hk; first | exact hk.elim | ((try dsimp only at hk); (try dsimp only); omega))) e5 (by intro i hi hk; first | exact hk.elim | ((try dsimp only at hk); (try dsimp only); omega))) e7 (by intro i hi hk; first | exact hk.elim | ((try dsimp only at hk); (try dsimp only); omega)))⟩
              | exact ⟨0#64, k, true, rfl, hs7, ⟨hk, .inr ⟨rfl, fun _ => Cn.num_no2 hall hy2 hy4 hq8⟩⟩, fun _ => rfl, (Ext.new (Ext.new (Ext.new (Ext.new (Ext.new (Ext.new (Ext.refl _ _) e_1 (by intro i hi hk; first | exact hk.elim | ((try dsimp only at hk); (try dsimp only); omega))) e2 (by intro i hi hk; first | exact hk.elim | ((try dsimp only at hk); (try dsimp only); omega))) e3 (by intro i hi hk; first | exact hk.elim | ((try dsimp only at hk); (try dsimp only); omega))) e4 (by intro i hi hk; first | exact hk.elim | ((try dsimp only at hk); (try dsimp only); omega))) e5 (by intro i hi hk; first | exact hk.elim | ((try dsimp only at hk); (try dsimp only); omega))) e7 (by intro i hi hk; first | exact hk.elim | ((try dsimp only at hk); (try dsimp only); omega)))⟩
              | exact ⟨0#64, k, true, rfl, hs7, ⟨hk, .inr ⟨rfl, fun _ => Cn.num_no1 hall (by first | (left; omega) | (right; rw [List.length_drop]; omega))⟩⟩, fun _ => rfl, (Ext.new (Ext.new (Ext.new (Ext.new (Ext.new (Ext.new (Ext.refl _ _) e_1 (by intro i hi hk; first | exact hk.elim | ((try dsimp only at hk); (try dsimp only); omega))) e2 (by intro i hi hk; first | exact hk.elim | ((try dsimp only at hk); (try dsimp only); omega))) e3 (by intro i hi hk; first | exact hk.elim | ((try dsimp only at hk); (try dsimp only); omega))) e4 (by intro i hi hk; first | exact hk.elim | ((try dsimp only at hk); (try dsimp only); omega))) e5 (by intro i hi hk; first | exact hk.elim | ((try dsimp only at hk); (try dsimp only); omega))) e7 (by intro i hi hk; first | exact hk.elim | ((try dsimp only at hk); (try dsimp only); omega)))⟩
              | exact ⟨BitVec.ofNat 64 (Cn.valN ((l.drop k).take (i + 1))), k + (i + 1), false, rfl, hs7, ⟨by omega, .inl ⟨rfl, rfl, Cn.num_yes (by omega) hq9⟩⟩, (fun h => by cases h), (Ext.new (Ext.new (Ext.new (Ext.new (Ext.new (Ext.new (Ext.refl _ _) e_1 (by intro i hi hk; first | exact hk.elim | ((try dsimp only at hk); (try dsimp only); omega))) e2 (by intro i hi hk; first | exact hk.elim | ((try dsimp only at hk); (try dsimp only); omega))) e3 (by intro i hi hk; first | exact hk.elim | ((try dsimp only at hk); (try dsimp only); omega))) e4 (by intro i hi hk; first | exact hk.elim | ((try dsimp only at hk); (try dsimp only); omega))) e5 (by intro i hi hk; first | exact hk.elim | ((try dsimp only at hk); (try dsimp only); omega))) e7 (by intro i hi hk; first | exact hk.elim | ((try dsimp only at hk); (try dsimp only); omega)))⟩
        ·
          refine C.exit ?_
          refine hK8 _ _ ?_
          refine hK6 _ _ ?_
          refine C.seqK fun K24 hK24 => ?_
          refine C.region ?_
          refine O.mv ?_
          refine O.nilChk s0_1 ?_
          refine O.fieldAd Tryz.underlying122 rfl Tryz.sizeOf4 (by decide) rfl ?_
          refine O.store Tryz.sizeOf4 rfl rfl rfl ((ho.keep e_1).keep e2) (by simp) (fun w8 hs8 e8 z8 => ?_)
          try simp only [Nat.zero_add] at hs8
          refine O.nil ?_
          refine hK24 _ _ ?_
          refine C.seqK fun K25 hK25 => ?_
          refine C.region ?_
          refine O.asg ?_
          refine O.nil ?_
          refine hK25 _ _ ?_
          refine C.ret ?_
          refine Outs.one rfl rfl ?_
          first
          | exact ⟨0#64, k, true, rfl, hs8, Cn.RdN.of_bad hk rfl, fun _ => rfl, (Ext.new (Ext.new (Ext.new (Ext.refl _ _) e_1 (by intro i hi hk; first | exact hk.elim | ((try dsimp only at hk); (try dsimp only); omega))) e2 (by intro i hi hk; first | exact hk.elim | ((try dsimp only at hk); (try dsimp only); omega))) e8 (by intro i hi hk; first | exact hk.elim | ((try dsimp only at hk); (try dsimp only); omega)))⟩
          | exact ⟨0#64, k, true, rfl, hs8, ⟨hk, .inr ⟨rfl, fun _ => Cn.num_no2 hall hy2 hy4 hq8⟩⟩, fun _ => rfl, (Ext.new (Ext.new (Ext.new (Ext.refl _ _) e_1 (by intro i hi hk; first | exact hk.elim | ((try dsimp only at hk); (try dsimp only); omega))) e2 (by intro i hi hk; first | exact hk.elim | ((try dsimp only at hk); (try dsimp only); omega))) e8 (by intro i hi hk; first | exact hk.elim | ((try dsimp only at hk); (try dsimp only); omega)))⟩
          | exact ⟨0#64, k, true, rfl, hs8, ⟨hk, .inr ⟨rfl, fun _ => Cn.num_no1 hall (by first | (left; omega) | (right; rw [List.length_drop]; omega))⟩⟩, fun _ => rfl, (Ext.new (Ext.new (Ext.new (Ext.refl _ _) e_1 (by intro i hi hk; first | exact hk.elim | ((try dsimp only at hk); (try dsimp only); omega))) e2 (by intro i hi hk; first | exact hk.elim | ((try dsimp only at hk); (try dsimp only); omega))) e8 (by intro i hi hk; first | exact hk.elim | ((try dsimp only at hk); (try dsimp only); omega)))⟩
          | exact ⟨BitVec.ofNat 64 (Cn.valN ((l.drop k).take (i + 1))), k + (i + 1), false, rfl, hs8, ⟨by omega, .inl ⟨rfl, rfl, Cn.num_yes (by omega) hq9⟩⟩, (fun h => by cases h), (Ext.new (Ext.new (Ext.new (Ext.refl _ _) e_1 (by intro i hi hk; first | exact hk.elim | ((try dsimp only at hk); (try dsimp only); omega))) e2 (by intro i hi hk; first | exact hk.elim | ((try dsimp only at hk); (try dsimp only); omega))) e8 (by intro i hi hk; first | exact hk.elim | ((try dsimp only at hk); (try dsimp only); omega)))⟩
      ·
        refine D.takeNo (i := 3) rfl rfl (by kernel_rfl) (Le.refl _) rfl (noB (isF rfl c13) rfl) ?_
        refine D.takeNo (i := 4) rfl rfl (by kernel_rfl) (Le.refl _) rfl (noB (isF rfl c13) rfl) ?_
        refine D.takeNo (i := 5) rfl rfl (by kernel_rfl) (Le.refl _) rfl (noB (isF rfl c13) rfl) ?_
        refine D.takeNo (i := 6) rfl rfl (by kernel_rfl) (Le.refl _) rfl (noB (isF rfl c13) rfl) ?_
        refine D.takeNo (i := 7) rfl rfl (by kernel_rfl) (Le.refl _) rfl (noB (isF rfl c13) rfl) ?_
        refine D.takeNo (i := 8) rfl rfl (by kernel_rfl) (Le.refl _) rfl (noB (isF rfl c13) rfl) ?_
        refine D.takeNo (i := 9) rfl rfl (by kernel_rfl) (Le.refl _) rfl (noB (isF rfl c13) rfl) ?_
        refine D.takeNo (i := 10) rfl rfl (by kernel_rfl) (Le.refl _) rfl (noB (isF rfl c13) rfl) ?_
        refine D.takeNo (i := 11) rfl rfl (by kernel_rfl) (Le.refl _) rfl (noB (isF rfl c13) rfl) ?_
        refine D.takeNo (i := 12) rfl rfl (by kernel_rfl) (Le.refl _) rfl (noB (isF rfl c13) rfl) ?_
        refine D.takeNo (i := 13) rfl rfl (by kernel_rfl) (Le.refl _) rfl (noB (isF rfl c13) rfl) ?_
        refine D.takeNo (i := 14) rfl rfl (by kernel_rfl) (Le.refl _) rfl (noB (isF rfl c13) rfl) ?_
        refine D.take (i := 15) rfl rfl rfl rfl (by kernel_rfl) (Le.refl _) pick_form (fun w_ hw_ N_ hN => (O.pickF (isF rfl c13) (O.nil hN))) ?_
        refine D.done (by kernel_rfl) ?_
        refine hK10 _ _ ?_
        refine C.condF rfl ?_
        refine C.exit ?_
        refine hK8 _ _ ?_
        refine hK6 _ _ ?_
        refine C.seqK fun K26 hK26 => ?_
        refine C.region ?_
        refine O.mv ?_
        refine O.nilChk s0_1 ?_
        refine O.fieldAd Tryz.underlying122 rfl Tryz.sizeOf4 (by decide) rfl ?_
        refine O.store Tryz.sizeOf4 rfl rfl rfl ((ho.keep e_1).keep e2) (by simp) (fun w9 hs9 e9 z9 => ?_)
        try simp only [Nat.zero_add] at hs9
        refine O.nil ?_
        refine hK26 _ _ ?_
        refine C.seqK fun K27 hK27 => ?_
        refine C.region ?_
        refine O.asg ?_
        refine O.nil ?_
        refine hK27 _ _ ?_
        refine C.ret ?_
        refine Outs.one rfl rfl ?_
        first
        | exact ⟨0#64, k, true, rfl, hs9, Cn.RdN.of_bad hk rfl, fun _ => rfl, (Ext.new (Ext.new (Ext.new (Ext.refl _ _) e_1 (by intro i hi hk; first | exact hk.elim | ((try dsimp only at hk); (try dsimp only); omega))) e2 (by intro i hi hk; first | exact hk.elim | ((try dsimp only at hk); (try dsimp only); omega))) e9 (by intro i hi hk; first | exact hk.elim | ((try dsimp only at hk); (try dsimp only); omega)))⟩
        | exact ⟨0#64, k, true, rfl, hs9, ⟨hk, .inr ⟨rfl, fun _ => Cn.num_no2 hall hy2 hy4 hq8⟩⟩, fun _ => rfl, (Ext.new (Ext.new (Ext.new (Ext.refl _ _) e_1 (by intro i hi hk; first | exact hk.elim | ((try dsimp only at hk); (try dsimp only); omega))) e2 (by intro i hi hk; first | exact hk.elim | ((try dsimp only at hk); (try dsimp only); omega))) e9 (by intro i hi hk; first | exact hk.elim | ((try dsimp only at hk); (try dsimp only); omega)))⟩
        | exact ⟨0#64, k, true, rfl, hs9, ⟨hk, .inr ⟨rfl, fun _ => Cn.num_no1 hall (by first | (left; omega) | (right; rw [List.length_drop]; omega))⟩⟩, fun _ => rfl, (Ext.new (Ext.new (Ext.new (Ext.refl _ _) e_1 (by intro i hi hk; first | exact hk.elim | ((try dsimp only at hk); (try dsimp only); omega))) e2 (by intro i hi hk; first | exact hk.elim | ((try dsimp only at hk); (try dsimp only); omega))) e9 (by intro i hi hk; first | exact hk.elim | ((try dsimp only at hk); (try dsimp only); omega)))⟩
        | exact ⟨BitVec.ofNat 64 (Cn.valN ((l.drop k).take (i + 1))), k + (i + 1), false, rfl, hs9, ⟨by omega, .inl ⟨rfl, rfl, Cn.num_yes (by omega) hq9⟩⟩, (fun h => by cases h), (Ext.new (Ext.new (Ext.new (Ext.refl _ _) e_1 (by intro i hi hk; first | exact hk.elim | ((try dsimp only at hk); (try dsimp only); omega))) e2 (by intro i hi hk; first | exact hk.elim | ((try dsimp only at hk); (try dsimp only); omega))) e9 (by intro i hi hk; first | exact hk.elim | ((try dsimp only at hk); (try dsimp only); omega)))⟩

set_option maxHeartbeats 2000000 in
theorem xtext_spec (b : Nat) (vl : Value) (l : List UInt8) (k : Nat) (bad : Bool) (F : Nat → Prop) (w : World) (ho : Own w b 122 [vl, .int .i64 ((k : Int)), .bool bad]) (hl : Sl byteE w F vl l) (hk : k ≤ l.length) (hF : ∀ j, F j → j ≠ b ∧ j < w.heap.size) (hL : l.length ≤ 1000000) :
    Ret Tryz.prog 80 #[.pointer (some ⟨b, 0, none⟩)] w (fun v w' => ∃ (s : List UInt8) (k' : Nat) (bad' : Bool), v = str s ∧ Own w' b 122 [vl, .int .i64 ((k' : Int)), .bool bad'] ∧ s.length ≤ l.length ∧ Cn.Rd (fun _ : List UInt8 => True) Cn.strB l k bad s k' bad' ∧ Ext (fun j => j = b) w w') := by
  have _hF9 := hF
  have _hk9 := hk
  have hbl := ho.lt
  have hll := hl.le
  refine enter (args := [.pointer (some ⟨b, 0, none⟩)]) (n := 57) Tryz.func80 rfl rfl (Nat.le_of_ble_eq_true rfl) ?_
  refine C.seqK fun K1 hK1 => ?_
  refine C.region ?_
  refine O.asg ?_
  refine O.nil ?_
  refine hK1 _ _ ?_
  refine C.seqK fun K2 hK2 => ?_
  refine C.region ?_
  refine O.mv ?_
  refine O.call Tryz.call79 (args1 rfl) (xnum_spec b vl l k bad F _ ho hl hk (fun j hj => by have q1 := hF j hj; omega) hL) ?_
  rintro v_6 w1 ⟨nv6, knv6, bv6, rfl, hov6, hrv6, hzv6, e1⟩
  have z1 := e1.size
  have hk6 := hrv6.1
  have hn6 := nv6.isLt
  refine O.asg ?_
  refine O.nil ?_
  refine hK2 _ _ ?_
  refine C.seqK fun K3 hK3 => ?_
  refine C.seqK fun K4 hK4 => ?_
  refine C.draw (by kernel_rfl) fun w2 e2 => ?_
  have z2 := e2.size
  refine D.take (i := 0) rfl rfl rfl rfl (by kernel_rfl) (Le.refl _) ⟨pure _, rfl⟩ (fun w_ hw_ N_ hN => (O.mv (O.nil hN))) ?_
  refine D.take (i := 1) rfl rfl rfl rfl (by kernel_rfl) (Le.refl _) (nil_form rfl) (fun w_ hw_ N_ hN => (O.nilChk rfl (O.nil hN))) ?_
  refine D.take (i := 2) rfl rfl rfl rfl (by kernel_rfl) (Le.refl _) ⟨_, rfl⟩ (fun w_ hw_ N_ hN => (O.fieldAd Tryz.underlying122 rfl Tryz.sizeOf4 (by decide) rfl (O.nil hN))) ?_
  refine D.take (i := 3) rfl rfl rfl rfl (by kernel_rfl) (Le.refl _) ⟨_, rfl⟩ (fun w_ hw_ N_ hN => (O.loadO Tryz.isAgg4 rfl ((hov6.keep e2).keep hw_) rfl (O.nil hN))) ?_
  refine D.take (i := 4) rfl rfl rfl rfl (by kernel_rfl) (Le.refl _) ⟨pure _, rfl⟩ (fun w_ hw_ N_ hN => (O.mv (O.nil hN))) ?_
  refine D.split (x := .tmp 11) rfl (fun c11 => ?_) (fun c11 => ?_)
  ·
    have c11b := c11
    obtain rfl := c11b
    refine D.takeNo (i := 5) rfl rfl (by kernel_rfl) (Le.refl _) rfl (noB (isT' rfl c11) rfl) ?_
    refine D.takeNo (i := 6) rfl rfl (by kernel_rfl) (Le.refl _) rfl (noB (isT' rfl c11) rfl) ?_
    refine D.takeNo (i := 7) rfl rfl (by kernel_rfl) (Le.refl _) rfl (noB (isT' rfl c11) rfl) ?_
    refine D.takeNo (i := 8) rfl rfl (by kernel_rfl) (Le.refl _) rfl (noB (isT' rfl c11) rfl) ?_
    refine D.takeNo (i := 9) rfl rfl (by kernel_rfl) (Le.refl _) rfl (noB (isT' rfl c11) rfl) ?_
    refine D.takeNo (i := 10) rfl rfl (by kernel_rfl) (Le.refl _) rfl (noB (isT' rfl c11) rfl) ?_
    refine D.takeNo (i := 11) rfl rfl (by kernel_rfl) (Le.refl _) rfl (noB (isT' rfl c11) rfl) ?_
    refine D.takeNo (i := 12) rfl rfl (by kernel_rfl) (Le.refl _) rfl (noB (isT' rfl c11) rfl) ?_
    refine D.takeNo (i := 13) rfl rfl (by kernel_rfl) (Le.refl _) rfl (noB (isT' rfl c11) rfl) ?_
    refine D.takeNo (i := 14) rfl rfl (by kernel_rfl) (Le.refl _) rfl (noB (isT' rfl c11) rfl) ?_
    refine D.takeNo (i := 15) rfl rfl (by kernel_rfl) (Le.refl _) rfl (noB (isT' rfl c11) rfl) ?_
    refine D.takeNo (i := 16) rfl rfl (by kernel_rfl) (Le.refl _) rfl (noB (isT' rfl c11) rfl) ?_
    refine D.takeNo (i := 17) rfl rfl (by kernel_rfl) (Le.refl _) rfl (noB (isT' rfl c11) rfl) ?_
    refine D.take (i := 18) rfl rfl rfl rfl (by kernel_rfl) (Le.refl _) pick_form (fun w_ hw_ N_ hN => (O.pickT (isT' rfl c11) (O.nil hN))) ?_
    refine D.done (by kernel_rfl) ?_
    refine hK4 _ _ ?_
    refine C.condT rfl ?_
    refine C.seqK fun K5 hK5 => ?_
    refine C.region ?_
    refine O.mv ?_
    refine O.nilChk rfl ?_
    refine O.fieldAd Tryz.underlying122 rfl Tryz.sizeOf4 (by decide) rfl ?_
    refine O.store Tryz.sizeOf4 rfl rfl rfl (hov6.keep e2) (by simp) (fun w3 hs3 e3 z3 => ?_)
    try simp only [Nat.zero_add] at hs3
    refine O.nil ?_
    refine hK5 _ _ ?_
    refine C.seqK fun K6 hK6 => ?_
    refine C.region ?_
    refine O.asg ?_
    refine O.nil ?_
    refine hK6 _ _ ?_
    refine C.ret ?_
    refine Outs.one rfl rfl ?_
    first
    | exact ⟨_, knv6 + nv6.toNat, false, rfl, hs3, by rw [List.length_take, List.length_drop]; omega, Cn.Rd.str hrv6 hn7, (Ext.new (Ext.new (Ext.new (Ext.refl _ _) e1 (by intro i hi hk; first | exact hk.elim | ((try dsimp only at hk); (try dsimp only); omega))) e2 (by intro i hi hk; first | exact hk.elim | ((try dsimp only at hk); (try dsimp only); omega))) e3 (by intro i hi hk; first | exact hk.elim | ((try dsimp only at hk); (try dsimp only); omega)))⟩
    | exact ⟨[], knv6, true, rfl, hs3, Nat.zero_le _, Cn.Rd.nostr hL hrv6 (.inl rfl), (Ext.new (Ext.new (Ext.new (Ext.refl _ _) e1 (by intro i hi hk; first | exact hk.elim | ((try dsimp only at hk); (try dsimp only); omega))) e2 (by intro i hi hk; first | exact hk.elim | ((try dsimp only at hk); (try dsimp only); omega))) e3 (by intro i hi hk; first | exact hk.elim | ((try dsimp only at hk); (try dsimp only); omega)))⟩
    | exact ⟨[], knv6, true, rfl, hs3, Nat.zero_le _, Cn.Rd.nostr hL hrv6 (.inr hn8), (Ext.new (Ext.new (Ext.new (Ext.refl _ _) e1 (by intro i hi hk; first | exact hk.elim | ((try dsimp only at hk); (try dsimp only); omega))) e2 (by intro i hi hk; first | exact hk.elim | ((try dsimp only at hk); (try dsimp only); omega))) e3 (by intro i hi hk; first | exact hk.elim | ((try dsimp only at hk); (try dsimp only); omega)))⟩
  ·
    have c11b := c11
    obtain rfl := c11b
    refine D.takeYes (i := 5) rfl rfl rfl (by kernel_rfl) rfl (isF' rfl c11) (Le.refl _) ⟨pure _, rfl⟩ (fun w_ hw_ N_ hN => (O.mv (O.nil hN))) ?_
    refine D.takeYes (i := 6) rfl rfl rfl (by kernel_rfl) rfl (isF' rfl c11) (Le.refl _) ⟨pure _, rfl⟩ (fun w_ hw_ N_ hN => (O.mv (O.nil hN))) ?_
    refine D.takeYes (i := 7) rfl rfl rfl (by kernel_rfl) rfl (isF' rfl c11) (Le.refl _) (nil_form rfl) (fun w_ hw_ N_ hN => (O.nilChk rfl (O.nil hN))) ?_
    refine D.takeYes (i := 8) rfl rfl rfl (by kernel_rfl) rfl (isF' rfl c11) (Le.refl _) ⟨_, rfl⟩ (fun w_ hw_ N_ hN => (O.fieldAd Tryz.underlying122 rfl Tryz.sizeOf32 (by decide) rfl (O.nil hN))) ?_
    refine D.takeYes (i := 9) rfl rfl rfl (by kernel_rfl) rfl (isF' rfl c11) (Le.refl _) ⟨_, rfl⟩ (fun w_ hw_ N_ hN => (O.loadO Tryz.isAgg32 rfl ((hov6.keep e2).keep hw_) rfl (O.nil hN))) ?_
    refine D.takeYes (i := 10) rfl rfl rfl (by kernel_rfl) rfl (isF' rfl c11) (Le.refl _) len_form (fun w_ hw_ N_ hN => (O.len Tryz.underlying32 rfl (((hl.keepM e1 (by intro k hk h; first | (have q1 := hF k hk; (try dsimp only at h); omega) | ((try dsimp only at hk); (try dsimp only at h); omega))).keep e2).keep hw_) (O.nil hN))) ?_
    refine D.takeYes (i := 11) rfl rfl rfl (by kernel_rfl) rfl (isF' rfl c11) (Le.refl _) ⟨pure _, rfl⟩ (fun w_ hw_ N_ hN => (O.mv (O.nil hN))) ?_
    refine D.takeYes (i := 12) rfl rfl rfl (by kernel_rfl) rfl (isF' rfl c11) (Le.refl _) (nil_form rfl) (fun w_ hw_ N_ hN => (O.nilChk rfl (O.nil hN))) ?_
    refine D.takeYes (i := 13) rfl rfl rfl (by kernel_rfl) rfl (isF' rfl c11) (Le.refl _) ⟨_, rfl⟩ (fun w_ hw_ N_ hN => (O.fieldAd Tryz.underlying122 rfl Tryz.sizeOf3 (by decide) rfl (O.nil hN))) ?_
    refine D.takeYes (i := 14) rfl rfl rfl (by kernel_rfl) rfl (isF' rfl c11) (Le.refl _) ⟨_, rfl⟩ (fun w_ hw_ N_ hN => (O.loadO Tryz.isAgg3 rfl ((hov6.keep e2).keep hw_) rfl (O.nil hN))) ?_
    refine D.takeYes (i := 15) rfl rfl rfl (by kernel_rfl) rfl (isF' rfl c11) (Le.refl _) ⟨_, rfl⟩ (fun w_ hw_ N_ hN => (O.subI rfl rfl (by unfold InI; omega) (O.nil hN))) ?_
    refine D.takeYes (i := 16) rfl rfl rfl (by kernel_rfl) rfl (isF' rfl c11) (Le.refl _) ⟨_, rfl⟩ (fun w_ hw_ N_ hN => (O.convIU (m' := 64) Tryz.underlying3 Tryz.underlying49 rfl rfl rfl (O.nil hN))) ?_
    refine D.takeYes (i := 17) rfl rfl rfl (by kernel_rfl) rfl (isF' rfl c11) (Le.refl _) ⟨_, rfl⟩ (fun w_ hw_ N_ hN => (O.gtrU (m := 64) rfl rfl (O.nil hN))) ?_
    refine D.take (i := 18) rfl rfl rfl rfl (by kernel_rfl) (Le.refl _) pick_form (fun w_ hw_ N_ hN => (O.pickF (isF' rfl c11) (O.nil hN))) ?_
    refine D.done (by kernel_rfl) ?_
    refine hK4 _ _ ?_
    refine C.condD rfl (fun c25 => ?_) (fun c25 => ?_)
    ·
      have hn8 : l.length - knv6 < nv6.toNat := by
        have q := BitVec.lt_def.1 c25
        rw [BitVec.toNat_ofInt] at q
        omega
      refine C.seqK fun K7 hK7 => ?_
      refine C.region ?_
      refine O.mv ?_
      refine O.nilChk rfl ?_
      refine O.fieldAd Tryz.underlying122 rfl Tryz.sizeOf4 (by decide) rfl ?_
      refine O.store Tryz.sizeOf4 rfl rfl rfl (hov6.keep e2) (by simp) (fun w4 hs4 e4 z4 => ?_)
      try simp only [Nat.zero_add] at hs4
      refine O.nil ?_
      refine hK7 _ _ ?_
      refine C.seqK fun K8 hK8 => ?_
      refine C.region ?_
      refine O.asg ?_
      refine O.nil ?_
      refine hK8 _ _ ?_
      refine C.ret ?_
      refine Outs.one rfl rfl ?_
      first
      | exact ⟨_, knv6 + nv6.toNat, false, rfl, hs4, by rw [List.length_take, List.length_drop]; omega, Cn.Rd.str hrv6 hn7, (Ext.new (Ext.new (Ext.new (Ext.refl _ _) e1 (by intro i hi hk; first | exact hk.elim | ((try dsimp only at hk); (try dsimp only); omega))) e2 (by intro i hi hk; first | exact hk.elim | ((try dsimp only at hk); (try dsimp only); omega))) e4 (by intro i hi hk; first | exact hk.elim | ((try dsimp only at hk); (try dsimp only); omega)))⟩
      | exact ⟨[], knv6, true, rfl, hs4, Nat.zero_le _, Cn.Rd.nostr hL hrv6 (.inl rfl), (Ext.new (Ext.new (Ext.new (Ext.refl _ _) e1 (by intro i hi hk; first | exact hk.elim | ((try dsimp only at hk); (try dsimp only); omega))) e2 (by intro i hi hk; first | exact hk.elim | ((try dsimp only at hk); (try dsimp only); omega))) e4 (by intro i hi hk; first | exact hk.elim | ((try dsimp only at hk); (try dsimp only); omega)))⟩
      | exact ⟨[], knv6, true, rfl, hs4, Nat.zero_le _, Cn.Rd.nostr hL hrv6 (.inr hn8), (Ext.new (Ext.new (Ext.new (Ext.refl _ _) e1 (by intro i hi hk; first | exact hk.elim | ((try dsimp only at hk); (try dsimp only); omega))) e2 (by intro i hi hk; first | exact hk.elim | ((try dsimp only at hk); (try dsimp only); omega))) e4 (by intro i hi hk; first | exact hk.elim | ((try dsimp only at hk); (try dsimp only); omega)))⟩
    ·
      have hn7 : nv6.toNat ≤ l.length - knv6 := by
        have q := mt BitVec.lt_def.2 c25
        rw [BitVec.toNat_ofInt] at q
        omega
      refine C.skip ?_
      refine hK3 _ _ ?_
      refine C.seqK fun K9 hK9 => ?_
      refine C.draw (by kernel_rfl) fun w5 e5 => ?_
      have z5 := e5.size
      refine D.take (i := 0) rfl rfl rfl rfl (by kernel_rfl) (Le.refl _) ⟨pure _, rfl⟩ (fun w_ hw_ N_ hN => (O.mv (O.nil hN))) ?_
      refine D.take (i := 1) rfl rfl rfl rfl (by kernel_rfl) (Le.refl _) (nil_form rfl) (fun w_ hw_ N_ hN => (O.nilChk rfl (O.nil hN))) ?_
      refine D.take (i := 2) rfl rfl rfl rfl (by kernel_rfl) (Le.refl _) ⟨_, rfl⟩ (fun w_ hw_ N_ hN => (O.fieldAd Tryz.underlying122 rfl Tryz.sizeOf32 (by decide) rfl (O.nil hN))) ?_
      refine D.take (i := 3) rfl rfl rfl rfl (by kernel_rfl) (Le.refl _) ⟨_, rfl⟩ (fun w_ hw_ N_ hN => (O.loadO Tryz.isAgg32 rfl (((hov6.keep e2).keep e5).keep hw_) rfl (O.nil hN))) ?_
      refine D.take (i := 4) rfl rfl rfl rfl (by kernel_rfl) (Le.refl _) ⟨pure _, rfl⟩ (fun w_ hw_ N_ hN => (O.mv (O.nil hN))) ?_
      refine D.take (i := 5) rfl rfl rfl rfl (by kernel_rfl) (Le.refl _) (nil_form rfl) (fun w_ hw_ N_ hN => (O.nilChk rfl (O.nil hN))) ?_
      refine D.take (i := 6) rfl rfl rfl rfl (by kernel_rfl) (Le.refl _) ⟨_, rfl⟩ (fun w_ hw_ N_ hN => (O.fieldAd Tryz.underlying122 rfl Tryz.sizeOf3 (by decide) rfl (O.nil hN))) ?_
      refine D.take (i := 7) rfl rfl rfl rfl (by kernel_rfl) (Le.refl _) ⟨_, rfl⟩ (fun w_ hw_ N_ hN => (O.loadO Tryz.isAgg3 rfl (((hov6.keep e2).keep e5).keep hw_) rfl (O.nil hN))) ?_
      refine D.take (i := 8) rfl rfl rfl rfl (by kernel_rfl) (Le.refl _) ⟨pure _, rfl⟩ (fun w_ hw_ N_ hN => (O.mv (O.nil hN))) ?_
      refine D.take (i := 9) rfl rfl rfl rfl (by kernel_rfl) (Le.refl _) (nil_form rfl) (fun w_ hw_ N_ hN => (O.nilChk rfl (O.nil hN))) ?_
      refine D.take (i := 10) rfl rfl rfl rfl (by kernel_rfl) (Le.refl _) ⟨_, rfl⟩ (fun w_ hw_ N_ hN => (O.fieldAd Tryz.underlying122 rfl Tryz.sizeOf3 (by decide) rfl (O.nil hN))) ?_
      refine D.take (i := 11) rfl rfl rfl rfl (by kernel_rfl) (Le.refl _) ⟨_, rfl⟩ (fun w_ hw_ N_ hN => (O.loadO Tryz.isAgg3 rfl (((hov6.keep e2).keep e5).keep hw_) rfl (O.nil hN))) ?_
      refine D.take (i := 12) rfl rfl rfl rfl (by kernel_rfl) (Le.refl _) ⟨pure _, rfl⟩ (fun w_ hw_ N_ hN => (O.mv (O.nil hN))) ?_
      refine D.take (i := 13) rfl rfl rfl rfl (by kernel_rfl) (Le.refl _) ⟨_, rfl⟩ (fun w_ hw_ N_ hN => (O.convU64I Tryz.underlying49 Tryz.underlying3 rfl (O.nil hN))) ?_
      refine D.cast (v' := .int .i64 (nv6.toNat : Int)) (congrArg (Value.int .i64) (by rw [BitVec.toInt_eq_toNat_cond, if_pos (by omega)])) ?_
      refine D.take (i := 14) rfl rfl rfl rfl (by kernel_rfl) (Le.refl _) ⟨_, rfl⟩ (fun w_ hw_ N_ hN => (O.addI rfl rfl (by unfold InI; omega) (O.nil hN))) ?_
      refine D.cast (v' := .int .i64 ((knv6 + nv6.toNat : Nat) : Int)) (congrArg (Value.int .i64) (by omega)) ?_
      have hb44 := Sl.sub (P := Tryz.prog) (knv6) (knv6 + nv6.toNat) Tryz.underlying32 Tryz.sizeOf5 (by rfl) (((hl.keepM e1 (by intro k hk h; first | (have q1 := hF k hk; (try dsimp only at h); omega) | ((try dsimp only at hk); (try dsimp only at h); omega))).keep e2).keep e5) (by omega) (by omega)
      obtain ⟨v44, hs44, hr44⟩ := hb44
      refine D.take (i := 15) rfl rfl rfl rfl (by kernel_rfl) (Le.refl _) ⟨_, rfl⟩ (fun w_ hw_ N_ hN => (O.subR rfl hr44 (.inr ⟨_, _, rfl, rfl⟩) (.inr ⟨_, _, rfl, rfl⟩) (O.nil hN))) ?_
      refine D.take (i := 16) rfl rfl rfl rfl (by kernel_rfl) (Le.refl _) ⟨_, rfl⟩ (fun w_ hw_ N_ hN => (O.bytesS Tryz.underlying32 Tryz.underlying5 Tryz.underlying9 rfl (hs44.keep hw_) (O.nil hN))) ?_
      refine D.cast (v' := str ((l.drop knv6).take nv6.toNat)) (by rw [List.drop_take, show knv6 + nv6.toNat - knv6 = nv6.toNat by omega]) ?_
      refine D.take (i := 17) rfl rfl rfl rfl (by kernel_rfl) (Le.refl _) ⟨pure _, rfl⟩ (fun w_ hw_ N_ hN => (O.asg (O.nil hN))) ?_
      refine D.done (by kernel_rfl) ?_
      refine hK9 _ _ ?_
      refine C.seqK fun K10 hK10 => ?_
      refine C.region ?_
      refine O.mv ?_
      refine O.mv ?_
      refine O.nilChk rfl ?_
      refine O.fieldAd Tryz.underlying122 rfl Tryz.sizeOf3 (by decide) rfl ?_
      refine O.loadO Tryz.isAgg3 rfl ((hov6.keep e2).keep e5) rfl ?_
      refine O.mv ?_
      refine O.convU64I Tryz.underlying49 Tryz.underlying3 rfl ?_
      refine O.cast (v' := .int .i64 (nv6.toNat : Int)) (congrArg (Value.int .i64) (by rw [BitVec.toInt_eq_toNat_cond, if_pos (by omega)])) ?_
      refine O.addI rfl rfl (by unfold InI; omega) ?_
      refine O.cast (v' := .int .i64 ((knv6 + nv6.toNat : Nat) : Int)) (congrArg (Value.int .i64) (by omega)) ?_
      refine O.nilChk rfl ?_
      refine O.fieldAd Tryz.underlying122 rfl Tryz.sizeOf3 (by decide) rfl ?_
      refine O.store Tryz.sizeOf3 rfl rfl rfl ((hov6.keep e2).keep e5) (by simp) (fun w6 hs6 e6 z6 => ?_)
      try simp only [Nat.zero_add] at hs6
      refine O.nil ?_
      refine hK10 _ _ ?_
      refine C.seqK fun K11 hK11 => ?_
      refine C.region ?_
      refine O.mv ?_
      refine O.asg ?_
      refine O.nil ?_
      refine hK11 _ _ ?_
      refine C.ret ?_
      refine Outs.one rfl rfl ?_
      first
      | exact ⟨_, knv6 + nv6.toNat, false, rfl, hs6, by rw [List.length_take, List.length_drop]; omega, Cn.Rd.str hrv6 hn7, (Ext.new (Ext.new (Ext.new (Ext.new (Ext.refl _ _) e1 (by intro i hi hk; first | exact hk.elim | ((try dsimp only at hk); (try dsimp only); omega))) e2 (by intro i hi hk; first | exact hk.elim | ((try dsimp only at hk); (try dsimp only); omega))) e5 (by intro i hi hk; first | exact hk.elim | ((try dsimp only at hk); (try dsimp only); omega))) e6 (by intro i hi hk; first | exact hk.elim | ((try dsimp only at hk); (try dsimp only); omega)))⟩
      | exact ⟨[], knv6, true, rfl, hs6, Nat.zero_le _, Cn.Rd.nostr hL hrv6 (.inl rfl), (Ext.new (Ext.new (Ext.new (Ext.new (Ext.refl _ _) e1 (by intro i hi hk; first | exact hk.elim | ((try dsimp only at hk); (try dsimp only); omega))) e2 (by intro i hi hk; first | exact hk.elim | ((try dsimp only at hk); (try dsimp only); omega))) e5 (by intro i hi hk; first | exact hk.elim | ((try dsimp only at hk); (try dsimp only); omega))) e6 (by intro i hi hk; first | exact hk.elim | ((try dsimp only at hk); (try dsimp only); omega)))⟩
      | exact ⟨[], knv6, true, rfl, hs6, Nat.zero_le _, Cn.Rd.nostr hL hrv6 (.inr hn8), (Ext.new (Ext.new (Ext.new (Ext.new (Ext.refl _ _) e1 (by intro i hi hk; first | exact hk.elim | ((try dsimp only at hk); (try dsimp only); omega))) e2 (by intro i hi hk; first | exact hk.elim | ((try dsimp only at hk); (try dsimp only); omega))) e5 (by intro i hi hk; first | exact hk.elim | ((try dsimp only at hk); (try dsimp only); omega))) e6 (by intro i hi hk; first | exact hk.elim | ((try dsimp only at hk); (try dsimp only); omega)))⟩

theorem xdot_spec (b : Nat) (vl : Value) (l : List UInt8) (k : Nat) (bad : Bool) (F : Nat → Prop) (w : World) (ho : Own w b 122 [vl, .int .i64 ((k : Int)), .bool bad]) (hl : Sl byteE w F vl l) (hk : k ≤ l.length) (hF : ∀ j, F j → j ≠ b ∧ j < w.heap.size) (hL : l.length ≤ 1000000) :
    Ret Tryz.prog 81 #[.pointer (some ⟨b, 0, none⟩)] w (fun v w' => ∃ (d : Dt.Dot) (k' : Nat) (bad' : Bool), v = Dt.dv d ∧ Own w' b 122 [vl, .int .i64 ((k' : Int)), .bool bad'] ∧ Cn.dotR d ∧ Cn.Rd Cn.dotR Cn.dotB l k bad d k' bad' ∧ Ext (fun j => j = b) w w') := by
  have _hF9 := hF
  have _hk9 := hk
  have hbl := ho.lt
  have hll := hl.le
  refine enter (args := [.pointer (some ⟨b, 0, none⟩)]) (n := 12) Tryz.func81 rfl rfl (Nat.le_of_ble_eq_true rfl) ?_
  refine C.seqK fun K1 hK1 => ?_
  refine C.region ?_
  refine O.alloc Tryz.zeroValue51 (fun b2 w1 hb2 hz2 e1 => ?_)
  have z1 := e1.size
  have h2 := hz2.own
  have hl2 := h2.lt
  refine O.nil ?_
  refine hK1 _ _ ?_
  refine C.seqK fun K2 hK2 => ?_
  refine C.region ?_
  refine O.mv ?_
  refine O.call Tryz.call79 (args1 rfl) (xnum_spec b vl l k bad F _ (ho.keep e1) (hl.keep e1) hk (fun j hj => by have q1 := hF j hj; omega) hL) ?_
  rintro v_5 w2 ⟨nv5, knv5, bv5, rfl, hov5, hrv5, hzv5, e2⟩
  have z2 := e2.size
  refine O.asg ?_
  refine O.nil ?_
  refine hK2 _ _ ?_
  refine C.seqK fun K3 hK3 => ?_
  refine C.region ?_
  refine O.mv ?_
  refine O.convU64I Tryz.underlying49 Tryz.underlying3 rfl ?_
  refine O.mv ?_
  refine O.call Tryz.call79 (args1 rfl) (xnum_spec b vl l knv5 bv5 F _ hov5 ((hl.keep e1).keepM e2 (by intro k hk h; first | (have q1 := hF k hk; (try dsimp only at h); omega) | ((try dsimp only at hk); (try dsimp only at h); omega))) hrv5.1 (fun j hj => by have q1 := hF j hj; omega) hL) ?_
  rintro v_9 w3 ⟨nv9, knv9, bv9, rfl, hov9, hrv9, hzv9, e3⟩
  have z3 := e3.size
  refine O.convU64I Tryz.underlying49 Tryz.underlying3 rfl ?_
  refine O.build (cells := #[.int .i64 nv5.toInt, .int .i64 nv9.toInt]) rfl (by kernel_rfl) ?_
  refine O.storeA (vs := [.int .i64 nv5.toInt, .int .i64 nv9.toInt]) Tryz.sizeOf51 rfl rfl rfl (by simp [Value.oneCell']) ((h2.keepM e2 (by intro h; (try dsimp only at h); omega)).keepM e3 (by intro h; (try dsimp only at h); omega)) (Nat.le_of_ble_eq_true rfl) (fun w4 hs4 e4 z4 => ?_)
  refine O.nil ?_
  refine hK3 _ _ ?_
  refine C.ret ?_
  refine Outs.cellA rfl Tryz.isAgg51 Tryz.sizeOf51 rfl hs4 rfl ?_
  exact ⟨(nv5.toInt, nv9.toInt), knv9, bv9, rfl, (hov9.keepM e4 (by intro h; (try dsimp only at h); omega)), Cn.dotR_mk, Cn.Rd.dot hrv5 hrv9, (Ext.new (Ext.new (Ext.new (Ext.new (Ext.refl _ _) e1 (by intro i hi hk; first | exact hk.elim | ((try dsimp only at hk); (try dsimp only); omega))) e2 (by intro i hi hk; first | exact hk.elim | ((try dsimp only at hk); (try dsimp only); omega))) e3 (by intro i hi hk; first | exact hk.elim | ((try dsimp only at hk); (try dsimp only); omega))) e4 (by intro i hi hk; first | exact hk.elim | ((try dsimp only at hk); (try dsimp only); omega)))⟩

set_option maxHeartbeats 1000000 in
theorem xdots_spec (b : Nat) (vl : Value) (l : List UInt8) (k : Nat) (bad : Bool) (F : Nat → Prop) (w : World) (ho : Own w b 122 [vl, .int .i64 ((k : Int)), .bool bad]) (hl : Sl byteE w F vl l) (hk : k ≤ l.length) (hF : ∀ j, F j → j ≠ b ∧ j < w.heap.size) (hL : l.length ≤ 1000000) :
    Ret Tryz.prog 107 #[.pointer (some ⟨b, 0, none⟩)] w (fun v w' => ∃ (ds : List Dt.Dot) (k' : Nat) (bad' : Bool), Own w' b 122 [vl, .int .i64 ((k' : Int)), .bool bad'] ∧ Sl Dt.dotF.enc w' (fun j => w.heap.size ≤ j ∧ j < w'.heap.size) v ds ∧ ds.length ≤ l.length + 1 ∧ Cn.manyQ Cn.dotR ds ∧ Cn.Rd (Cn.manyQ Cn.dotR) (Cn.manyB Cn.dotB) l k bad ds k' bad' ∧ Ext (fun j => j = b) w w') := by
  have _hF9 := hF
  have _hk9 := hk
  have hbl := ho.lt
  have hll := hl.le
  obtain ⟨ie51, ti51, ts51, tb51, tz51⟩ := inf51
  refine enter (args := [.pointer (some ⟨b, 0, none⟩)]) (n := 24) Tryz.func107 rfl rfl (Nat.le_of_ble_eq_true rfl) ?_
  refine C.seqK fun K1 hK1 => ?_
  refine C.region ?_
  refine O.asg ?_
  refine O.nil ?_
  refine hK1 _ _ ?_
  refine C.seqK fun K2 hK2 => ?_
  refine C.region ?_
  refine O.asg ?_
  refine O.nil ?_
  refine hK2 _ _ ?_
  refine C.seqK fun K3 hK3 => ?_
  refine C.seqK fun K4 hK4 => ?_
  refine C.region ?_
  refine O.mv ?_
  refine O.call Tryz.call79 (args1 rfl) (xnum_spec b vl l k bad F _ ho hl hk (fun j hj => by have q1 := hF j hj; omega) hL) ?_
  rintro v_6 w1 ⟨nv6, knv6, bv6, rfl, hov6, hrv6, hzv6, e1⟩
  have z1 := e1.size
  refine O.asg ?_
  refine O.nil ?_
  refine hK4 _ _ ?_
  refine C.block fun K5 hK5 => ?_
  refine C.loop0 (σ := List Dt.Dot × Value × Nat × Bool) (fun f0 w0 ⟨ds, vs, kc, bc⟩ f wz => f 3 = vs ∧ f 4 = .int .u64 ((BitVec.ofNat 64 (nv6.toNat - ds.length)).toNat : Int) ∧ f 0 = f0 0 ∧ f 2 = f0 2 ∧ Ext (fun j => j = b) w wz ∧ Own wz b 122 [vl, .int .i64 ((kc : Int)), .bool bc] ∧ OwnF Dt.dotF 51 w.heap.size wz vs ds ∧ ds.length ≤ nv6.toNat ∧ ds.length ≤ l.length + 1 ∧ Cn.Rds Cn.dotR Cn.dotB l k bad nv6 knv6 ds kc bc) (fun ⟨ds, vs, kc, bc⟩ => nv6.toNat - ds.length) ([], .slice none 0 0, knv6, bv6) ?_ ?_
  ·
    refine ⟨rfl, (Eq.trans rfl (congrArg (fun q : BitVec 64 => Value.int .u64 (q.toNat : Int)) (by simp))), rfl, rfl, (Ext.new (Ext.refl _ _) e1 (by intro i hi hk; first | exact hk.elim | ((try dsimp only at hk); (try dsimp only); omega))), hov6, (OwnF.nil _ _ _ _), ?_⟩
    exact ⟨Nat.zero_le _, Nat.zero_le _, Cn.Rds.start hL Cn.dotB_ge hrv6⟩
  ·
    rintro ⟨ds, vs, kc, bc⟩ f_1 w2 ⟨s3_1, s4_1, s0_1, s2_1, e_1, r0_1, r1_1, ⟨hj, hj9, hR⟩⟩
    have z_1 := e_1.size
    have r1_1s := r1_1.sl
    have hNl := nv6.isLt
    refine C.seqK fun K6 hK6 => ?_
    refine C.seqK fun K7 hK7 => ?_
    refine C.region ?_
    refine O.mv ?_
    refine O.gtrU (m := 64) (b := 0#64) s4_1 rfl ?_
    refine O.mv ?_
    refine O.splitD (x := .tmp 9) rfl (fun c9 => ?_) (fun c9 => ?_)
    ·
      have hj2 : ds.length < nv6.toNat := by have q := (Cn.pos_ofNat (m := nv6.toNat - ds.length) (by omega)).1 c9; omega
      refine O.yes rfl (isT rfl c9) ?_
      refine O.mv ?_
      refine O.yes rfl (isT rfl c9) ?_
      refine O.nilChk s0_1 ?_
      refine O.yes rfl (isT rfl c9) ?_
      refine O.fieldAd Tryz.underlying122 rfl Tryz.sizeOf4 (by decide) rfl ?_
      refine O.yes rfl (isT rfl c9) ?_
      refine O.loadO Tryz.isAgg4 rfl r0_1 rfl ?_
      refine O.yes rfl (isT rfl c9) ?_
      refine O.not rfl ?_
      refine O.pickT (isT rfl c9) ?_
      refine O.nil ?_
      refine hK7 _ _ ?_
      refine C.cond rfl (fun c15 => ?_) (fun c15 => ?_)
      ·
        obtain rfl : bc = false := by simpa using c15
        have hln := (Cn.Rds.len Cn.dotB_ge hR).1
        refine C.skip ?_
        refine hK6 _ _ ?_
        refine C.seqK fun K8 hK8 => ?_
        refine C.block fun K9 hK9 => ?_
        refine C.region ?_
        refine O.mv ?_
        refine O.mv ?_
        refine O.call Tryz.call81 (args1 s0_1) (xdot_spec b vl l kc false F _ r0_1 (hl.keepM e_1 (by intro k hk h; first | (have q1 := hF k hk; (try dsimp only at h); omega) | ((try dsimp only at hk); (try dsimp only at h); omega))) hR.1 (fun j hj => by have q1 := hF j hj; omega) hL) ?_
        rintro v_20 w3 ⟨dv20, knv20, bv20, rfl, hov20, hdv20, hrv20, e3⟩
        have z3 := e3.size
        refine O.litG (G := Dt.dotF) [dv20] Tryz.underlying22 ti51 ts51 tz51 rfl (by decide) (by decide) rfl (fun b21 w4 hb21 hz21 e4 => ?_)
        have z4 := e4.size
        have h21 := hz21.own
        have hq21 := Sl.litG (n := 1) h21 rfl (by unfold maxLen; omega)
        refine O.appF (G := Dt.dotF) Tryz.underlying22 ti51 tz51 ts51 rfl s3_1 rfl ((r1_1.keepM e3 (fun k hk h => by have := r1_1.bk_ge k hk; (try dsimp only at h); omega)).keep e4) hq21 (by rw [tb51]; simp; omega) (by unfold maxLen; simp; omega) (by omega) (fun v22 w5 h22 e5 => ?_)
        have e5m : Ext (fun j => w.heap.size ≤ j) w4 w5 := e5.mono (fun j _ hj => by have := ((r1_1.keepM e3 (fun k hk h => by have := r1_1.bk_ge k hk; (try dsimp only at h); omega)).keep e4).bk_ge j hj; omega)
        have z5 := e5.size
        have h22s := h22.sl
        refine O.asg ?_
        refine O.nil ?_
        refine hK9 _ _ ?_
        refine hK8 _ _ ?_
        refine C.region ?_
        refine O.mv ?_
        refine O.subU (m := 64) (b := 1#64) rfl rfl s4_1 rfl ?_
        refine O.asg ?_
        refine O.nil ?_
        refine ⟨(ds ++ [dv20], v22, knv20, bv20), ⟨rfl, (Eq.trans rfl (congrArg (fun q : BitVec 64 => Value.int .u64 (q.toNat : Int)) (by rw [Cn.dec_ofNat (by omega) (by omega), List.length_append]; rfl))), s0_1, s2_1, (Ext.new (Ext.new (Ext.new (Ext.new (Ext.refl _ _) e_1 (by intro i hi hk; first | exact hk.elim | ((try dsimp only at hk); (try dsimp only); omega))) e3 (by intro i hi hk; first | exact hk.elim | ((try dsimp only at hk); (try dsimp only); omega))) e4 (by intro i hi hk; first | exact hk.elim | ((try dsimp only at hk); (try dsimp only); omega))) e5m (by intro i hi hk; first | exact hk.elim | ((try dsimp only at hk); (try dsimp only); omega))), ((hov20.keep e4).keepM e5 (by intro h; have := ((r1_1.keepM e3 (fun k hk h => by have := r1_1.bk_ge k hk; (try dsimp only at h); omega)).keep e4).bk_ge _ h; omega)), h22, ?_⟩, by show nv6.toNat - (ds ++ [dv20]).length < nv6.toNat - ds.length; rw [List.length_append]; show nv6.toNat - (ds.length + 1) < _; omega⟩
        exact ⟨by rw [List.length_append]; exact hj2, by rw [List.length_append]; show ds.length + 1 ≤ _; omega, Cn.Rds.next Cn.pre_dot hR hj2 hdv20 hrv20⟩
      ·
        refine C.exit ?_
        refine hK5 _ _ ?_
        refine hK3 _ _ ?_
        refine C.seqK fun K10 hK10 => ?_
        refine C.region ?_
        refine O.mv ?_
        refine O.asg ?_
        refine O.nil ?_
        refine hK10 _ _ ?_
        refine C.ret ?_
        refine Outs.one rfl s3_1 ?_
        exact ⟨ds, kc, bc, r0_1, (r1_1).sl.weak (fun j hj => by have := (r1_1).bk_ge j hj; exact ⟨by omega, by omega⟩), by omega, hR.2.1, Cn.Rds.done hR (by first | (left; omega) | (right; simpa using c15)), (Ext.new (Ext.refl _ _) e_1 (by intro i hi hk; first | exact hk.elim | ((try dsimp only at hk); (try dsimp only); omega)))⟩
    ·
      have hj3 : ds.length = nv6.toNat := by have q := mt (Cn.pos_ofNat (m := nv6.toNat - ds.length) (by omega)).2 c9; omega
      refine O.no rfl (noB (isF rfl c9) rfl) ?_
      refine O.no rfl (noB (isF rfl c9) rfl) ?_
      refine O.no rfl (noB (isF rfl c9) rfl) ?_
      refine O.no rfl (noB (isF rfl c9) rfl) ?_
      refine O.no rfl (noB (isF rfl c9) rfl) ?_
      refine O.pickF (isF rfl c9) ?_
      refine O.nil ?_
      refine hK7 _ _ ?_
      refine C.condF rfl ?_
      refine C.exit ?_
      refine hK5 _ _ ?_
      refine hK3 _ _ ?_
      refine C.seqK fun K11 hK11 => ?_
      refine C.region ?_
      refine O.mv ?_
      refine O.asg ?_
      refine O.nil ?_
      refine hK11 _ _ ?_
      refine C.ret ?_
      refine Outs.one rfl s3_1 ?_
      exact ⟨ds, kc, bc, r0_1, (r1_1).sl.weak (fun j hj => by have := (r1_1).bk_ge j hj; exact ⟨by omega, by omega⟩), by omega, hR.2.1, Cn.Rds.done hR (by first | (left; omega) | (right; simpa using c15)), (Ext.new (Ext.refl _ _) e_1 (by intro i hi hk; first | exact hk.elim | ((try dsimp only at hk); (try dsimp only); omega)))⟩

theorem xctx_spec (b : Nat) (vl : Value) (l : List UInt8) (k : Nat) (bad : Bool) (F : Nat → Prop) (w : World) (ho : Own w b 122 [vl, .int .i64 ((k : Int)), .bool bad]) (hl : Sl byteE w F vl l) (hk : k ≤ l.length) (hF : ∀ j, F j → j ≠ b ∧ j < w.heap.size) (hL : l.length ≤ 1000000) :
    Ret Tryz.prog 78 #[.pointer (some ⟨b, 0, none⟩)] w (fun v w' => ∃ (v1 v2 : Value) (x : Cn.Ctx) (k' : Nat) (bad' : Bool), v = .agg #[v1, v2] ∧ Own w' b 122 [vl, .int .i64 ((k' : Int)), .bool bad'] ∧ Sl Dt.dotF.enc w' (fun j => w.heap.size ≤ j ∧ j < w'.heap.size) v1 x.1 ∧ Sl Dt.dotF.enc w' (fun j => w.heap.size ≤ j ∧ j < w'.heap.size) v2 x.2 ∧ (x.1.length ≤ l.length + 1 ∧ x.2.length ≤ l.length + 1) ∧ Cn.ctxR x ∧ Cn.Rd Cn.ctxR Cn.ctxB l k bad x k' bad' ∧ Ext (fun j => j = b) w w') := by
  have _hF9 := hF
  have _hk9 := hk
  have hbl := ho.lt
  have hll := hl.le
  refine enter (args := [.pointer (some ⟨b, 0, none⟩)]) (n := 10) Tryz.func78 rfl rfl (Nat.le_of_ble_eq_true rfl) ?_
  refine C.seqK fun K1 hK1 => ?_
  refine C.region ?_
  refine O.alloc Tryz.zeroValue25 (fun b2 w1 hb2 hz2 e1 => ?_)
  have z1 := e1.size
  have h2 := hz2.own
  have hl2 := h2.lt
  refine O.nil ?_
  refine hK1 _ _ ?_
  refine C.seqK fun K2 hK2 => ?_
  refine C.region ?_
  refine O.mv ?_
  refine O.call Tryz.call107 (args1 rfl) (xdots_spec b vl l k bad F _ (ho.keep e1) (hl.keep e1) hk (fun j hj => by have q1 := hF j hj; omega) hL) ?_
  rintro v_5 w2 ⟨dsv5, knv5, bv5, hov5, hlv5, hnv5, hqv5, hrv5, e2⟩
  have z2 := e2.size
  obtain ⟨p5, rfl⟩ := hlv5.slv
  refine O.asg ?_
  refine O.nil ?_
  refine hK2 _ _ ?_
  refine C.seqK fun K3 hK3 => ?_
  refine C.region ?_
  refine O.mv ?_
  refine O.mv ?_
  refine O.call Tryz.call107 (args1 rfl) (xdots_spec b vl l knv5 bv5 F _ hov5 ((hl.keep e1).keepM e2 (by intro k hk h; first | (have q1 := hF k hk; (try dsimp only at h); omega) | ((try dsimp only at hk); (try dsimp only at h); omega))) hrv5.1 (fun j hj => by have q1 := hF j hj; omega) hL) ?_
  rintro v_8 w3 ⟨dsv8, knv8, bv8, hov8, hlv8, hnv8, hqv8, hrv8, e3⟩
  have z3 := e3.size
  obtain ⟨p8, rfl⟩ := hlv8.slv
  refine O.build (cells := #[slv p5, slv p8]) rfl (by kernel_rfl) ?_
  refine O.storeA (vs := [slv p5, slv p8]) Tryz.sizeOf25 rfl rfl rfl (by simp [slv, Value.oneCell']) ((h2.keepM e2 (by intro h; (try dsimp only at h); omega)).keepM e3 (by intro h; (try dsimp only at h); omega)) (Nat.le_of_ble_eq_true rfl) (fun w4 hs4 e4 z4 => ?_)
  refine O.nil ?_
  refine hK3 _ _ ?_
  refine C.ret ?_
  refine Outs.cellA rfl Tryz.isAgg25 Tryz.sizeOf25 rfl hs4 rfl ?_
  exact ⟨slv p5, slv p8, (dsv5, dsv8), knv8, bv8, rfl, (hov8.keepM e4 (by intro h; (try dsimp only at h); omega)), (((hlv5.keepM e3 (by intro k hk h; first | (have q1 := hF k hk; (try dsimp only at h); omega) | ((try dsimp only at hk); (try dsimp only at h); omega))).keepM e4 (by intro k hk h; first | (have q1 := hF k hk; (try dsimp only at h); omega) | (have q1 := hF2 k hk; (try dsimp only at h); omega) | (have q1 := hFb k hk; (try dsimp only at h); omega) | ((try dsimp only at hk); (try dsimp only at h); omega)))).weak (by intro j hj; (try dsimp only at hj); (try dsimp only); omega), ((hlv8.keepM e4 (by intro k hk h; first | (have q1 := hF k hk; (try dsimp only at h); omega) | (have q1 := hF2 k hk; (try dsimp only at h); omega) | (have q1 := hFb k hk; (try dsimp only at h); omega) | ((try dsimp only at hk); (try dsimp only at h); omega)))).weak (by intro j hj; (try dsimp only at hj); (try dsimp only); omega), ⟨hnv5, hnv8⟩, ⟨hqv5, hqv8⟩, Cn.Rd.ctx hrv5 hqv5 hrv8, (Ext.new (Ext.new (Ext.new (Ext.new (Ext.refl _ _) e1 (by intro i hi hk; first | exact hk.elim | ((try dsimp only at hk); (try dsimp only); omega))) e2 (by intro i hi hk; first | exact hk.elim | ((try dsimp only at hk); (try dsimp only); omega))) e3 (by intro i hi hk; first | exact hk.elim | ((try dsimp only at hk); (try dsimp only); omega))) e4 (by intro i hi hk; first | exact hk.elim | ((try dsimp only at hk); (try dsimp only); omega)))⟩

end Go.Proofs.YtnkcmaoaagnopaaGreatDoor
end
section
/-
  The walks of the reference that reads whole carts. Conditions: slices as they lie in memory.
-/
namespace Go.Proofs.YtnkcmaoaagnopaaGreatDoor
open Go.Pn Go.RowKit Go.Proofs
attribute [local irreducible] O C D

set_option maxHeartbeats 8000000 in
theorem xprefix_spec (p0 : Option Addr × Nat × Nat) (l : List UInt8) (F : Nat → Prop) (w : World) (hl : Sl byteE w F (slv p0) l) (hL9 : l.length ≤ 900000) (hF : ∀ j, F j → j < w.heap.size) :
    Ret Tryz.prog 54 #[slv p0] w (fun v w' => ∃ (v1 v2 v3 : Value) (c : Cn.Cart) (k' : Nat) (found : Bool), v = .tuple #[.agg #[v1, v2, v3], .int .i64 (k' : Int), .bool found] ∧ Sl Dt.dotF.enc w' (fun j => w.heap.size ≤ j ∧ j < w'.heap.size) v1 c.1.1 ∧ Sl Dt.dotF.enc w' (fun j => w.heap.size ≤ j ∧ j < w'.heap.size) v2 c.1.2 ∧ Sl itemE w' (fun j => w.heap.size ≤ j ∧ j < w'.heap.size) v3 c.2 ∧ Cn.big c ∧ Cn.PrefR l c k' found ∧ Le w w') := by
  have hL : l.length ≤ 1000000 := by omega
  have hll := hl.le
  have _hF9 := hF
  obtain ⟨ie53, ti53, ts53, tb53, tz53⟩ := inf53
  obtain ⟨ie56, ti56, ts56, tb56, tz56⟩ := inf56
  refine enter (args := [slv p0]) (n := 78) Tryz.func54 rfl rfl (Nat.le_of_ble_eq_true rfl) ?_
  refine C.seqK fun K1 hK1 => ?_
  refine C.region ?_
  refine O.alloc Tryz.zeroValue28 (fun b2 w1 hb2 hz2 e1 => ?_)
  have z1 := e1.size
  have h2 := hz2.own
  have hl2 := h2.lt
  refine O.asg ?_
  refine O.asg ?_
  refine O.nil ?_
  refine hK1 _ _ ?_
  refine C.seqK fun K2 hK2 => ?_
  refine C.region ?_
  refine O.mv ?_
  refine O.build (cells := #[slv p0, .int .i64 0, .bool false]) rfl (by kernel_rfl) ?_
  refine O.box (v := .agg #[slv p0, .int .i64 0, .bool false]) rfl (fun b13 w2 hb13 hz13 e2 => ?_)
  have z2 := e2.size
  have h13 := hz13.own
  have hl13 := h13.lt
  refine O.asg ?_
  refine O.nil ?_
  refine hK2 _ _ ?_
  refine C.seqK fun K3 hK3 => ?_
  refine C.region ?_
  refine O.mv ?_
  refine O.call Tryz.call78 (args1 rfl) (xctx_spec b13 (slv p0) l 0 false F _ h13 ((hl.keep e1).keep e2) (Nat.zero_le _) (fun j hj => by have q1 := hF j hj; omega) hL) ?_
  rintro v_15 w3 ⟨vav15, vbv15, xv15, knv15, bv15, rfl, hov15, hxv15, hyv15, hnv15, hcv15, hrv15, e3⟩
  have z3 := e3.size
  obtain ⟨p15, rfl⟩ := hxv15.slv
  obtain ⟨q15, rfl⟩ := hyv15.slv
  refine O.build (cells := #[slv p15, slv q15, .slice none 0 0]) rfl (by kernel_rfl) ?_
  refine O.alloc Tryz.zeroValue28 (fun b6 w4 hb6 hz6 e4 => ?_)
  have z4 := e4.size
  have h6 := hz6.own
  have hl6 := h6.lt
  refine O.storeA (vs := [slv p15, slv q15, .slice none 0 0]) Tryz.sizeOf28 rfl rfl rfl (by simp [slv, Value.oneCell']) h6 (Nat.le_of_ble_eq_true rfl) (fun w5 hs5 e5 z5 => ?_)
  refine O.nil ?_
  refine hK3 _ _ ?_
  refine C.seqK fun K4 hK4 => ?_
  refine C.seqK fun K5 hK5 => ?_
  refine C.region ?_
  refine O.mv ?_
  refine O.call Tryz.call79 (args1 rfl) (xnum_spec b13 (slv p0) l knv15 bv15 F _ ((hov15.keep e4).keepM e5 (by intro h; (try dsimp only at h); omega)) (((((hl.keep e1).keep e2).keepM e3 (by intro k hk h; first | (have q1 := hF k hk; (try dsimp only at h); omega) | ((try dsimp only at hk); (try dsimp only at h); omega))).keep e4).keepM e5 (by intro k hk h; first | (have q1 := hF k hk; (try dsimp only at h); omega) | (have q1 := hF2 k hk; (try dsimp only at h); omega) | (have q1 := hFb k hk; (try dsimp only at h); omega) | ((try dsimp only at hk); (try dsimp only at h); omega))) hrv15.1 (fun j hj => by have q1 := hF j hj; omega) hL) ?_
  rintro v_18 w6 ⟨nv18, knv18, bv18, rfl, hov18, hrv18, hzv18, e6⟩
  have z6 := e6.size
  refine O.asg ?_
  refine O.nil ?_
  refine hK5 _ _ ?_
  refine C.block fun K6 hK6 => ?_
  refine C.loop0 (σ := List ItemT × List (List UInt8 × (Option Addr × Nat × Nat)) × Value × Nat × Bool) (fun f0 w0 ⟨its, raw, o, kc, bc⟩ f wz => f 7 = .int .u64 ((BitVec.ofNat 64 (nv18.toNat - its.length)).toNat : Int) ∧ f 2 = f0 2 ∧ f 3 = f0 3 ∧ f 4 = f0 4 ∧ f 5 = f0 5 ∧ f 6 = f0 6 ∧ Le w wz ∧ Own wz b13 122 [slv p0, .int .i64 ((kc : Int)), .bool bc] ∧ Own wz b2 28 [.slice none 0 0, .slice none 0 0, .slice none 0 0] ∧ Own wz b6 28 [slv p15, slv q15, o] ∧ OwnF itemF 56 (b6 + 1) wz o raw ∧ Items wz (fun j => b6 < j ∧ j < wz.heap.size ∧ ¬ bk o j) raw its ∧ Sl Dt.dotF.enc wz (fun j => b13 < j ∧ j < b6) (slv p15) xv15.1 ∧ Sl Dt.dotF.enc wz (fun j => b13 < j ∧ j < b6) (slv q15) xv15.2 ∧ its.length ≤ nv18.toNat ∧ its.length ≤ l.length + 1 ∧ Cn.manyQ (fun x : ItemT => x.1.length ≤ 1000000 ∧ x.2.length ≤ 1000000) its ∧ Cn.Rds Cn.itemR Cn.itemB l knv15 bv15 nv18 knv18 its kc bc) (fun ⟨its, raw, o, kc, bc⟩ => nv18.toNat - its.length) ([], [], .slice none 0 0, knv18, bv18) ?_ ?_
  ·
    refine ⟨(Eq.trans rfl (congrArg (fun q : BitVec 64 => Value.int .u64 (q.toNat : Int)) (by simp))), rfl, rfl, rfl, rfl, rfl, (Ext.new (Ext.new (Ext.trans (Ext.new (Ext.trans e1 e2) e3 (by rintro i hi rfl; omega)) e4) e5 (by rintro i hi rfl; omega)) e6 (by rintro i hi rfl; omega)), hov18, (((((h2.keep e2).keepM e3 (by intro h; (try dsimp only at h); omega)).keep e4).keepM e5 (by intro h; (try dsimp only at h); omega)).keepM e6 (by intro h; (try dsimp only at h); omega)), (hs5.keepM e6 (by intro h; (try dsimp only at h); omega)), (OwnF.nil _ _ _ _), Items.nil, (((((hxv15.keep e4).keepM e5 (by intro k hk h; first | (have q1 := hF k hk; (try dsimp only at h); omega) | (have q1 := hF2 k hk; (try dsimp only at h); omega) | (have q1 := hFb k hk; (try dsimp only at h); omega) | ((try dsimp only at hk); (try dsimp only at h); omega))).keepM e6 (by intro k hk h; first | (have q1 := hF k hk; (try dsimp only at h); omega) | ((try dsimp only at hk); (try dsimp only at h); omega)))).weak (by intro j hj; (try dsimp only at hj); (try dsimp only); omega)), (((((hyv15.keep e4).keepM e5 (by intro k hk h; first | (have q1 := hF k hk; (try dsimp only at h); omega) | (have q1 := hF2 k hk; (try dsimp only at h); omega) | (have q1 := hFb k hk; (try dsimp only at h); omega) | ((try dsimp only at hk); (try dsimp only at h); omega))).keepM e6 (by intro k hk h; first | (have q1 := hF k hk; (try dsimp only at h); omega) | ((try dsimp only at hk); (try dsimp only at h); omega)))).weak (by intro j hj; (try dsimp only at hj); (try dsimp only); omega)), ?_⟩
    exact ⟨Nat.zero_le _, Nat.zero_le _, Cn.manyQ_nil, Cn.Rds.start hL Cn.itemB_ge hrv18⟩
  ·
    rintro ⟨its, raw, o, kc, bc⟩ f_1 w7 ⟨s7_1, s2_1, s3_1, s4_1, s5_1, s6_1, e_1, r0_1, r1_1, r2_1, r3_1, r4_1, r5_1, r6_1, ⟨hj, hj9, hB, hR⟩⟩
    have z_1 := e_1.size
    have r3_1s := r3_1.sl
    obtain ⟨wL, hwL⟩ : ∃ x, x = w7 := ⟨_, rfl⟩
    have hzL : wL.heap.size = w7.heap.size := by rw [hwL]
    have hNl := nv18.isLt
    have ho1 := (r3_1).one
    have hbl6 := (r2_1).lt
    have hbl2 := (r1_1).lt
    have hbl13 := (r0_1).lt
    have hit := r4_1
    have hob := (r3_1).bk_ge
    refine C.seqK fun K7 hK7 => ?_
    refine C.seqK fun K8 hK8 => ?_
    refine C.region ?_
    refine O.mv ?_
    refine O.gtrU (m := 64) (b := 0#64) s7_1 rfl ?_
    refine O.mv ?_
    refine O.splitD (x := .tmp 21) rfl (fun c21 => ?_) (fun c21 => ?_)
    ·
      have hj2 : its.length < nv18.toNat := by have q := (Cn.pos_ofNat (m := nv18.toNat - its.length) (by omega)).1 c21; omega
      refine O.yes rfl (isT rfl c21) ?_
      refine O.mv ?_
      refine O.yes rfl (isT rfl c21) ?_
      refine O.nilChk s5_1 ?_
      refine O.yes rfl (isT rfl c21) ?_
      refine O.fieldAd Tryz.underlying122 rfl Tryz.sizeOf4 (by decide) rfl ?_
      refine O.yes rfl (isT rfl c21) ?_
      refine O.loadO Tryz.isAgg4 rfl r0_1 rfl ?_
      refine O.yes rfl (isT rfl c21) ?_
      refine O.not rfl ?_
      refine O.pickT (isT rfl c21) ?_
      refine O.nil ?_
      refine hK8 _ _ ?_
      refine C.cond rfl (fun c27 => ?_) (fun c27 => ?_)
      ·
        obtain rfl : bc = false := by simpa using c27
        have hln := (Cn.Rds.len Cn.itemB_ge hR).1
        refine C.skip ?_
        refine hK7 _ _ ?_
        refine C.seqK fun K9 hK9 => ?_
        refine C.block fun K10 hK10 => ?_
        refine C.seqK fun K11 hK11 => ?_
        refine C.region ?_
        refine O.mv ?_
        refine O.call Tryz.call80 (args1 s5_1) (xtext_spec b13 (slv p0) l kc false F _ r0_1 (hl.keep e_1) hR.1 (fun j hj => by have q1 := hF j hj; omega) hL) ?_
        rintro v_31 w8 ⟨sv31, knv31, bv31, rfl, hov31, hnv31, hrv31, e8⟩
        have z8 := e8.size
        refine O.build (cells := #[str sv31, .slice none 0 0]) rfl (by kernel_rfl) ?_
        refine O.alloc Tryz.zeroValue56 (fun b8 w9 hb8 hz8 e9 => ?_)
        have z9 := e9.size
        have h8 := hz8.own
        have hl8 := h8.lt
        refine O.storeA (vs := [str sv31, .slice none 0 0]) Tryz.sizeOf56 rfl rfl rfl (ones2 rfl) h8 (Nat.le_of_ble_eq_true rfl) (fun w10 hs10 e10 z10 => ?_)
        refine O.nil ?_
        refine hK11 _ _ ?_
        refine C.seqK fun K12 hK12 => ?_
        refine C.seqK fun K13 hK13 => ?_
        refine C.region ?_
        refine O.mv ?_
        refine O.call Tryz.call79 (args1 s5_1) (xnum_spec b13 (slv p0) l knv31 bv31 F _ ((hov31.keep e9).keepM e10 (by intro h; (try dsimp only at h); omega)) ((((hl.keep e_1).keepM e8 (by intro k hk h; first | (have q1 := hF k hk; (try dsimp only at h); omega) | ((try dsimp only at hk); (try dsimp only at h); omega))).keep e9).keepM e10 (by intro k hk h; first | (have q1 := hF k hk; (try dsimp only at h); omega) | (have q1 := hF2 k hk; (try dsimp only at h); omega) | (have q1 := hFb k hk; (try dsimp only at h); omega) | ((try dsimp only at hk); (try dsimp only at h); omega))) hrv31.1 (fun j hj => by have q1 := hF j hj; omega) hL) ?_
        rintro v_34 w11 ⟨nv34, knv34, bv34, rfl, hov34, hrv34, hzv34, e11⟩
        have z11 := e11.size
        have hob8 : ∀ j, bk o j → j < b8 := fun j hj => by have := hob j hj; omega
        refine O.asg ?_
        refine O.nil ?_
        refine hK13 _ _ ?_
        refine C.block fun K14 hK14 => ?_
        refine C.loop0 (σ := List MarkT × Value × Nat × Bool) (fun f0 w0 ⟨ms, vm, kd, bd⟩ f wz => f 9 = .int .u64 ((BitVec.ofNat 64 (nv34.toNat - ms.length)).toNat : Int) ∧ f 2 = f0 2 ∧ f 3 = f0 3 ∧ f 4 = f0 4 ∧ f 5 = f0 5 ∧ f 6 = f0 6 ∧ f 7 = f0 7 ∧ f 8 = f0 8 ∧ Le w wz ∧ Own wz b13 122 [slv p0, .int .i64 ((kd : Int)), .bool bd] ∧ Own wz b2 28 [.slice none 0 0, .slice none 0 0, .slice none 0 0] ∧ Own wz b6 28 [slv p15, slv q15, o] ∧ Own wz b8 56 [str sv31, vm] ∧ OwnF itemF 56 (b6 + 1) wz o raw ∧ OwnF markF 53 (b8 + 1) wz vm ms ∧ Items wz (fun j => b6 < j ∧ j < b8 ∧ ¬ bk o j) raw its ∧ Sl Dt.dotF.enc wz (fun j => b13 < j ∧ j < b6) (slv p15) xv15.1 ∧ Sl Dt.dotF.enc wz (fun j => b13 < j ∧ j < b6) (slv q15) xv15.2 ∧ ms.length ≤ nv34.toNat ∧ ms.length ≤ l.length + 1 ∧ Cn.Rds Cn.markR Cn.markB l knv31 bv31 nv34 knv34 ms kd bd) (fun ⟨ms, vm, kd, bd⟩ => nv34.toNat - ms.length) ([], .slice none 0 0, knv34, bv34) ?_ ?_
        ·
          refine ⟨(Eq.trans rfl (congrArg (fun q : BitVec 64 => Value.int .u64 (q.toNat : Int)) (by simp))), rfl, rfl, rfl, rfl, rfl, rfl, rfl, (Ext.new (Ext.new (Ext.trans (Ext.new e_1 e8 (by rintro i hi rfl; omega)) e9) e10 (by rintro i hi rfl; omega)) e11 (by rintro i hi rfl; omega)), hov34, ((((r1_1.keepM e8 (by intro h; (try dsimp only at h); omega)).keep e9).keepM e10 (by intro h; (try dsimp only at h); omega)).keepM e11 (by intro h; (try dsimp only at h); omega)), ((((r2_1.keepM e8 (by intro h; (try dsimp only at h); omega)).keep e9).keepM e10 (by intro h; (try dsimp only at h); omega)).keepM e11 (by intro h; (try dsimp only at h); omega)), (hs10.keepM e11 (by intro h; (try dsimp only at h); omega)), ((((r3_1.keepM e8 (fun k hk h => by have := r3_1.bk_ge k hk; (try dsimp only at h); omega)).keep e9).keepM e10 (fun k hk h => by have := r3_1.bk_ge k hk; (try dsimp only at h); omega)).keepM e11 (fun k hk h => by have := r3_1.bk_ge k hk; (try dsimp only at h); omega)), (OwnF.nil _ _ _ _), ((((((r4_1.keepM e8 (by intro k hk h; first | (have q1 := hF k hk; (try dsimp only at h); omega) | ((try dsimp only at hk); (try dsimp only at h); omega))).keep e9).keepM e10 (by intro k hk h; first | (have q1 := hF k hk; (try dsimp only at h); omega) | (have q1 := hF2 k hk; (try dsimp only at h); omega) | (have q1 := hFb k hk; (try dsimp only at h); omega) | ((try dsimp only at hk); (try dsimp only at h); omega))).keepM e11 (by intro k hk h; first | (have q1 := hF k hk; (try dsimp only at h); omega) | ((try dsimp only at hk); (try dsimp only at h); omega)))).weak (fun j hj => ⟨hj.1, by have := hj.2.1; omega, hj.2.2⟩)), ((((r5_1.keepM e8 (by intro k hk h; first | (have q1 := hF k hk; (try dsimp only at h); omega) | ((try dsimp only at hk); (try dsimp only at h); omega))).keep e9).keepM e10 (by intro k hk h; first | (have q1 := hF k hk; (try dsimp only at h); omega) | (have q1 := hF2 k hk; (try dsimp only at h); omega) | (have q1 := hFb k hk; (try dsimp only at h); omega) | ((try dsimp only at hk); (try dsimp only at h); omega))).keepM e11 (by intro k hk h; first | (have q1 := hF k hk; (try dsimp only at h); omega) | ((try dsimp only at hk); (try dsimp only at h); omega))), ((((r6_1.keepM e8 (by intro k hk h; first | (have q1 := hF k hk; (try dsimp only at h); omega) | ((try dsimp only at hk); (try dsimp only at h); omega))).keep e9).keepM e10 (by intro k hk h; first | (have q1 := hF k hk; (try dsimp only at h); omega) | (have q1 := hF2 k hk; (try dsimp only at h); omega) | (have q1 := hFb k hk; (try dsimp only at h); omega) | ((try dsimp only at hk); (try dsimp only at h); omega))).keepM e11 (by intro k hk h; first | (have q1 := hF k hk; (try dsimp only at h); omega) | ((try dsimp only at hk); (try dsimp only at h); omega))), ?_⟩
          exact ⟨Nat.zero_le _, Nat.zero_le _, Cn.Rds.start hL Cn.markB_ge hrv34⟩
        ·
          rintro ⟨ms, vm, kd, bd⟩ f_2 w12 ⟨s9_2, s2_2, s3_2, s4_2, s5_2, s6_2, s7_2, s8_2, e_2, r0_2, r1_2, r2_2, r3_2, r4_2, r5_2, r6_2, r7_2, r8_2, ⟨hm, hm9, hM⟩⟩
          have z_2 := e_2.size
          have r4_2s := r4_2.sl
          have r5_2s := r5_2.sl
          have hMl := nv34.isLt
          have hbl8 := (r3_2).lt
          have hbl6b := (r2_2).lt
          have hbl13b := (r0_2).lt
          have hbl2b := (r1_2).lt
          refine C.seqK fun K15 hK15 => ?_
          refine C.seqK fun K16 hK16 => ?_
          refine C.region ?_
          refine O.mv ?_
          refine O.gtrU (m := 64) (b := 0#64) s9_2 rfl ?_
          refine O.mv ?_
          refine O.splitD (x := .tmp 37) rfl (fun c37 => ?_) (fun c37 => ?_)
          ·
            have hm2 : ms.length < nv34.toNat := by have q := (Cn.pos_ofNat (m := nv34.toNat - ms.length) (by omega)).1 c37; omega
            refine O.yes rfl (isT rfl c37) ?_
            refine O.mv ?_
            refine O.yes rfl (isT rfl c37) ?_
            refine O.nilChk (Eq.trans s5_2 s5_1) ?_
            refine O.yes rfl (isT rfl c37) ?_
            refine O.fieldAd Tryz.underlying122 rfl Tryz.sizeOf4 (by decide) rfl ?_
            refine O.yes rfl (isT rfl c37) ?_
            refine O.loadO Tryz.isAgg4 rfl r0_2 rfl ?_
            refine O.yes rfl (isT rfl c37) ?_
            refine O.not rfl ?_
            refine O.pickT (isT rfl c37) ?_
            refine O.nil ?_
            refine hK16 _ _ ?_
            refine C.cond rfl (fun c43 => ?_) (fun c43 => ?_)
            ·
              obtain rfl : bd = false := by simpa using c43
              have hlm := (Cn.Rds.len Cn.markB_ge hM).1
              refine C.skip ?_
              refine hK15 _ _ ?_
              refine C.seqK fun K17 hK17 => ?_
              refine C.block fun K18 hK18 => ?_
              refine C.seqK fun K19 hK19 => ?_
              refine C.region ?_
              refine O.mv ?_
              refine O.call Tryz.call81 (args1 (Eq.trans s5_2 s5_1)) (xdot_spec b13 (slv p0) l kd false F _ r0_2 (hl.keep e_2) hM.1 (fun j hj => by have q1 := hF j hj; omega) hL) ?_
              rintro v_47 w13 ⟨dv47, knv47, bv47, rfl, hov47, hdv47, hrv47, e13⟩
              have z13 := e13.size
              refine O.build (cells := #[.int .i64 dv47.1, .int .i64 dv47.2, .int .i64 0, .int .u64 0]) rfl (by kernel_rfl) ?_
              refine O.alloc Tryz.zeroValue53 (fun b10 w14 hb10 hz10 e14 => ?_)
              have z14 := e14.size
              have h10 := hz10.own
              have hl10 := h10.lt
              refine O.storeA (vs := [.int .i64 dv47.1, .int .i64 dv47.2, .int .i64 0, .int .u64 0]) Tryz.sizeOf53 rfl rfl rfl (by simp [Value.oneCell']) h10 (Nat.le_of_ble_eq_true rfl) (fun w15 hs15 e15 z15 => ?_)
              refine O.nil ?_
              refine hK19 _ _ ?_
              refine C.seqK fun K20 hK20 => ?_
              refine C.region ?_
              refine O.mv ?_
              refine O.call Tryz.call79 (args1 (Eq.trans s5_2 s5_1)) (xnum_spec b13 (slv p0) l knv47 bv47 F _ ((hov47.keep e14).keepM e15 (by intro h; (try dsimp only at h); omega)) ((((hl.keep e_2).keepM e13 (by intro k hk h; first | (have q1 := hF k hk; (try dsimp only at h); omega) | ((try dsimp only at hk); (try dsimp only at h); omega))).keep e14).keepM e15 (by intro k hk h; first | (have q1 := hF k hk; (try dsimp only at h); omega) | (have q1 := hF2 k hk; (try dsimp only at h); omega) | (have q1 := hFb k hk; (try dsimp only at h); omega) | ((try dsimp only at hk); (try dsimp only at h); omega))) hrv47.1 (fun j hj => by have q1 := hF j hj; omega) hL) ?_
              rintro v_50 w16 ⟨nv50, knv50, bv50, rfl, hov50, hrv50, hzv50, e16⟩
              have z16 := e16.size
              refine O.convU64I Tryz.underlying49 Tryz.underlying3 rfl ?_
              refine O.fieldAd Tryz.underlying53 rfl Tryz.sizeOf3 (by decide) rfl ?_
              refine O.store Tryz.sizeOf3 rfl rfl rfl (hs15.keepM e16 (by intro h; (try dsimp only at h); omega)) (by simp) (fun w17 hs17 e17 z17 => ?_)
              try simp only [Int.toNat_natCast, Nat.zero_add, Nat.mul_one] at hs17
              refine O.nil ?_
              refine hK20 _ _ ?_
              refine C.seqK fun K21 hK21 => ?_
              refine C.region ?_
              refine O.mv ?_
              refine O.call Tryz.call79 (args1 (Eq.trans s5_2 s5_1)) (xnum_spec b13 (slv p0) l knv50 bv50 F _ (hov50.keepM e17 (by intro h; (try dsimp only at h); omega)) ((((((hl.keep e_2).keepM e13 (by intro k hk h; first | (have q1 := hF k hk; (try dsimp only at h); omega) | ((try dsimp only at hk); (try dsimp only at h); omega))).keep e14).keepM e15 (by intro k hk h; first | (have q1 := hF k hk; (try dsimp only at h); omega) | (have q1 := hF2 k hk; (try dsimp only at h); omega) | (have q1 := hFb k hk; (try dsimp only at h); omega) | ((try dsimp only at hk); (try dsimp only at h); omega))).keepM e16 (by intro k hk h; first | (have q1 := hF k hk; (try dsimp only at h); omega) | ((try dsimp only at hk); (try dsimp only at h); omega))).keepM e17 (by intro k hk h; first | (have q1 := hF k hk; (try dsimp only at h); omega) | (have q1 := hF2 k hk; (try dsimp only at h); omega) | (have q1 := hFb k hk; (try dsimp only at h); omega) | ((try dsimp only at hk); (try dsimp only at h); omega))) hrv50.1 (fun j hj => by have q1 := hF j hj; omega) hL) ?_
              rintro v_54 w18 ⟨nv54, knv54, bv54, rfl, hov54, hrv54, hzv54, e18⟩
              have z18 := e18.size
              refine O.fieldAd Tryz.underlying53 rfl Tryz.sizeOf49 (by decide) rfl ?_
              refine O.store Tryz.sizeOf49 rfl rfl rfl (hs17.keepM e18 (by intro h; (try dsimp only at h); omega)) (by simp) (fun w19 hs19 e19 z19 => ?_)
              try simp only [Int.toNat_natCast, Nat.zero_add, Nat.mul_one] at hs19
              refine O.nil ?_
              refine hK21 _ _ ?_
              refine C.region ?_
              refine O.fieldAd Tryz.underlying56 rfl Tryz.sizeOf54 (by decide) s8_2 ?_
              refine O.loadO Tryz.isAgg54 rfl (((((((r3_2.keepM e13 (by intro h; (try dsimp only at h); omega)).keep e14).keepM e15 (by intro h; (try dsimp only at h); omega)).keepM e16 (by intro h; (try dsimp only at h); omega)).keepM e17 (by intro h; (try dsimp only at h); omega)).keepM e18 (by intro h; (try dsimp only at h); omega)).keepM e19 (by intro h; (try dsimp only at h); omega)) rfl ?_
              refine O.loadOA Tryz.isAgg53 Tryz.sizeOf53 rfl hs19 (Nat.le_of_ble_eq_true rfl) ?_
              refine O.cast (v' := mv (dv47, nv50.toInt, nv54)) rfl ?_
              refine O.litG (G := markF) [(dv47, nv50.toInt, nv54)] Tryz.underlying54 ti53 ts53 tz53 rfl (by decide) (by decide) rfl (fun b59 w20 hb59 hz59 e20 => ?_)
              have z20 := e20.size
              have h59 := hz59.own
              have hq59 := Sl.litG (n := 1) h59 rfl (by unfold maxLen; omega)
              refine O.appF (G := markF) Tryz.underlying54 ti53 tz53 ts53 rfl rfl rfl ((((((((r5_2.keepM e13 (fun k hk h => by have := r5_2.bk_ge k hk; (try dsimp only at h); omega)).keep e14).keepM e15 (fun k hk h => by have := r5_2.bk_ge k hk; (try dsimp only at h); omega)).keepM e16 (fun k hk h => by have := r5_2.bk_ge k hk; (try dsimp only at h); omega)).keepM e17 (fun k hk h => by have := r5_2.bk_ge k hk; (try dsimp only at h); omega)).keepM e18 (fun k hk h => by have := r5_2.bk_ge k hk; (try dsimp only at h); omega)).keepM e19 (fun k hk h => by have := r5_2.bk_ge k hk; (try dsimp only at h); omega)).keep e20) hq59 (by rw [tb53]; simp; omega) (by unfold maxLen; simp; omega) (by omega) (fun v60 w21 h60 e21 => ?_)
              have e21m : Ext (fun j => w.heap.size ≤ j) w20 w21 := e21.mono (fun j _ hj => by have := ((((((((r5_2.keepM e13 (fun k hk h => by have := r5_2.bk_ge k hk; (try dsimp only at h); omega)).keep e14).keepM e15 (fun k hk h => by have := r5_2.bk_ge k hk; (try dsimp only at h); omega)).keepM e16 (fun k hk h => by have := r5_2.bk_ge k hk; (try dsimp only at h); omega)).keepM e17 (fun k hk h => by have := r5_2.bk_ge k hk; (try dsimp only at h); omega)).keepM e18 (fun k hk h => by have := r5_2.bk_ge k hk; (try dsimp only at h); omega)).keepM e19 (fun k hk h => by have := r5_2.bk_ge k hk; (try dsimp only at h); omega)).keep e20).bk_ge j hj; omega)
              have z21 := e21.size
              have h60s := h60.sl
              refine O.fieldAd Tryz.underlying56 rfl Tryz.sizeOf54 (by decide) s8_2 ?_
              refine O.store Tryz.sizeOf54 rfl rfl h60.one (((((((((r3_2.keepM e13 (by intro h; (try dsimp only at h); omega)).keep e14).keepM e15 (by intro h; (try dsimp only at h); omega)).keepM e16 (by intro h; (try dsimp only at h); omega)).keepM e17 (by intro h; (try dsimp only at h); omega)).keepM e18 (by intro h; (try dsimp only at h); omega)).keepM e19 (by intro h; (try dsimp only at h); omega)).keep e20).keepM e21 (by intro h; have := ((((((((r5_2.keepM e13 (fun k hk h => by have := r5_2.bk_ge k hk; (try dsimp only at h); omega)).keep e14).keepM e15 (fun k hk h => by have := r5_2.bk_ge k hk; (try dsimp only at h); omega)).keepM e16 (fun k hk h => by have := r5_2.bk_ge k hk; (try dsimp only at h); omega)).keepM e17 (fun k hk h => by have := r5_2.bk_ge k hk; (try dsimp only at h); omega)).keepM e18 (fun k hk h => by have := r5_2.bk_ge k hk; (try dsimp only at h); omega)).keepM e19 (fun k hk h => by have := r5_2.bk_ge k hk; (try dsimp only at h); omega)).keep e20).bk_ge _ h; omega)) (by simp) (fun w22 hs22 e22 z22 => ?_)
              try simp only [Int.toNat_natCast, Nat.zero_add, Nat.mul_one] at hs22
              refine O.nil ?_
              refine hK18 _ _ ?_
              refine hK17 _ _ ?_
              refine C.region ?_
              refine O.mv ?_
              refine O.subU (m := 64) (b := 1#64) rfl rfl s9_2 rfl ?_
              refine O.asg ?_
              refine O.nil ?_
              refine ⟨(ms ++ [(dv47, nv50.toInt, nv54)], v60, knv54, bv54), ⟨(Eq.trans rfl (congrArg (fun q : BitVec 64 => Value.int .u64 (q.toNat : Int)) (by rw [Cn.dec_ofNat (by omega) (by omega), List.length_append]; rfl))), s2_2, s3_2, s4_2, s5_2, s6_2, s7_2, s8_2, (Ext.new (Ext.new (Ext.trans (Ext.new (Ext.new (Ext.new (Ext.new (Ext.new (Ext.trans (Ext.new e_2 e13 (by rintro i hi rfl; omega)) e14) e15 (by rintro i hi rfl; omega)) e16 (by rintro i hi rfl; omega)) e17 (by rintro i hi rfl; omega)) e18 (by rintro i hi rfl; omega)) e19 (by rintro i hi rfl; omega)) e20) e21 (by intro i hi h; have := ((((((((r5_2.keepM e13 (fun k hk h => by have := r5_2.bk_ge k hk; (try dsimp only at h); omega)).keep e14).keepM e15 (fun k hk h => by have := r5_2.bk_ge k hk; (try dsimp only at h); omega)).keepM e16 (fun k hk h => by have := r5_2.bk_ge k hk; (try dsimp only at h); omega)).keepM e17 (fun k hk h => by have := r5_2.bk_ge k hk; (try dsimp only at h); omega)).keepM e18 (fun k hk h => by have := r5_2.bk_ge k hk; (try dsimp only at h); omega)).keepM e19 (fun k hk h => by have := r5_2.bk_ge k hk; (try dsimp only at h); omega)).keep e20).bk_ge i h; omega)) e22 (by rintro i hi rfl; omega)), ((((hov54.keepM e19 (by intro h; (try dsimp only at h); omega)).keep e20).keepM e21 (by intro h; have := ((((((((r5_2.keepM e13 (fun k hk h => by have := r5_2.bk_ge k hk; (try dsimp only at h); omega)).keep e14).keepM e15 (fun k hk h => by have := r5_2.bk_ge k hk; (try dsimp only at h); omega)).keepM e16 (fun k hk h => by have := r5_2.bk_ge k hk; (try dsimp only at h); omega)).keepM e17 (fun k hk h => by have := r5_2.bk_ge k hk; (try dsimp only at h); omega)).keepM e18 (fun k hk h => by have := r5_2.bk_ge k hk; (try dsimp only at h); omega)).keepM e19 (fun k hk h => by have := r5_2.bk_ge k hk; (try dsimp only at h); omega)).keep e20).bk_ge _ h; omega)).keepM e22 (by intro h; (try dsimp only at h); omega)), ((((((((((r1_2.keepM e13 (by intro h; (try dsimp only at h); omega)).keep e14).keepM e15 (by intro h; (try dsimp only at h); omega)).keepM e16 (by intro h; (try dsimp only at h); omega)).keepM e17 (by intro h; (try dsimp only at h); omega)).keepM e18 (by intro h; (try dsimp only at h); omega)).keepM e19 (by intro h; (try dsimp only at h); omega)).keep e20).keepM e21 (by intro h; have := ((((((((r5_2.keepM e13 (fun k hk h => by have := r5_2.bk_ge k hk; (try dsimp only at h); omega)).keep e14).keepM e15 (fun k hk h => by have := r5_2.bk_ge k hk; (try dsimp only at h); omega)).keepM e16 (fun k hk h => by have := r5_2.bk_ge k hk; (try dsimp only at h); omega)).keepM e17 (fun k hk h => by have := r5_2.bk_ge k hk; (try dsimp only at h); omega)).keepM e18 (fun k hk h => by have := r5_2.bk_ge k hk; (try dsimp only at h); omega)).keepM e19 (fun k hk h => by have := r5_2.bk_ge k hk; (try dsimp only at h); omega)).keep e20).bk_ge _ h; omega)).keepM e22 (by intro h; (try dsimp only at h); omega)), ((((((((((r2_2.keepM e13 (by intro h; (try dsimp only at h); omega)).keep e14).keepM e15 (by intro h; (try dsimp only at h); omega)).keepM e16 (by intro h; (try dsimp only at h); omega)).keepM e17 (by intro h; (try dsimp only at h); omega)).keepM e18 (by intro h; (try dsimp only at h); omega)).keepM e19 (by intro h; (try dsimp only at h); omega)).keep e20).keepM e21 (by intro h; have := ((((((((r5_2.keepM e13 (fun k hk h => by have := r5_2.bk_ge k hk; (try dsimp only at h); omega)).keep e14).keepM e15 (fun k hk h => by have := r5_2.bk_ge k hk; (try dsimp only at h); omega)).keepM e16 (fun k hk h => by have := r5_2.bk_ge k hk; (try dsimp only at h); omega)).keepM e17 (fun k hk h => by have := r5_2.bk_ge k hk; (try dsimp only at h); omega)).keepM e18 (fun k hk h => by have := r5_2.bk_ge k hk; (try dsimp only at h); omega)).keepM e19 (fun k hk h => by have := r5_2.bk_ge k hk; (try dsimp only at h); omega)).keep e20).bk_ge _ h; omega)).keepM e22 (by intro h; (try dsimp only at h); omega)), hs22, ((((((((((r4_2.keepM e13 (fun k hk h => by have := r4_2.bk_ge k hk; (try dsimp only at h); omega)).keep e14).keepM e15 (fun k hk h => by have := r4_2.bk_ge k hk; (try dsimp only at h); omega)).keepM e16 (fun k hk h => by have := r4_2.bk_ge k hk; (try dsimp only at h); omega)).keepM e17 (fun k hk h => by have := r4_2.bk_ge k hk; (try dsimp only at h); omega)).keepM e18 (fun k hk h => by have := r4_2.bk_ge k hk; (try dsimp only at h); omega)).keepM e19 (fun k hk h => by have := r4_2.bk_ge k hk; (try dsimp only at h); omega)).keep e20).keepM e21 (fun j hj h => by have q1 := hob8 j hj; have q2 := ((((((((r5_2.keepM e13 (fun k hk h => by have := r5_2.bk_ge k hk; (try dsimp only at h); omega)).keep e14).keepM e15 (fun k hk h => by have := r5_2.bk_ge k hk; (try dsimp only at h); omega)).keepM e16 (fun k hk h => by have := r5_2.bk_ge k hk; (try dsimp only at h); omega)).keepM e17 (fun k hk h => by have := r5_2.bk_ge k hk; (try dsimp only at h); omega)).keepM e18 (fun k hk h => by have := r5_2.bk_ge k hk; (try dsimp only at h); omega)).keepM e19 (fun k hk h => by have := r5_2.bk_ge k hk; (try dsimp only at h); omega)).keep e20).bk_ge j h; omega)).keepM e22 (fun j hj h => by have q1 := hob8 j hj; (try dsimp only at h); omega)), (h60.keepM e22 (fun k hk h => by have := h60.bk_ge k hk; (try dsimp only at h); omega)), ((((((((((r6_2.keepM e13 (by intro k hk h; first | (have q1 := hF k hk; (try dsimp only at h); omega) | ((try dsimp only at hk); (try dsimp only at h); omega))).keep e14).keepM e15 (by intro k hk h; first | (have q1 := hF k hk; (try dsimp only at h); omega) | (have q1 := hF2 k hk; (try dsimp only at h); omega) | (have q1 := hFb k hk; (try dsimp only at h); omega) | ((try dsimp only at hk); (try dsimp only at h); omega))).keepM e16 (by intro k hk h; first | (have q1 := hF k hk; (try dsimp only at h); omega) | ((try dsimp only at hk); (try dsimp only at h); omega))).keepM e17 (by intro k hk h; first | (have q1 := hF k hk; (try dsimp only at h); omega) | (have q1 := hF2 k hk; (try dsimp only at h); omega) | (have q1 := hFb k hk; (try dsimp only at h); omega) | ((try dsimp only at hk); (try dsimp only at h); omega))).keepM e18 (by intro k hk h; first | (have q1 := hF k hk; (try dsimp only at h); omega) | ((try dsimp only at hk); (try dsimp only at h); omega))).keepM e19 (by intro k hk h; first | (have q1 := hF k hk; (try dsimp only at h); omega) | (have q1 := hF2 k hk; (try dsimp only at h); omega) | (have q1 := hFb k hk; (try dsimp only at h); omega) | ((try dsimp only at hk); (try dsimp only at h); omega))).keep e20).keepM e21 (fun j hj h => by have q1 := hj.2.1; have q2 := ((((((((r5_2.keepM e13 (fun k hk h => by have := r5_2.bk_ge k hk; (try dsimp only at h); omega)).keep e14).keepM e15 (fun k hk h => by have := r5_2.bk_ge k hk; (try dsimp only at h); omega)).keepM e16 (fun k hk h => by have := r5_2.bk_ge k hk; (try dsimp only at h); omega)).keepM e17 (fun k hk h => by have := r5_2.bk_ge k hk; (try dsimp only at h); omega)).keepM e18 (fun k hk h => by have := r5_2.bk_ge k hk; (try dsimp only at h); omega)).keepM e19 (fun k hk h => by have := r5_2.bk_ge k hk; (try dsimp only at h); omega)).keep e20).bk_ge j h; omega)).keepM e22 (by intro k hk h; first | (have q1 := hF k hk; (try dsimp only at h); omega) | (have q1 := hF2 k hk; (try dsimp only at h); omega) | (have q1 := hFb k hk; (try dsimp only at h); omega) | ((try dsimp only at hk); (try dsimp only at h); omega))), ((((((((((r7_2.keepM e13 (by intro k hk h; first | (have q1 := hF k hk; (try dsimp only at h); omega) | ((try dsimp only at hk); (try dsimp only at h); omega))).keep e14).keepM e15 (by intro k hk h; first | (have q1 := hF k hk; (try dsimp only at h); omega) | (have q1 := hF2 k hk; (try dsimp only at h); omega) | (have q1 := hFb k hk; (try dsimp only at h); omega) | ((try dsimp only at hk); (try dsimp only at h); omega))).keepM e16 (by intro k hk h; first | (have q1 := hF k hk; (try dsimp only at h); omega) | ((try dsimp only at hk); (try dsimp only at h); omega))).keepM e17 (by intro k hk h; first | (have q1 := hF k hk; (try dsimp only at h); omega) | (have q1 := hF2 k hk; (try dsimp only at h); omega) | (have q1 := hFb k hk; (try dsimp only at h); omega) | ((try dsimp only at hk); (try dsimp only at h); omega))).keepM e18 (by intro k hk h; first | (have q1 := hF k hk; (try dsimp only at h); omega) | ((try dsimp only at hk); (try dsimp only at h); omega))).keepM e19 (by intro k hk h; first | (have q1 := hF k hk; (try dsimp only at h); omega) | (have q1 := hF2 k hk; (try dsimp only at h); omega) | (have q1 := hFb k hk; (try dsimp only at h); omega) | ((try dsimp only at hk); (try dsimp only at h); omega))).keep e20).keepM e21 (by intro j hj h; have q2 := ((((((((r5_2.keepM e13 (fun k hk h => by have := r5_2.bk_ge k hk; (try dsimp only at h); omega)).keep e14).keepM e15 (fun k hk h => by have := r5_2.bk_ge k hk; (try dsimp only at h); omega)).keepM e16 (fun k hk h => by have := r5_2.bk_ge k hk; (try dsimp only at h); omega)).keepM e17 (fun k hk h => by have := r5_2.bk_ge k hk; (try dsimp only at h); omega)).keepM e18 (fun k hk h => by have := r5_2.bk_ge k hk; (try dsimp only at h); omega)).keepM e19 (fun k hk h => by have := r5_2.bk_ge k hk; (try dsimp only at h); omega)).keep e20).bk_ge j h; first | (have q1 := hF j hj; omega) | ((try dsimp only at hj); omega))).keepM e22 (by intro k hk h; first | (have q1 := hF k hk; (try dsimp only at h); omega) | (have q1 := hF2 k hk; (try dsimp only at h); omega) | (have q1 := hFb k hk; (try dsimp only at h); omega) | ((try dsimp only at hk); (try dsimp only at h); omega))), ((((((((((r8_2.keepM e13 (by intro k hk h; first | (have q1 := hF k hk; (try dsimp only at h); omega) | ((try dsimp only at hk); (try dsimp only at h); omega))).keep e14).keepM e15 (by intro k hk h; first | (have q1 := hF k hk; (try dsimp only at h); omega) | (have q1 := hF2 k hk; (try dsimp only at h); omega) | (have q1 := hFb k hk; (try dsimp only at h); omega) | ((try dsimp only at hk); (try dsimp only at h); omega))).keepM e16 (by intro k hk h; first | (have q1 := hF k hk; (try dsimp only at h); omega) | ((try dsimp only at hk); (try dsimp only at h); omega))).keepM e17 (by intro k hk h; first | (have q1 := hF k hk; (try dsimp only at h); omega) | (have q1 := hF2 k hk; (try dsimp only at h); omega) | (have q1 := hFb k hk; (try dsimp only at h); omega) | ((try dsimp only at hk); (try dsimp only at h); omega))).keepM e18 (by intro k hk h; first | (have q1 := hF k hk; (try dsimp only at h); omega) | ((try dsimp only at hk); (try dsimp only at h); omega))).keepM e19 (by intro k hk h; first | (have q1 := hF k hk; (try dsimp only at h); omega) | (have q1 := hF2 k hk; (try dsimp only at h); omega) | (have q1 := hFb k hk; (try dsimp only at h); omega) | ((try dsimp only at hk); (try dsimp only at h); omega))).keep e20).keepM e21 (by intro j hj h; have q2 := ((((((((r5_2.keepM e13 (fun k hk h => by have := r5_2.bk_ge k hk; (try dsimp only at h); omega)).keep e14).keepM e15 (fun k hk h => by have := r5_2.bk_ge k hk; (try dsimp only at h); omega)).keepM e16 (fun k hk h => by have := r5_2.bk_ge k hk; (try dsimp only at h); omega)).keepM e17 (fun k hk h => by have := r5_2.bk_ge k hk; (try dsimp only at h); omega)).keepM e18 (fun k hk h => by have := r5_2.bk_ge k hk; (try dsimp only at h); omega)).keepM e19 (fun k hk h => by have := r5_2.bk_ge k hk; (try dsimp only at h); omega)).keep e20).bk_ge j h; first | (have q1 := hF j hj; omega) | ((try dsimp only at hj); omega))).keepM e22 (by intro k hk h; first | (have q1 := hF k hk; (try dsimp only at h); omega) | (have q1 := hF2 k hk; (try dsimp only at h); omega) | (have q1 := hFb k hk; (try dsimp only at h); omega) | ((try dsimp only at hk); (try dsimp only at h); omega))), ?_⟩, by show nv34.toNat - (ms ++ [_]).length < nv34.toNat - ms.length; rw [List.length_append]; show nv34.toNat - (ms.length + 1) < _; omega⟩
              exact ⟨by rw [List.length_append]; exact hm2, by rw [List.length_append]; show ms.length + 1 ≤ _; omega, Cn.Rds.next Cn.pre_mark hM hm2 (Cn.markR_mk hdv47) (Cn.Rd.mark hrv47 hdv47 hrv50 hrv54)⟩
            ·
              have hm4 : bd = true := by simpa using c43
              have hmd : Cn.Rd (Cn.manyQ Cn.markR) (Cn.manyB Cn.markB) l knv31 bv31 ms kd bd := Cn.Rds.done hM (by first | (left; omega) | exact .inr hm4)
              have hpb := (r5_2).bk_ge
              have hsm := (r5_2).sl
              obtain ⟨pm, rfl⟩ := hsm.slv
              refine C.exit ?_
              refine hK14 _ _ ?_
              refine hK12 _ _ ?_
              refine C.region ?_
              refine O.fieldAd Tryz.underlying28 rfl Tryz.sizeOf26 (by decide) (Eq.trans s6_2 s6_1) ?_
              refine O.loadO Tryz.isAgg26 rfl r2_2 rfl ?_
              refine O.loadOA Tryz.isAgg56 Tryz.sizeOf56 s8_2 r3_2 (Nat.le_of_ble_eq_true rfl) ?_
              refine O.cast (v' := .agg #[str sv31, slv pm]) rfl ?_
              refine O.litG (G := itemF) [(sv31, pm)] Tryz.underlying26 ti56 ts56 tz56 rfl (by decide) (by decide) rfl (fun b65 w23 hb65 hz65 e23 => ?_)
              have z23 := e23.size
              have h65 := hz65.own
              have hq65 := Sl.litG (n := 1) h65 rfl (by unfold maxLen; omega)
              refine O.appW (G := itemF) Tryz.underlying26 ti56 tz56 ts56 rfl rfl rfl (r4_2.keep e23) hq65 (by rw [tb56, hit.1]; simp; omega) (by unfold maxLen; rw [hit.1]; simp; omega) (by omega) (fun v66 w24 h66 e24 hw66 => ?_)
              have e24m : Ext (fun j => w.heap.size ≤ j) w23 w24 := e24.mono (fun j _ hj => by have := (r4_2.keep e23).bk_ge j hj; omega)
              have z24 := e24.size
              have h66s := h66.sl
              have hit66 : Items w24 (fun j => b6 < j ∧ j < w24.heap.size ∧ ¬ bk v66 j) (raw ++ [(sv31, pm)]) (its ++ [(sv31, ms)]) := ((((r6_2.keep e23).keepM e24 (fun j hj h => hj.2.2 h))).weak (fun j hj => ⟨hj.1, by have := hj.2.1; omega, fun hq => by
                rcases hw66 j hq with q | q
                · exact hj.2.2 q
                · have := hj.2.1; omega⟩)).snoc (x := (sv31, ms)) rfl ((((hsm.keep e23).keepM e24 (fun j hj h => by have q1 := hob8 j h; have q2 := hpb j hj; omega))).weak (fun j hj => by
                have q2 := hpb j hj
                refine ⟨by omega, by omega, fun hq => ?_⟩
                rcases hw66 j hq with q | q
                · have := hob8 j q; omega
                · omega))
              refine O.fieldAd Tryz.underlying28 rfl Tryz.sizeOf26 (by decide) (Eq.trans s6_2 s6_1) ?_
              refine O.store Tryz.sizeOf26 rfl rfl h66.one ((r2_2.keep e23).keepM e24 (by intro h; have := (r4_2.keep e23).bk_ge _ h; omega)) (by simp) (fun w25 hs25 e25 z25 => ?_)
              try simp only [Int.toNat_natCast, Nat.zero_add, Nat.mul_one] at hs25
              refine O.nil ?_
              refine hK10 _ _ ?_
              refine hK9 _ _ ?_
              refine C.region ?_
              refine O.mv ?_
              refine O.subU (m := 64) (b := 1#64) rfl rfl (Eq.trans s7_2 s7_1) rfl ?_
              refine O.asg ?_
              refine O.nil ?_
              refine ⟨(its ++ [(sv31, ms)], raw ++ [(sv31, pm)], v66, kd, bd), ⟨(Eq.trans rfl (congrArg (fun q : BitVec 64 => Value.int .u64 (q.toNat : Int)) (by rw [Cn.dec_ofNat (by omega) (by omega), List.length_append]; rfl))), (Eq.trans s2_2 s2_1), (Eq.trans s3_2 s3_1), (Eq.trans s4_2 s4_1), (Eq.trans s5_2 s5_1), (Eq.trans s6_2 s6_1), (Ext.new (Ext.new (Ext.trans e_2 e23) e24 (by intro i hi h; have := (r4_2.keep e23).bk_ge i h; omega)) e25 (by rintro i hi rfl; omega)), (((r0_2.keep e23).keepM e24 (by intro h; have := (r4_2.keep e23).bk_ge _ h; omega)).keepM e25 (by intro h; (try dsimp only at h); omega)), (((r1_2.keep e23).keepM e24 (by intro h; have := (r4_2.keep e23).bk_ge _ h; omega)).keepM e25 (by intro h; (try dsimp only at h); omega)), hs25, (h66.keepM e25 (fun k hk h => by have := h66.bk_ge k hk; (try dsimp only at h); omega)), (((hit66.keepM e25 (by intro k hk h; first | (have q1 := hF k hk; (try dsimp only at h); omega) | (have q1 := hF2 k hk; (try dsimp only at h); omega) | (have q1 := hFb k hk; (try dsimp only at h); omega) | ((try dsimp only at hk); (try dsimp only at h); omega)))).weak (fun j hj => ⟨hj.1, by have := hj.2.1; omega, hj.2.2⟩)), (((r7_2.keep e23).keepM e24 (by intro j hj h; have q2 := (r4_2.keep e23).bk_ge j h; first | (have q1 := hF j hj; omega) | ((try dsimp only at hj); omega))).keepM e25 (by intro k hk h; first | (have q1 := hF k hk; (try dsimp only at h); omega) | (have q1 := hF2 k hk; (try dsimp only at h); omega) | (have q1 := hFb k hk; (try dsimp only at h); omega) | ((try dsimp only at hk); (try dsimp only at h); omega))), (((r8_2.keep e23).keepM e24 (by intro j hj h; have q2 := (r4_2.keep e23).bk_ge j h; first | (have q1 := hF j hj; omega) | ((try dsimp only at hj); omega))).keepM e25 (by intro k hk h; first | (have q1 := hF k hk; (try dsimp only at h); omega) | (have q1 := hF2 k hk; (try dsimp only at h); omega) | (have q1 := hFb k hk; (try dsimp only at h); omega) | ((try dsimp only at hk); (try dsimp only at h); omega))), ?_⟩, by show nv18.toNat - (its ++ [_]).length < nv18.toNat - its.length; rw [List.length_append]; show nv18.toNat - (its.length + 1) < _; omega⟩
              exact ⟨by rw [List.length_append]; exact hj2, by rw [List.length_append]; show its.length + 1 ≤ _; omega, Cn.manyQ_snoc hB ⟨by show sv31.length ≤ 1000000; omega, by show ms.length ≤ 1000000; omega⟩, Cn.Rds.next Cn.pre_itemR hR hj2 hM.2.1 (Cn.Rd.item hrv31 hmd)⟩
          ·
            have hm3 : ms.length = nv34.toNat := by have q := mt (Cn.pos_ofNat (m := nv34.toNat - ms.length) (by omega)).2 c37; omega
            have hmd : Cn.Rd (Cn.manyQ Cn.markR) (Cn.manyB Cn.markB) l knv31 bv31 ms kd bd := Cn.Rds.done hM (by first | (left; omega) | exact .inr hm4)
            have hpb := (r5_2).bk_ge
            have hsm := (r5_2).sl
            obtain ⟨pm, rfl⟩ := hsm.slv
            refine O.no rfl (noB (isF rfl c37) rfl) ?_
            refine O.no rfl (noB (isF rfl c37) rfl) ?_
            refine O.no rfl (noB (isF rfl c37) rfl) ?_
            refine O.no rfl (noB (isF rfl c37) rfl) ?_
            refine O.no rfl (noB (isF rfl c37) rfl) ?_
            refine O.pickF (isF rfl c37) ?_
            refine O.nil ?_
            refine hK16 _ _ ?_
            refine C.condF rfl ?_
            refine C.exit ?_
            refine hK14 _ _ ?_
            refine hK12 _ _ ?_
            refine C.region ?_
            refine O.fieldAd Tryz.underlying28 rfl Tryz.sizeOf26 (by decide) (Eq.trans s6_2 s6_1) ?_
            refine O.loadO Tryz.isAgg26 rfl r2_2 rfl ?_
            refine O.loadOA Tryz.isAgg56 Tryz.sizeOf56 s8_2 r3_2 (Nat.le_of_ble_eq_true rfl) ?_
            refine O.cast (v' := .agg #[str sv31, slv pm]) rfl ?_
            refine O.litG (G := itemF) [(sv31, pm)] Tryz.underlying26 ti56 ts56 tz56 rfl (by decide) (by decide) rfl (fun b65 w26 hb65 hz65 e26 => ?_)
            have z26 := e26.size
            have h65 := hz65.own
            have hq65 := Sl.litG (n := 1) h65 rfl (by unfold maxLen; omega)
            refine O.appW (G := itemF) Tryz.underlying26 ti56 tz56 ts56 rfl rfl rfl (r4_2.keep e26) hq65 (by rw [tb56, hit.1]; simp; omega) (by unfold maxLen; rw [hit.1]; simp; omega) (by omega) (fun v66 w27 h66 e27 hw66 => ?_)
            have e27m : Ext (fun j => w.heap.size ≤ j) w26 w27 := e27.mono (fun j _ hj => by have := (r4_2.keep e26).bk_ge j hj; omega)
            have z27 := e27.size
            have h66s := h66.sl
            have hit66 : Items w27 (fun j => b6 < j ∧ j < w27.heap.size ∧ ¬ bk v66 j) (raw ++ [(sv31, pm)]) (its ++ [(sv31, ms)]) := ((((r6_2.keep e26).keepM e27 (fun j hj h => hj.2.2 h))).weak (fun j hj => ⟨hj.1, by have := hj.2.1; omega, fun hq => by
              rcases hw66 j hq with q | q
              · exact hj.2.2 q
              · have := hj.2.1; omega⟩)).snoc (x := (sv31, ms)) rfl ((((hsm.keep e26).keepM e27 (fun j hj h => by have q1 := hob8 j h; have q2 := hpb j hj; omega))).weak (fun j hj => by
              have q2 := hpb j hj
              refine ⟨by omega, by omega, fun hq => ?_⟩
              rcases hw66 j hq with q | q
              · have := hob8 j q; omega
              · omega))
            refine O.fieldAd Tryz.underlying28 rfl Tryz.sizeOf26 (by decide) (Eq.trans s6_2 s6_1) ?_
            refine O.store Tryz.sizeOf26 rfl rfl h66.one ((r2_2.keep e26).keepM e27 (by intro h; have := (r4_2.keep e26).bk_ge _ h; omega)) (by simp) (fun w28 hs28 e28 z28 => ?_)
            try simp only [Int.toNat_natCast, Nat.zero_add, Nat.mul_one] at hs28
            refine O.nil ?_
            refine hK10 _ _ ?_
            refine hK9 _ _ ?_
            refine C.region ?_
            refine O.mv ?_
            refine O.subU (m := 64) (b := 1#64) rfl rfl (Eq.trans s7_2 s7_1) rfl ?_
            refine O.asg ?_
            refine O.nil ?_
            refine ⟨(its ++ [(sv31, ms)], raw ++ [(sv31, pm)], v66, kd, bd), ⟨(Eq.trans rfl (congrArg (fun q : BitVec 64 => Value.int .u64 (q.toNat : Int)) (by rw [Cn.dec_ofNat (by omega) (by omega), List.length_append]; rfl))), (Eq.trans s2_2 s2_1), (Eq.trans s3_2 s3_1), (Eq.trans s4_2 s4_1), (Eq.trans s5_2 s5_1), (Eq.trans s6_2 s6_1), (Ext.new (Ext.new (Ext.trans e_2 e26) e27 (by intro i hi h; have := (r4_2.keep e26).bk_ge i h; omega)) e28 (by rintro i hi rfl; omega)), (((r0_2.keep e26).keepM e27 (by intro h; have := (r4_2.keep e26).bk_ge _ h; omega)).keepM e28 (by intro h; (try dsimp only at h); omega)), (((r1_2.keep e26).keepM e27 (by intro h; have := (r4_2.keep e26).bk_ge _ h; omega)).keepM e28 (by intro h; (try dsimp only at h); omega)), hs28, (h66.keepM e28 (fun k hk h => by have := h66.bk_ge k hk; (try dsimp only at h); omega)), (((hit66.keepM e28 (by intro k hk h; first | (have q1 := hF k hk; (try dsimp only at h); omega) | (have q1 := hF2 k hk; (try dsimp only at h); omega) | (have q1 := hFb k hk; (try dsimp only at h); omega) | ((try dsimp only at hk); (try dsimp only at h); omega)))).weak (fun j hj => ⟨hj.1, by have := hj.2.1; omega, hj.2.2⟩)), (((r7_2.keep e26).keepM e27 (by intro j hj h; have q2 := (r4_2.keep e26).bk_ge j h; first | (have q1 := hF j hj; omega) | ((try dsimp only at hj); omega))).keepM e28 (by intro k hk h; first | (have q1 := hF k hk; (try dsimp only at h); omega) | (have q1 := hF2 k hk; (try dsimp only at h); omega) | (have q1 := hFb k hk; (try dsimp only at h); omega) | ((try dsimp only at hk); (try dsimp only at h); omega))), (((r8_2.keep e26).keepM e27 (by intro j hj h; have q2 := (r4_2.keep e26).bk_ge j h; first | (have q1 := hF j hj; omega) | ((try dsimp only at hj); omega))).keepM e28 (by intro k hk h; first | (have q1 := hF k hk; (try dsimp only at h); omega) | (have q1 := hF2 k hk; (try dsimp only at h); omega) | (have q1 := hFb k hk; (try dsimp only at h); omega) | ((try dsimp only at hk); (try dsimp only at h); omega))), ?_⟩, by show nv18.toNat - (its ++ [_]).length < nv18.toNat - its.length; rw [List.length_append]; show nv18.toNat - (its.length + 1) < _; omega⟩
            exact ⟨by rw [List.length_append]; exact hj2, by rw [List.length_append]; show its.length + 1 ≤ _; omega, Cn.manyQ_snoc hB ⟨by show sv31.length ≤ 1000000; omega, by show ms.length ≤ 1000000; omega⟩, Cn.Rds.next Cn.pre_itemR hR hj2 hM.2.1 (Cn.Rd.item hrv31 hmd)⟩
      ·
        have hj4 : bc = true := by simpa using c27
        have hdn : Cn.Rd (Cn.manyQ Cn.itemR) (Cn.manyB Cn.itemB) l knv15 bv15 its kc bc := Cn.Rds.done hR (by first | (left; omega) | exact .inr hj4)
        have hit := r4_1
        have hob2 := (r3_1).bk_ge
        obtain ⟨wq, hwq⟩ : ∃ x, x = w7 := ⟨_, rfl⟩
        have hzq : wq.heap.size = w7.heap.size := by rw [hwq]
        have hsi : Sl itemE w7 (fun j => b6 < j ∧ j < wq.heap.size) o its := (hit.weak (by intro j hj; have q1 := hj.1; have q := hj.2.1; show b6 < j ∧ j < wq.heap.size; omega)).sl ((r3_1).sl.weak (by intro j hj; have q := hob2 j hj; show b6 < j ∧ j < wq.heap.size; omega))
        refine C.exit ?_
        refine hK6 _ _ ?_
        refine hK4 _ _ ?_
        refine C.seqK fun K22 hK22 => ?_
        refine C.seqK fun K23 hK23 => ?_
        refine C.region ?_
        refine O.mv ?_
        refine O.nilChk s5_1 ?_
        refine O.fieldAd Tryz.underlying122 rfl Tryz.sizeOf4 (by decide) rfl ?_
        refine O.loadO Tryz.isAgg4 rfl r0_1 rfl ?_
        refine O.nil ?_
        refine hK23 _ _ ?_
        refine C.cond rfl (fun c71 => ?_) (fun c71 => ?_)
        ·
          refine C.seqK fun K24 hK24 => ?_
          refine C.region ?_
          refine O.build (cells := #[.slice none 0 0, .slice none 0 0, .slice none 0 0]) rfl (by kernel_rfl) ?_
          refine O.storeA (vs := [.slice none 0 0, .slice none 0 0, .slice none 0 0]) Tryz.sizeOf28 rfl s2_1 rfl (by first | (have q9 := ho1; intro u hu; simp only [List.mem_cons, List.not_mem_nil, or_false] at hu; rcases hu with rfl | rfl | rfl <;> first | rfl | exact q9) | simp [Value.oneCell']) r1_1 (Nat.le_of_ble_eq_true rfl) (fun w29 hs29 e29 z29 => ?_)
          refine O.asg ?_
          refine O.asg ?_
          refine O.nil ?_
          refine hK24 _ _ ?_
          refine C.ret ?_
          refine Outs.cellA3 rfl Tryz.isAgg28 Tryz.sizeOf28 s2_1 rfl rfl hs29 rfl ?_
          first
          | exact ⟨slv p15, slv q15, o, (xv15, its), kc, true, rfl, ((r5_1.keepM e29 (by intro k hk h; first | (have q1 := hF k hk; (try dsimp only at h); omega) | (have q1 := hF2 k hk; (try dsimp only at h); omega) | (have q1 := hFb k hk; (try dsimp only at h); omega) | ((try dsimp only at hk); (try dsimp only at h); omega)))).weak (by intro j hj; (try dsimp only at hj); (try dsimp only); omega), ((r6_1.keepM e29 (by intro k hk h; first | (have q1 := hF k hk; (try dsimp only at h); omega) | (have q1 := hF2 k hk; (try dsimp only at h); omega) | (have q1 := hFb k hk; (try dsimp only at h); omega) | ((try dsimp only at hk); (try dsimp only at h); omega)))).weak (by intro j hj; (try dsimp only at hj); (try dsimp only); omega), ((hsi.keepM e29 (by intro k hk h; first | (have q1 := hF k hk; (try dsimp only at h); omega) | (have q1 := hF2 k hk; (try dsimp only at h); omega) | (have q1 := hFb k hk; (try dsimp only at h); omega) | ((try dsimp only at hk); (try dsimp only at h); omega)))).weak (by intro j hj; (try dsimp only at hj); (try dsimp only); omega), ⟨by have := hnv15.1; show xv15.1.length ≤ 1000000; omega, by have := hnv15.2; show xv15.2.length ≤ 1000000; omega, by show its.length ≤ 1000000; omega, hB⟩, .inl ⟨rfl, ⟨hcv15, hR.2.1⟩, (Cn.Rd.cart hrv15 hcv15 hdn).yes c71⟩, (Ext.new e_1 e29 (by rintro i hi rfl; omega))⟩
          | exact ⟨_, _, _, Cn.nil0, 0, false, rfl, Sl.nil _ _ _, Sl.nil _ _ _, Sl.nil _ _ _, Cn.big_nil0, .inr ⟨rfl, rfl, rfl, (Cn.Rd.cart hrv15 hcv15 hdn).no c71⟩, (Ext.new e_1 e29 (by rintro i hi rfl; omega))⟩
        ·
          refine C.skip ?_
          refine hK22 _ _ ?_
          refine C.seqK fun K25 hK25 => ?_
          refine C.drawB (wB := (bare w7)) (by kernel_rfl) fun w30 e30 => ?_
          have z30 := e30.size
          refine D.take (i := 1) rfl rfl rfl rfl (by kernel_rfl) (Ext.bare (Ext.new (Ext.refl (fun _ => True) _) e30 (fun _ _ _ => trivial))) ⟨pure _, rfl⟩ (fun w_ hw_ N_ hN => (O.mv (O.nil hN))) ?_
          refine D.take (i := 2) rfl rfl rfl rfl (by kernel_rfl) (Ext.bare (Ext.new (Ext.refl (fun _ => True) _) e30 (fun _ _ _ => trivial))) (nil_form s5_1) (fun w_ hw_ N_ hN => (O.nilChk s5_1 (O.nil hN))) ?_
          refine D.take (i := 3) rfl rfl rfl rfl (by kernel_rfl) (Ext.bare (Ext.new (Ext.refl (fun _ => True) _) e30 (fun _ _ _ => trivial))) ⟨_, rfl⟩ (fun w_ hw_ N_ hN => (O.fieldAd Tryz.underlying122 rfl Tryz.sizeOf3 (by decide) rfl (O.nil hN))) ?_
          refine D.many [0, 4] (by kernel_rfl) (by decide) ⟨?_, ?_, trivial⟩
          ·
            refine D.stepU rfl rfl ?_
            refine O.loadOA Tryz.isAgg28 Tryz.sizeOf28 s6_1 (r2_1.keep e30) (Nat.le_of_ble_eq_true rfl) ?_
            refine O.nil ⟨(Ext.bare (Ext.new (Ext.refl (fun _ => True) _) e30 (fun _ _ _ => trivial))), ?_⟩
            refine D.many [4, 5] (by kernel_rfl) (by decide) ⟨?_, ?_, trivial⟩
            ·
              refine D.stepU rfl rfl ?_
              refine O.loadO Tryz.isAgg3 rfl (r0_1.keep e30) rfl ?_
              refine O.nil ⟨(Ext.bare (Ext.new (Ext.refl (fun _ => True) _) e30 (fun _ _ _ => trivial))), ?_⟩
              refine D.one (i := 5) rfl rfl (by kernel_rfl) ?_
              refine O.storeA (vs := [slv p15, slv q15, o]) Tryz.sizeOf28 rfl s2_1 rfl (by first | (have q9 := ho1; intro u hu; simp only [List.mem_cons, List.not_mem_nil, or_false] at hu; rcases hu with rfl | rfl | rfl <;> first | rfl | exact q9) | simp [Value.oneCell']) (r1_1.keep e30) (Nat.le_of_ble_eq_true rfl) (fun w31 hs31 e31 z31 => ?_)
              refine O.nil ⟨(Ext.bare (Ext.new (Ext.new (Ext.refl (fun _ => True) _) e30 (fun _ _ _ => trivial)) e31 (fun _ _ _ => trivial))), ?_⟩
              refine D.take (i := 6) rfl rfl rfl rfl (by kernel_rfl) (Ext.bare (Ext.new (Ext.new (Ext.refl (fun _ => True) _) e30 (fun _ _ _ => trivial)) e31 (fun _ _ _ => trivial))) ⟨pure _, rfl⟩ (fun w_ hw_ N_ hN => (O.asg (O.nil hN))) ?_
              refine D.take (i := 7) rfl rfl rfl rfl (by kernel_rfl) (Ext.bare (Ext.new (Ext.new (Ext.refl (fun _ => True) _) e30 (fun _ _ _ => trivial)) e31 (fun _ _ _ => trivial))) ⟨pure _, rfl⟩ (fun w_ hw_ N_ hN => (O.asg (O.nil hN))) ?_
              refine D.done (by kernel_rfl) ?_
              refine hK25 _ _ ?_
              refine C.ret ?_
              refine Outs.cellA3 rfl Tryz.isAgg28 Tryz.sizeOf28 s2_1 rfl rfl hs31 rfl ?_
              first
              | exact ⟨slv p15, slv q15, o, (xv15, its), kc, true, rfl, (((r5_1.keep e30).keepM e31 (by intro k hk h; first | (have q1 := hF k hk; (try dsimp only at h); omega) | (have q1 := hF2 k hk; (try dsimp only at h); omega) | (have q1 := hFb k hk; (try dsimp only at h); omega) | ((try dsimp only at hk); (try dsimp only at h); omega)))).weak (by intro j hj; (try dsimp only at hj); (try dsimp only); omega), (((r6_1.keep e30).keepM e31 (by intro k hk h; first | (have q1 := hF k hk; (try dsimp only at h); omega) | (have q1 := hF2 k hk; (try dsimp only at h); omega) | (have q1 := hFb k hk; (try dsimp only at h); omega) | ((try dsimp only at hk); (try dsimp only at h); omega)))).weak (by intro j hj; (try dsimp only at hj); (try dsimp only); omega), (((hsi.keep e30).keepM e31 (by intro k hk h; first | (have q1 := hF k hk; (try dsimp only at h); omega) | (have q1 := hF2 k hk; (try dsimp only at h); omega) | (have q1 := hFb k hk; (try dsimp only at h); omega) | ((try dsimp only at hk); (try dsimp only at h); omega)))).weak (by intro j hj; (try dsimp only at hj); (try dsimp only); omega), ⟨by have := hnv15.1; show xv15.1.length ≤ 1000000; omega, by have := hnv15.2; show xv15.2.length ≤ 1000000; omega, by show its.length ≤ 1000000; omega, hB⟩, .inl ⟨rfl, ⟨hcv15, hR.2.1⟩, (Cn.Rd.cart hrv15 hcv15 hdn).yes c71⟩, (Ext.new (Ext.trans e_1 e30) e31 (by rintro i hi rfl; omega))⟩
              | exact ⟨_, _, _, Cn.nil0, 0, false, rfl, Sl.nil _ _ _, Sl.nil _ _ _, Sl.nil _ _ _, Cn.big_nil0, .inr ⟨rfl, rfl, rfl, (Cn.Rd.cart hrv15 hcv15 hdn).no c71⟩, (Ext.new (Ext.trans e_1 e30) e31 (by rintro i hi rfl; omega))⟩
            ·
              refine D.stepU rfl rfl ?_
              refine O.storeA (vs := [slv p15, slv q15, o]) Tryz.sizeOf28 rfl s2_1 rfl (by first | (have q9 := ho1; intro u hu; simp only [List.mem_cons, List.not_mem_nil, or_false] at hu; rcases hu with rfl | rfl | rfl <;> first | rfl | exact q9) | simp [Value.oneCell']) (r1_1.keep e30) (Nat.le_of_ble_eq_true rfl) (fun w32 hs32 e32 z32 => ?_)
              refine O.nil ⟨(Ext.bare (Ext.new (Ext.new (Ext.refl (fun _ => True) _) e30 (fun _ _ _ => trivial)) e32 (fun _ _ _ => trivial))), ?_⟩
              refine D.one (i := 4) rfl rfl (by kernel_rfl) ?_
              refine O.loadO Tryz.isAgg3 rfl ((r0_1.keep e30).keepM e32 (by intro h; (try dsimp only at h); omega)) rfl ?_
              refine O.nil ⟨(Ext.bare (Ext.new (Ext.new (Ext.refl (fun _ => True) _) e30 (fun _ _ _ => trivial)) e32 (fun _ _ _ => trivial))), ?_⟩
              refine D.take (i := 6) rfl rfl rfl rfl (by kernel_rfl) (Ext.bare (Ext.new (Ext.new (Ext.refl (fun _ => True) _) e30 (fun _ _ _ => trivial)) e32 (fun _ _ _ => trivial))) ⟨pure _, rfl⟩ (fun w_ hw_ N_ hN => (O.asg (O.nil hN))) ?_
              refine D.take (i := 7) rfl rfl rfl rfl (by kernel_rfl) (Ext.bare (Ext.new (Ext.new (Ext.refl (fun _ => True) _) e30 (fun _ _ _ => trivial)) e32 (fun _ _ _ => trivial))) ⟨pure _, rfl⟩ (fun w_ hw_ N_ hN => (O.asg (O.nil hN))) ?_
              refine D.done (by kernel_rfl) ?_
              refine hK25 _ _ ?_
              refine C.ret ?_
              refine Outs.cellA3 rfl Tryz.isAgg28 Tryz.sizeOf28 s2_1 rfl rfl hs32 rfl ?_
              first
              | exact ⟨slv p15, slv q15, o, (xv15, its), kc, true, rfl, (((r5_1.keep e30).keepM e32 (by intro k hk h; first | (have q1 := hF k hk; (try dsimp only at h); omega) | (have q1 := hF2 k hk; (try dsimp only at h); omega) | (have q1 := hFb k hk; (try dsimp only at h); omega) | ((try dsimp only at hk); (try dsimp only at h); omega)))).weak (by intro j hj; (try dsimp only at hj); (try dsimp only); omega), (((r6_1.keep e30).keepM e32 (by intro k hk h; first | (have q1 := hF k hk; (try dsimp only at h); omega) | (have q1 := hF2 k hk; (try dsimp only at h); omega) | (have q1 := hFb k hk; (try dsimp only at h); omega) | ((try dsimp only at hk); (try dsimp only at h); omega)))).weak (by intro j hj; (try dsimp only at hj); (try dsimp only); omega), (((hsi.keep e30).keepM e32 (by intro k hk h; first | (have q1 := hF k hk; (try dsimp only at h); omega) | (have q1 := hF2 k hk; (try dsimp only at h); omega) | (have q1 := hFb k hk; (try dsimp only at h); omega) | ((try dsimp only at hk); (try dsimp only at h); omega)))).weak (by intro j hj; (try dsimp only at hj); (try dsimp only); omega), ⟨by have := hnv15.1; show xv15.1.length ≤ 1000000; omega, by have := hnv15.2; show xv15.2.length ≤ 1000000; omega, by show its.length ≤ 1000000; omega, hB⟩, .inl ⟨rfl, ⟨hcv15, hR.2.1⟩, (Cn.Rd.cart hrv15 hcv15 hdn).yes c71⟩, (Ext.new (Ext.trans e_1 e30) e32 (by rintro i hi rfl; omega))⟩
              | exact ⟨_, _, _, Cn.nil0, 0, false, rfl, Sl.nil _ _ _, Sl.nil _ _ _, Sl.nil _ _ _, Cn.big_nil0, .inr ⟨rfl, rfl, rfl, (Cn.Rd.cart hrv15 hcv15 hdn).no c71⟩, (Ext.new (Ext.trans e_1 e30) e32 (by rintro i hi rfl; omega))⟩
          ·
            refine D.stepU rfl rfl ?_
            refine O.loadO Tryz.isAgg3 rfl (r0_1.keep e30) rfl ?_
            refine O.nil ⟨(Ext.bare (Ext.new (Ext.refl (fun _ => True) _) e30 (fun _ _ _ => trivial))), ?_⟩
            refine D.one (i := 0) rfl rfl (by kernel_rfl) ?_
            refine O.loadOA Tryz.isAgg28 Tryz.sizeOf28 s6_1 (r2_1.keep e30) (Nat.le_of_ble_eq_true rfl) ?_
            refine O.nil ⟨(Ext.bare (Ext.new (Ext.refl (fun _ => True) _) e30 (fun _ _ _ => trivial))), ?_⟩
            refine D.one (i := 5) rfl rfl (by kernel_rfl) ?_
            refine O.storeA (vs := [slv p15, slv q15, o]) Tryz.sizeOf28 rfl s2_1 rfl (by first | (have q9 := ho1; intro u hu; simp only [List.mem_cons, List.not_mem_nil, or_false] at hu; rcases hu with rfl | rfl | rfl <;> first | rfl | exact q9) | simp [Value.oneCell']) (r1_1.keep e30) (Nat.le_of_ble_eq_true rfl) (fun w33 hs33 e33 z33 => ?_)
            refine O.nil ⟨(Ext.bare (Ext.new (Ext.new (Ext.refl (fun _ => True) _) e30 (fun _ _ _ => trivial)) e33 (fun _ _ _ => trivial))), ?_⟩
            refine D.take (i := 6) rfl rfl rfl rfl (by kernel_rfl) (Ext.bare (Ext.new (Ext.new (Ext.refl (fun _ => True) _) e30 (fun _ _ _ => trivial)) e33 (fun _ _ _ => trivial))) ⟨pure _, rfl⟩ (fun w_ hw_ N_ hN => (O.asg (O.nil hN))) ?_
            refine D.take (i := 7) rfl rfl rfl rfl (by kernel_rfl) (Ext.bare (Ext.new (Ext.new (Ext.refl (fun _ => True) _) e30 (fun _ _ _ => trivial)) e33 (fun _ _ _ => trivial))) ⟨pure _, rfl⟩ (fun w_ hw_ N_ hN => (O.asg (O.nil hN))) ?_
            refine D.done (by kernel_rfl) ?_
            refine hK25 _ _ ?_
            refine C.ret ?_
            refine Outs.cellA3 rfl Tryz.isAgg28 Tryz.sizeOf28 s2_1 rfl rfl hs33 rfl ?_
            first
            | exact ⟨slv p15, slv q15, o, (xv15, its), kc, true, rfl, (((r5_1.keep e30).keepM e33 (by intro k hk h; first | (have q1 := hF k hk; (try dsimp only at h); omega) | (have q1 := hF2 k hk; (try dsimp only at h); omega) | (have q1 := hFb k hk; (try dsimp only at h); omega) | ((try dsimp only at hk); (try dsimp only at h); omega)))).weak (by intro j hj; (try dsimp only at hj); (try dsimp only); omega), (((r6_1.keep e30).keepM e33 (by intro k hk h; first | (have q1 := hF k hk; (try dsimp only at h); omega) | (have q1 := hF2 k hk; (try dsimp only at h); omega) | (have q1 := hFb k hk; (try dsimp only at h); omega) | ((try dsimp only at hk); (try dsimp only at h); omega)))).weak (by intro j hj; (try dsimp only at hj); (try dsimp only); omega), (((hsi.keep e30).keepM e33 (by intro k hk h; first | (have q1 := hF k hk; (try dsimp only at h); omega) | (have q1 := hF2 k hk; (try dsimp only at h); omega) | (have q1 := hFb k hk; (try dsimp only at h); omega) | ((try dsimp only at hk); (try dsimp only at h); omega)))).weak (by intro j hj; (try dsimp only at hj); (try dsimp only); omega), ⟨by have := hnv15.1; show xv15.1.length ≤ 1000000; omega, by have := hnv15.2; show xv15.2.length ≤ 1000000; omega, by show its.length ≤ 1000000; omega, hB⟩, .inl ⟨rfl, ⟨hcv15, hR.2.1⟩, (Cn.Rd.cart hrv15 hcv15 hdn).yes c71⟩, (Ext.new (Ext.trans e_1 e30) e33 (by rintro i hi rfl; omega))⟩
            | exact ⟨_, _, _, Cn.nil0, 0, false, rfl, Sl.nil _ _ _, Sl.nil _ _ _, Sl.nil _ _ _, Cn.big_nil0, .inr ⟨rfl, rfl, rfl, (Cn.Rd.cart hrv15 hcv15 hdn).no c71⟩, (Ext.new (Ext.trans e_1 e30) e33 (by rintro i hi rfl; omega))⟩
    ·
      have hj3 : its.length = nv18.toNat := by have q := mt (Cn.pos_ofNat (m := nv18.toNat - its.length) (by omega)).2 c21; omega
      have hdn : Cn.Rd (Cn.manyQ Cn.itemR) (Cn.manyB Cn.itemB) l knv15 bv15 its kc bc := Cn.Rds.done hR (by first | (left; omega) | exact .inr hj4)
      have hit := r4_1
      have hob2 := (r3_1).bk_ge
      obtain ⟨wq, hwq⟩ : ∃ x, x = w7 := ⟨_, rfl⟩
      have hzq : wq.heap.size = w7.heap.size := by rw [hwq]
      have hsi : Sl itemE w7 (fun j => b6 < j ∧ j < wq.heap.size) o its := (hit.weak (by intro j hj; have q1 := hj.1; have q := hj.2.1; show b6 < j ∧ j < wq.heap.size; omega)).sl ((r3_1).sl.weak (by intro j hj; have q := hob2 j hj; show b6 < j ∧ j < wq.heap.size; omega))
      refine O.no rfl (noB (isF rfl c21) rfl) ?_
      refine O.no rfl (noB (isF rfl c21) rfl) ?_
      refine O.no rfl (noB (isF rfl c21) rfl) ?_
      refine O.no rfl (noB (isF rfl c21) rfl) ?_
      refine O.no rfl (noB (isF rfl c21) rfl) ?_
      refine O.pickF (isF rfl c21) ?_
      refine O.nil ?_
      refine hK8 _ _ ?_
      refine C.condF rfl ?_
      refine C.exit ?_
      refine hK6 _ _ ?_
      refine hK4 _ _ ?_
      refine C.seqK fun K26 hK26 => ?_
      refine C.seqK fun K27 hK27 => ?_
      refine C.region ?_
      refine O.mv ?_
      refine O.nilChk s5_1 ?_
      refine O.fieldAd Tryz.underlying122 rfl Tryz.sizeOf4 (by decide) rfl ?_
      refine O.loadO Tryz.isAgg4 rfl r0_1 rfl ?_
      refine O.nil ?_
      refine hK27 _ _ ?_
      refine C.cond rfl (fun c71 => ?_) (fun c71 => ?_)
      ·
        refine C.seqK fun K28 hK28 => ?_
        refine C.region ?_
        refine O.build (cells := #[.slice none 0 0, .slice none 0 0, .slice none 0 0]) rfl (by kernel_rfl) ?_
        refine O.storeA (vs := [.slice none 0 0, .slice none 0 0, .slice none 0 0]) Tryz.sizeOf28 rfl s2_1 rfl (by first | (have q9 := ho1; intro u hu; simp only [List.mem_cons, List.not_mem_nil, or_false] at hu; rcases hu with rfl | rfl | rfl <;> first | rfl | exact q9) | simp [Value.oneCell']) r1_1 (Nat.le_of_ble_eq_true rfl) (fun w34 hs34 e34 z34 => ?_)
        refine O.asg ?_
        refine O.asg ?_
        refine O.nil ?_
        refine hK28 _ _ ?_
        refine C.ret ?_
        refine Outs.cellA3 rfl Tryz.isAgg28 Tryz.sizeOf28 s2_1 rfl rfl hs34 rfl ?_
        first
        | exact ⟨slv p15, slv q15, o, (xv15, its), kc, true, rfl, ((r5_1.keepM e34 (by intro k hk h; first | (have q1 := hF k hk; (try dsimp only at h); omega) | (have q1 := hF2 k hk; (try dsimp only at h); omega) | (have q1 := hFb k hk; (try dsimp only at h); omega) | ((try dsimp only at hk); (try dsimp only at h); omega)))).weak (by intro j hj; (try dsimp only at hj); (try dsimp only); omega), ((r6_1.keepM e34 (by intro k hk h; first | (have q1 := hF k hk; (try dsimp only at h); omega) | (have q1 := hF2 k hk; (try dsimp only at h); omega) | (have q1 := hFb k hk; (try dsimp only at h); omega) | ((try dsimp only at hk); (try dsimp only at h); omega)))).weak (by intro j hj; (try dsimp only at hj); (try dsimp only); omega), ((hsi.keepM e34 (by intro k hk h; first | (have q1 := hF k hk; (try dsimp only at h); omega) | (have q1 := hF2 k hk; (try dsimp only at h); omega) | (have q1 := hFb k hk; (try dsimp only at h); omega) | ((try dsimp only at hk); (try dsimp only at h); omega)))).weak (by intro j hj; (try dsimp only at hj); (try dsimp only); omega), ⟨by have := hnv15.1; show xv15.1.length ≤ 1000000; omega, by have := hnv15.2; show xv15.2.length ≤ 1000000; omega, by show its.length ≤ 1000000; omega, hB⟩, .inl ⟨rfl, ⟨hcv15, hR.2.1⟩, (Cn.Rd.cart hrv15 hcv15 hdn).yes c71⟩, (Ext.new e_1 e34 (by rintro i hi rfl; omega))⟩
        | exact ⟨_, _, _, Cn.nil0, 0, false, rfl, Sl.nil _ _ _, Sl.nil _ _ _, Sl.nil _ _ _, Cn.big_nil0, .inr ⟨rfl, rfl, rfl, (Cn.Rd.cart hrv15 hcv15 hdn).no c71⟩, (Ext.new e_1 e34 (by rintro i hi rfl; omega))⟩
      ·
        refine C.skip ?_
        refine hK26 _ _ ?_
        refine C.seqK fun K29 hK29 => ?_
        refine C.drawB (wB := (bare w7)) (by kernel_rfl) fun w35 e35 => ?_
        have z35 := e35.size
        refine D.take (i := 1) rfl rfl rfl rfl (by kernel_rfl) (Ext.bare (Ext.new (Ext.refl (fun _ => True) _) e35 (fun _ _ _ => trivial))) ⟨pure _, rfl⟩ (fun w_ hw_ N_ hN => (O.mv (O.nil hN))) ?_
        refine D.take (i := 2) rfl rfl rfl rfl (by kernel_rfl) (Ext.bare (Ext.new (Ext.refl (fun _ => True) _) e35 (fun _ _ _ => trivial))) (nil_form s5_1) (fun w_ hw_ N_ hN => (O.nilChk s5_1 (O.nil hN))) ?_
        refine D.take (i := 3) rfl rfl rfl rfl (by kernel_rfl) (Ext.bare (Ext.new (Ext.refl (fun _ => True) _) e35 (fun _ _ _ => trivial))) ⟨_, rfl⟩ (fun w_ hw_ N_ hN => (O.fieldAd Tryz.underlying122 rfl Tryz.sizeOf3 (by decide) rfl (O.nil hN))) ?_
        refine D.many [0, 4] (by kernel_rfl) (by decide) ⟨?_, ?_, trivial⟩
        ·
          refine D.stepU rfl rfl ?_
          refine O.loadOA Tryz.isAgg28 Tryz.sizeOf28 s6_1 (r2_1.keep e35) (Nat.le_of_ble_eq_true rfl) ?_
          refine O.nil ⟨(Ext.bare (Ext.new (Ext.refl (fun _ => True) _) e35 (fun _ _ _ => trivial))), ?_⟩
          refine D.many [4, 5] (by kernel_rfl) (by decide) ⟨?_, ?_, trivial⟩
          ·
            refine D.stepU rfl rfl ?_
            refine O.loadO Tryz.isAgg3 rfl (r0_1.keep e35) rfl ?_
            refine O.nil ⟨(Ext.bare (Ext.new (Ext.refl (fun _ => True) _) e35 (fun _ _ _ => trivial))), ?_⟩
            refine D.one (i := 5) rfl rfl (by kernel_rfl) ?_
            refine O.storeA (vs := [slv p15, slv q15, o]) Tryz.sizeOf28 rfl s2_1 rfl (by first | (have q9 := ho1; intro u hu; simp only [List.mem_cons, List.not_mem_nil, or_false] at hu; rcases hu with rfl | rfl | rfl <;> first | rfl | exact q9) | simp [Value.oneCell']) (r1_1.keep e35) (Nat.le_of_ble_eq_true rfl) (fun w36 hs36 e36 z36 => ?_)
            refine O.nil ⟨(Ext.bare (Ext.new (Ext.new (Ext.refl (fun _ => True) _) e35 (fun _ _ _ => trivial)) e36 (fun _ _ _ => trivial))), ?_⟩
            refine D.take (i := 6) rfl rfl rfl rfl (by kernel_rfl) (Ext.bare (Ext.new (Ext.new (Ext.refl (fun _ => True) _) e35 (fun _ _ _ => trivial)) e36 (fun _ _ _ => trivial))) ⟨pure _, rfl⟩ (fun w_ hw_ N_ hN => (O.asg (O.nil hN))) ?_
            refine D.take (i := 7) rfl rfl rfl rfl (by kernel_rfl) (Ext.bare (Ext.new (Ext.new (Ext.refl (fun _ => True) _) e35 (fun _ _ _ => trivial)) e36 (fun _ _ _ => trivial))) ⟨pure _, rfl⟩ (fun w_ hw_ N_ hN => (O.asg (O.nil hN))) ?_
            refine D.done (by kernel_rfl) ?_
            refine hK29 _ _ ?_
            refine C.ret ?_
            refine Outs.cellA3 rfl Tryz.isAgg28 Tryz.sizeOf28 s2_1 rfl rfl hs36 rfl ?_
            first
            | exact ⟨slv p15, slv q15, o, (xv15, its), kc, true, rfl, (((r5_1.keep e35).keepM e36 (by intro k hk h; first | (have q1 := hF k hk; (try dsimp only at h); omega) | (have q1 := hF2 k hk; (try dsimp only at h); omega) | (have q1 := hFb k hk; (try dsimp only at h); omega) | ((try dsimp only at hk); (try dsimp only at h); omega)))).weak (by intro j hj; (try dsimp only at hj); (try dsimp only); omega), (((r6_1.keep e35).keepM e36 (by intro k hk h; first | (have q1 := hF k hk; (try dsimp only at h); omega) | (have q1 := hF2 k hk; (try dsimp only at h); omega) | (have q1 := hFb k hk; (try dsimp only at h); omega) | ((try dsimp only at hk); (try dsimp only at h); omega)))).weak (by intro j hj; (try dsimp only at hj); (try dsimp only); omega), (((hsi.keep e35).keepM e36 (by intro k hk h; first | (have q1 := hF k hk; (try dsimp only at h); omega) | (have q1 := hF2 k hk; (try dsimp only at h); omega) | (have q1 := hFb k hk; (try dsimp only at h); omega) | ((try dsimp only at hk); (try dsimp only at h); omega)))).weak (by intro j hj; (try dsimp only at hj); (try dsimp only); omega), ⟨by have := hnv15.1; show xv15.1.length ≤ 1000000; omega, by have := hnv15.2; show xv15.2.length ≤ 1000000; omega, by show its.length ≤ 1000000; omega, hB⟩, .inl ⟨rfl, ⟨hcv15, hR.2.1⟩, (Cn.Rd.cart hrv15 hcv15 hdn).yes c71⟩, (Ext.new (Ext.trans e_1 e35) e36 (by rintro i hi rfl; omega))⟩
            | exact ⟨_, _, _, Cn.nil0, 0, false, rfl, Sl.nil _ _ _, Sl.nil _ _ _, Sl.nil _ _ _, Cn.big_nil0, .inr ⟨rfl, rfl, rfl, (Cn.Rd.cart hrv15 hcv15 hdn).no c71⟩, (Ext.new (Ext.trans e_1 e35) e36 (by rintro i hi rfl; omega))⟩
          ·
            refine D.stepU rfl rfl ?_
            refine O.storeA (vs := [slv p15, slv q15, o]) Tryz.sizeOf28 rfl s2_1 rfl (by first | (have q9 := ho1; intro u hu; simp only [List.mem_cons, List.not_mem_nil, or_false] at hu; rcases hu with rfl | rfl | rfl <;> first | rfl | exact q9) | simp [Value.oneCell']) (r1_1.keep e35) (Nat.le_of_ble_eq_true rfl) (fun w37 hs37 e37 z37 => ?_)
            refine O.nil ⟨(Ext.bare (Ext.new (Ext.new (Ext.refl (fun _ => True) _) e35 (fun _ _ _ => trivial)) e37 (fun _ _ _ => trivial))), ?_⟩
            refine D.one (i := 4) rfl rfl (by kernel_rfl) ?_
            refine O.loadO Tryz.isAgg3 rfl ((r0_1.keep e35).keepM e37 (by intro h; (try dsimp only at h); omega)) rfl ?_
            refine O.nil ⟨(Ext.bare (Ext.new (Ext.new (Ext.refl (fun _ => True) _) e35 (fun _ _ _ => trivial)) e37 (fun _ _ _ => trivial))), ?_⟩
            refine D.take (i := 6) rfl rfl rfl rfl (by kernel_rfl) (Ext.bare (Ext.new (Ext.new (Ext.refl (fun _ => True) _) e35 (fun _ _ _ => trivial)) e37 (fun _ _ _ => trivial))) ⟨pure _, rfl⟩ (fun w_ hw_ N_ hN => (O.asg (O.nil hN))) ?_
            refine D.take (i := 7) rfl rfl rfl rfl (by kernel_rfl) (Ext.bare (Ext.new (Ext.new (Ext.refl (fun _ => True) _) e35 (fun _ _ _ => trivial)) e37 (fun _ _ _ => trivial))) ⟨pure _, rfl⟩ (fun w_ hw_ N_ hN => (O.asg (O.nil hN))) ?_
            refine D.done (by kernel_rfl) ?_
            refine hK29 _ _ ?_
            refine C.ret ?_
            refine Outs.cellA3 rfl Tryz.isAgg28 Tryz.sizeOf28 s2_1 rfl rfl hs37 rfl ?_
            first
            | exact ⟨slv p15, slv q15, o, (xv15, its), kc, true, rfl, (((r5_1.keep e35).keepM e37 (by intro k hk h; first | (have q1 := hF k hk; (try dsimp only at h); omega) | (have q1 := hF2 k hk; (try dsimp only at h); omega) | (have q1 := hFb k hk; (try dsimp only at h); omega) | ((try dsimp only at hk); (try dsimp only at h); omega)))).weak (by intro j hj; (try dsimp only at hj); (try dsimp only); omega), (((r6_1.keep e35).keepM e37 (by intro k hk h; first | (have q1 := hF k hk; (try dsimp only at h); omega) | (have q1 := hF2 k hk; (try dsimp only at h); omega) | (have q1 := hFb k hk; (try dsimp only at h); omega) | ((try dsimp only at hk); (try dsimp only at h); omega)))).weak (by intro j hj; (try dsimp only at hj); (try dsimp only); omega), (((hsi.keep e35).keepM e37 (by intro k hk h; first | (have q1 := hF k hk; (try dsimp only at h); omega) | (have q1 := hF2 k hk; (try dsimp only at h); omega) | (have q1 := hFb k hk; (try dsimp only at h); omega) | ((try dsimp only at hk); (try dsimp only at h); omega)))).weak (by intro j hj; (try dsimp only at hj); (try dsimp only); omega), ⟨by have := hnv15.1; show xv15.1.length ≤ 1000000; omega, by have := hnv15.2; show xv15.2.length ≤ 1000000; omega, by show its.length ≤ 1000000; omega, hB⟩, .inl ⟨rfl, ⟨hcv15, hR.2.1⟩, (Cn.Rd.cart hrv15 hcv15 hdn).yes c71⟩, (Ext.new (Ext.trans e_1 e35) e37 (by rintro i hi rfl; omega))⟩
            | exact ⟨_, _, _, Cn.nil0, 0, false, rfl, Sl.nil _ _ _, Sl.nil _ _ _, Sl.nil _ _ _, Cn.big_nil0, .inr ⟨rfl, rfl, rfl, (Cn.Rd.cart hrv15 hcv15 hdn).no c71⟩, (Ext.new (Ext.trans e_1 e35) e37 (by rintro i hi rfl; omega))⟩
        ·
          refine D.stepU rfl rfl ?_
          refine O.loadO Tryz.isAgg3 rfl (r0_1.keep e35) rfl ?_
          refine O.nil ⟨(Ext.bare (Ext.new (Ext.refl (fun _ => True) _) e35 (fun _ _ _ => trivial))), ?_⟩
          refine D.one (i := 0) rfl rfl (by kernel_rfl) ?_
          refine O.loadOA Tryz.isAgg28 Tryz.sizeOf28 s6_1 (r2_1.keep e35) (Nat.le_of_ble_eq_true rfl) ?_
          refine O.nil ⟨(Ext.bare (Ext.new (Ext.refl (fun _ => True) _) e35 (fun _ _ _ => trivial))), ?_⟩
          refine D.one (i := 5) rfl rfl (by kernel_rfl) ?_
          refine O.storeA (vs := [slv p15, slv q15, o]) Tryz.sizeOf28 rfl s2_1 rfl (by first | (have q9 := ho1; intro u hu; simp only [List.mem_cons, List.not_mem_nil, or_false] at hu; rcases hu with rfl | rfl | rfl <;> first | rfl | exact q9) | simp [Value.oneCell']) (r1_1.keep e35) (Nat.le_of_ble_eq_true rfl) (fun w38 hs38 e38 z38 => ?_)
          refine O.nil ⟨(Ext.bare (Ext.new (Ext.new (Ext.refl (fun _ => True) _) e35 (fun _ _ _ => trivial)) e38 (fun _ _ _ => trivial))), ?_⟩
          refine D.take (i := 6) rfl rfl rfl rfl (by kernel_rfl) (Ext.bare (Ext.new (Ext.new (Ext.refl (fun _ => True) _) e35 (fun _ _ _ => trivial)) e38 (fun _ _ _ => trivial))) ⟨pure _, rfl⟩ (fun w_ hw_ N_ hN => (O.asg (O.nil hN))) ?_
          refine D.take (i := 7) rfl rfl rfl rfl (by kernel_rfl) (Ext.bare (Ext.new (Ext.new (Ext.refl (fun _ => True) _) e35 (fun _ _ _ => trivial)) e38 (fun _ _ _ => trivial))) ⟨pure _, rfl⟩ (fun w_ hw_ N_ hN => (O.asg (O.nil hN))) ?_
          refine D.done (by kernel_rfl) ?_
          refine hK29 _ _ ?_
          refine C.ret ?_
          refine Outs.cellA3 rfl Tryz.isAgg28 Tryz.sizeOf28 s2_1 rfl rfl hs38 rfl ?_
          first
          | exact ⟨slv p15, slv q15, o, (xv15, its), kc, true, rfl, (((r5_1.keep e35).keepM e38 (by intro k hk h; first | (have q1 := hF k hk; (try dsimp only at h); omega) | (have q1 := hF2 k hk; (try dsimp only at h); omega) | (have q1 := hFb k hk; (try dsimp only at h); omega) | ((try dsimp only at hk); (try dsimp only at h); omega)))).weak (by intro j hj; (try dsimp only at hj); (try dsimp only); omega), (((r6_1.keep e35).keepM e38 (by intro k hk h; first | (have q1 := hF k hk; (try dsimp only at h); omega) | (have q1 := hF2 k hk; (try dsimp only at h); omega) | (have q1 := hFb k hk; (try dsimp only at h); omega) | ((try dsimp only at hk); (try dsimp only at h); omega)))).weak (by intro j hj; (try dsimp only at hj); (try dsimp only); omega), (((hsi.keep e35).keepM e38 (by intro k hk h; first | (have q1 := hF k hk; (try dsimp only at h); omega) | (have q1 := hF2 k hk; (try dsimp only at h); omega) | (have q1 := hFb k hk; (try dsimp only at h); omega) | ((try dsimp only at hk); (try dsimp only at h); omega)))).weak (by intro j hj; (try dsimp only at hj); (try dsimp only); omega), ⟨by have := hnv15.1; show xv15.1.length ≤ 1000000; omega, by have := hnv15.2; show xv15.2.length ≤ 1000000; omega, by show its.length ≤ 1000000; omega, hB⟩, .inl ⟨rfl, ⟨hcv15, hR.2.1⟩, (Cn.Rd.cart hrv15 hcv15 hdn).yes c71⟩, (Ext.new (Ext.trans e_1 e35) e38 (by rintro i hi rfl; omega))⟩
          | exact ⟨_, _, _, Cn.nil0, 0, false, rfl, Sl.nil _ _ _, Sl.nil _ _ _, Sl.nil _ _ _, Cn.big_nil0, .inr ⟨rfl, rfl, rfl, (Cn.Rd.cart hrv15 hcv15 hdn).no c71⟩, (Ext.new (Ext.trans e_1 e35) e38 (by rintro i hi rfl; omega))⟩

end Go.Proofs.YtnkcmaoaagnopaaGreatDoor
end
