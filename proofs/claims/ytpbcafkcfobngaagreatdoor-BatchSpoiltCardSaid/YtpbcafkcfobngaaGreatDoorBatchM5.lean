/-
 The walks that read parts of a cart. Conditions: slices as they lie in memory.
-/
import Derived.Test.YtpbcafkcfobngaaGreatDoorCards
import Derived.Test.YtpbcafkcfobngaaGreatDoorTie
import Derived.Test.YtpbcafkcfobngaaGreatDoorBatchM4
set_option maxHeartbeats 16000000
section
namespace Go.Proofs.YtpbcafkcfobngaaGreatDoor
open Go.Pn Go.RowKit Go.Proofs _root_.Go.Proofs.Tryz
attribute [local irreducible] O C D
theorem Mx.keepM {M : Nat → Prop} {w w' : World} (h : Mx w) (e : Ext M w w') (hM : ¬ M 0) : Mx w' := by obtain ⟨m, hm⟩ := h.h; exact ⟨m, hm.keepM e hM⟩
theorem Mx.keepO {M : Nat → Prop} {w w' : World} (h : Mx w) (e : Ext M w w') (hM : ¬ M 0 := by intro h; (try dsimp only at h); omega) : Mx w' := h.keepM e hM
theorem Mx.lt {w : World} (h : Mx w) : 0 < w.heap.size := by obtain ⟨m, hm⟩ := h.h; exact hm.lt
theorem must_spec (e : Int) (w : World) :
 RetZ prog 266 #[.int .i64 (e)] w (fun v w' => v = .tuple #[] ∧ e = 0 ∧ Le w w') (fun ch w' => ch = [{ v := .iface 282 (.agg #[]), recovered := false }] ∧ e ≠ 0 ∧ Le w w') := by
 refine enterZ (args := [.int .i64 (e)]) (n := 6) func266 rfl rfl (leB rfl) (C.sr fun K1 => O.mv (O.neqI rfl rfl (K1 (C.condD rfl (fun c3 => ?_) (fun c3 => ?_)))))
 ·
  refine C.region (O.build (cells := #[]) rfl (by kernel_rfl) (O.mkI U282 rfl rfl (O.panics rfl ?_)))
  exact ⟨rfl, c3, (Le.refl _)⟩
 refine C.skip (Outs.none rfl ?_)
 exact ⟨rfl, by omega, (Le.refl _)⟩
theorem num_spec (b : Nat) (vr : Value) (l : List UInt8) (k : Nat) (F : Nat → Prop) (most : BitVec 64) (w : World) (ho : Own w b 234 [.bool true, vr, .int .i64 ((k : Int))]) (hl : Sl byteE w F vr l) (hk : k ≤ l.length) (hF : ∀ j, F j → j ≠ b ∧ j < w.heap.size) (hL : l.length ≤ 1000000) :
 RetZ prog 247 #[.pointer (some ⟨b, 0, none⟩), .int .u64 ((most).toNat : Int)] w (fun v w' => ∃ (n : BitVec 64) (k' : Nat), v = .int .u64 (n.toNat : Int) ∧ Own w' b 234 [.bool true, vr, .int .i64 ((k' : Int))] ∧ n.toNat ≤ most.toNat ∧ Cn.SegN n l k k' ∧ Ext (fun j => j = b) w w') (fun ch w' => ch = [{ v := .iface 282 (.agg #[]), recovered := false }] ∧ Cn.NumQ most.toNat l k ∧ Ext (fun j => j = b) w w') := by
 have _hF9 := hF
 have _hk9 := hk
 have hbl := ho.lt
 have hll := hl.le
 refine enterZ (args := [.pointer (some ⟨b, 0, none⟩), .int .u64 ((most).toNat : Int)]) (n := 16) func247 rfl rfl (leB rfl) (C.sr fun K1 => O.asg (K1 (C.sr fun K2 => O.mv (O.mv (O.call call129 (args2 rfl rfl) (rdNum_spec b vr l k F most _ ho hl hk (fun j hj => by have q1 := hF j hj; omega) hL) ?_)))))
 rintro v_10 w1 ⟨nv10, env10, knv10, rfl, hov10, hcv10, e1⟩
 have z1 := e1.size
 refine O.mv (O.extract rfl rfl (O.extract rfl rfl (O.asg (O.asg (K2 (C.sr fun K3 => O.mv (O.callZ call266 (args1 rfl) (must_spec _ _) (fun ch_ wz_ hz_ => ?_) ?_)))))))
 ·
  rcases hcv10 with ⟨q1, _⟩ | ⟨q1, q2, q3, q4⟩
  ·exact absurd q1 hz_.2.1
  ·exact ⟨hz_.1, q4, Ext.trans (Ext.nw (Ext.refl _ _) e1) (Le.to hz_.2.2)⟩
 rintro v_14 w2 ⟨rfl, hzv14, e2⟩
 have z2 := e2.size
 refine K3 (C.sr fun K4 => O.mv (O.asg (K4 (C.ret (Outs.one rfl rfl ?_)))))
 rcases hcv10 with ⟨q1, q2, q3⟩ | ⟨q1, _⟩
 ·exact ⟨nv10, knv10, rfl, (hov10.keep e2), q2, q3, (Ext.nw (Ext.nw (Ext.refl _ _) e1) e2)⟩
 ·exfalso; omega
theorem one_spec (b : Nat) (vr : Value) (l : List UInt8) (k : Nat) (F : Nat → Prop) (w : World) (ho : Own w b 234 [.bool true, vr, .int .i64 ((k : Int))]) (hl : Sl byteE w F vr l) (hk : k ≤ l.length) (hF : ∀ j, F j → j ≠ b ∧ j < w.heap.size) (hL : l.length ≤ 1000000) :
 RetZ prog 267 #[.pointer (some ⟨b, 0, none⟩)] w (fun v w' => ∃ (d : Dt.Dot) (k' : Nat), v = Dt.dv d ∧ Own w' b 234 [.bool true, vr, .int .i64 ((k' : Int))] ∧ Cn.dotQ d ∧ Cn.Seg (Cn.dotB d) l k k' ∧ Ext (fun j => j = b) w w') (fun ch w' => ch = [{ v := .iface 282 (.agg #[]), recovered := false }] ∧ Cn.No Cn.dotQ Cn.dotB l k ∧ Ext (fun j => j = b) w w') := by
 have _hF9 := hF
 have _hk9 := hk
 have hbl := ho.lt
 have hll := hl.le
 refine enterZ (args := [.pointer (some ⟨b, 0, none⟩)]) (n := 12) func267 rfl rfl (leB rfl) (C.sr fun K1 => O.alloc zeroValue112 (fun b2 w1 hb2 hz2 e1 => ?_))
 have z1 := e1.size
 have h2 := hz2.own
 have hl2 := h2.lt
 refine K1 (C.sr fun K2 => O.mv (O.callZ call247 (args2 rfl rfl) (num_spec b vr l k F 65535#64 _ (ho.keep e1) (hl.keep e1) hk (fun j hj => by have q1 := hF j hj; omega) hL) (fun ch_ wz_ hz_ => ?_) ?_))
 ·
  exact ⟨hz_.1, Cn.no_dot1 hz_.2.1, Ext.trans (Ext.nw (Ext.refl _ _) e1) hz_.2.2⟩
 rintro v_5 w2 ⟨nv5, knv5, rfl, hov5, hqv5, hsv5, e2⟩
 have z2 := e2.size
 refine O.asg (K2 (C.sr fun K3 => O.mv (O.convU64I U110 U3 rfl (O.mv (O.callZ call247 (args2 rfl rfl) (num_spec b vr l knv5 F 4294967295#64 _ hov5 ((hl.keep e1).keepA e2) hsv5.2.2 (fun j hj => by have q1 := hF j hj; omega) hL) (fun ch_ wz_ hz_ => ?_) ?_)))))
 ·
  exact ⟨hz_.1, Cn.no_dot2 hsv5 hqv5 hz_.2.1, Ext.trans (Ext.nw (Ext.nw (Ext.refl _ _) e1) e2) hz_.2.2⟩
 rintro v_9 w3 ⟨nv9, knv9, rfl, hov9, hqv9, hsv9, e3⟩
 have z3 := e3.size
 refine O.convU64I U110 U3 rfl (O.build (cells := #[.int .i64 nv5.toInt, .int .i64 nv9.toInt]) rfl (by kernel_rfl) (O.storeA (vs := [.int .i64 nv5.toInt, .int .i64 nv9.toInt]) Z112 rfl rfl rfl (by simp [Value.oneCell']) ((h2.keepO e2).keepO e3) (leB rfl) (fun w4 hs4 e4 z4 => K3 (C.ret (Outs.cellA rfl isAgg112 Z112 rfl hs4 rfl ?_)))))
 exact ⟨(nv5.toInt, nv9.toInt), knv9, rfl, (hov9.keepO e4), Cn.dotQ_mk hqv5 hqv9, Cn.seg_dot hsv5 hsv9, (Ext.nw (Ext.nw (Ext.nw (Ext.nw (Ext.refl _ _) e1) e2) e3) e4)⟩
theorem ddots_spec (b : Nat) (vr : Value) (l : List UInt8) (k : Nat) (F : Nat → Prop) (w : World) (ho : Own w b 234 [.bool true, vr, .int .i64 ((k : Int))]) (hl : Sl byteE w F vr l) (hk : k ≤ l.length) (hF : ∀ j, F j → j ≠ b ∧ j < w.heap.size) (hL : l.length ≤ 1000000) :
 RetZ prog 265 #[.pointer (some ⟨b, 0, none⟩)] w (fun v w' => ∃ (ds : List Dt.Dot) (k' : Nat), Own w' b 234 [.bool true, vr, .int .i64 ((k' : Int))] ∧ Fre Dt.dotF 112 w' (fun j => w.heap.size ≤ j ∧ j < w'.heap.size) v ds ∧ ds.length ≤ l.length ∧ Cn.manyQ Cn.dotQ ds ∧ Cn.Seg (Cn.manyB Cn.dotB ds) l k k' ∧ Ext (fun j => j = b) w w') (fun ch w' => ch = [{ v := .iface 282 (.agg #[]), recovered := false }] ∧ Cn.No (Cn.manyQ Cn.dotQ) (Cn.manyB Cn.dotB) l k ∧ Ext (fun j => j = b) w w') := by
 have _hF9 := hF
 have _hk9 := hk
 have hbl := ho.lt
 have hll := hl.le
 obtain ⟨ie112, ti112, ts112, tb112, tz112⟩ := inf112
 refine enterZ (args := [.pointer (some ⟨b, 0, none⟩)]) (n := 17) func265 rfl rfl (leB rfl) (C.sr fun K1 => O.asg (K1 (C.sr fun K2 => O.asg (K2 (C.sq fun K3 => C.sr fun K4 => O.mv (O.callZ call247 (args2 rfl rfl) (num_spec b vr l k F 18446744073709551615#64 _ ho hl hk (fun j hj => by have q1 := hF j hj; omega) hL) (fun ch_ wz_ hz_ => ?_) ?_))))))
 ·
  exact ⟨hz_.1, Cn.no_many1 (Cn.numA_of hz_.2.1 (by decide)) Cn.dotB_ge (by omega), Ext.trans (Ext.refl _ _) hz_.2.2⟩
 rintro v_6 w1 ⟨nv6, knv6, rfl, hov6, hqv6, hsv6, e1⟩
 have z1 := e1.size
 refine O.asg (K4 (C.bl fun K5 => C.loop0 (σ := List Dt.Dot × Value × Nat) (fun f0 w0 ⟨ds, vs, kc⟩ f wz => f 3 = vs ∧ f 4 = .int .u64 ((BitVec.ofNat 64 (nv6.toNat - ds.length)).toNat : Int) ∧ f 0 = f0 0 ∧ f 2 = f0 2 ∧ Ext (fun j => j = b) w wz ∧ Own wz b 234 [.bool true, vr, .int .i64 ((kc : Int))] ∧ OwnF Dt.dotF 112 w.heap.size wz vs ds ∧ ds.length ≤ nv6.toNat ∧ Cn.manyQ Cn.dotQ ds ∧ Cn.Seg (ds.flatMap Cn.dotB) l knv6 kc) (fun ⟨ds, vs, kc⟩ => nv6.toNat - ds.length) ([], .slice none 0 0, knv6) ?_ ?_))
 ·
  refine ⟨rfl, (Eq.trans rfl (congrArg (fun q : BitVec 64 => Value.int .u64 (q.toNat : Int)) (by simp))), rfl, rfl, (Ext.nw (Ext.refl _ _) e1), hov6, (OwnF.nil _ _ _ _), ?_⟩
  exact ⟨Nat.zero_le _, Cn.manyQ_nil, Cn.Seg.nil hsv6.2.2⟩
 rintro ⟨ds, vs, kc⟩ f_1 w2 ⟨s3_1, s4_1, s0_1, s2_1, e_1, r0_1, r1_1, ⟨hj, hQ, hS⟩⟩
 have z_1 := e_1.size
 have r1_1s := r1_1.sl
 have hln := Cn.seg_len Cn.dotB_ge hS
 have hNl := nv6.isLt
 refine C.sq fun K6 => C.sr fun K7 => O.mv (O.gtrU (m := 64) (b := 0#64) s4_1 rfl (K7 (C.condD rfl (fun c8 => ?_) (fun c8 => ?_))))
 ·
  have hj2 : ds.length < nv6.toNat := by have q := (Cn.pos_ofNat (m := nv6.toNat - ds.length) (by omega)).1 c8; omega
  refine C.skip (K6 (C.sq fun K8 => C.bl fun K9 => C.region (O.mv (O.mv (O.callZ call267 (args1 s0_1) (one_spec b vr l kc F _ r0_1 (hl.keepA e_1) hS.2.2 (fun j hj => by have q1 := hF j hj; omega) hL) (fun ch_ wz_ hz_ => ?_) ?_)))))
  ·
   exact ⟨hz_.1, Cn.no_many2 hsv6 Cn.pre_dotQ hQ hS hj2 hz_.2.1, Ext.trans (Ext.nw (Ext.refl _ _) e_1) hz_.2.2⟩
  rintro v_13 w3 ⟨dv13, knv13, rfl, hov13, hqv13, hsv13, e3⟩
  have z3 := e3.size
  refine O.litG (G := Dt.dotF) [dv13] U41 ti112 ts112 tz112 rfl (by decide) (by decide) rfl (fun b14 w4 hb14 hz14 e4 => ?_)
  have z4 := e4.size
  have h14 := hz14.own
  have hq14 := Sl.litG (n := 1) h14 rfl (by unfold maxLen; omega)
  have t0 := r1_1.keepM e3 (fun k hk h => by have := r1_1.bk_ge k hk; (try dsimp only at h); omega)
  refine O.appF (G := Dt.dotF) U41 ti112 tz112 ts112 rfl s3_1 rfl (t0.keep e4) hq14 (by rw [tb112]; simp; omega) (by unfold maxLen; simp; omega) (by omega) (fun v15 w5 h15 e5 => ?_)
  have e5m : Ext (fun j => w.heap.size ≤ j) w4 w5 := e5.mono (fun j _ hj => by have := (t0.keep e4).bk_ge j hj; omega)
  have z5 := e5.size
  have h15s := h15.sl
  refine O.asg (O.nil (K9 (K8 (C.region (O.mv (O.subU (m := 64) (b := 1#64) rfl rfl s4_1 rfl (O.asg (O.nil (⟨(ds ++ [dv13], v15, knv13), ⟨rfl, (Eq.trans rfl (congrArg (fun q : BitVec 64 => Value.int .u64 (q.toNat : Int)) (by rw [Cn.dec_ofNat (by omega) (by omega), List.length_append]; rfl))), s0_1, s2_1, (Ext.nw (Ext.nw (Ext.nw (Ext.nw (Ext.refl _ _) e_1) e3) e4) e5m), ((hov13.keep e4).keepM e5 (by intro h; have := (t0.keep e4).bk_ge _ h; omega)), h15, ?_⟩, by show nv6.toNat - (ds ++ [dv13]).length < nv6.toNat - ds.length; rw [List.length_append]; show nv6.toNat - (ds.length + 1) < _; omega⟩)))))))))
  exact ⟨by rw [List.length_append]; exact hj2, Cn.manyQ_snoc hQ hqv13, Cn.Seg.snoc hS hsv13⟩
 have hj3 : ds.length = nv6.toNat := by have q := mt (Cn.pos_ofNat (m := nv6.toNat - ds.length) (by omega)).2 c8; omega
 refine C.exit (K5 (K3 (C.sr fun K10 => O.mv (O.asg (K10 (C.ret (Outs.one rfl s3_1 ?_)))))))
 exact ⟨ds, kc, r0_1, (r1_1).fre (fun j hj => by have := (r1_1).bk_ge j hj; exact ⟨by omega, by omega⟩), by omega, hQ, Cn.seg_many hsv6 hS hj3, (Ext.nw (Ext.refl _ _) e_1)⟩
theorem dseen_spec (b : Nat) (vr : Value) (l : List UInt8) (k : Nat) (F : Nat → Prop) (w : World) (ho : Own w b 234 [.bool true, vr, .int .i64 ((k : Int))]) (hl : Sl byteE w F vr l) (hk : k ≤ l.length) (hF : ∀ j, F j → j ≠ b ∧ j < w.heap.size) (hL : l.length ≤ 1000000) :
 RetZ prog 246 #[.pointer (some ⟨b, 0, none⟩)] w (fun v w' => ∃ (v1 v2 : Value) (x : Cn.Ctx) (k' : Nat), v = .agg #[v1, v2] ∧ Own w' b 234 [.bool true, vr, .int .i64 ((k' : Int))] ∧ Fre Dt.dotF 112 w' (fun j => w.heap.size ≤ j ∧ j < w'.heap.size) v1 x.1 ∧ Fre Dt.dotF 112 w' (fun j => w.heap.size ≤ j ∧ j < w'.heap.size) v2 x.2 ∧ (x.1.length ≤ l.length ∧ x.2.length ≤ l.length) ∧ Cn.isCompact x = true ∧ Cn.Seg (Cn.ctxB x) l k k' ∧ Ext (fun j => j = b) w w') (fun ch w' => ch = [{ v := .iface 282 (.agg #[]), recovered := false }] ∧ Cn.No Cn.comp Cn.ctxB l k ∧ Ext (fun j => j = b) w w') := by
 have _hF9 := hF
 have _hk9 := hk
 have hbl := ho.lt
 have hll := hl.le
 refine enterZ (args := [.pointer (some ⟨b, 0, none⟩)]) (n := 16) func246 rfl rfl (leB rfl) (C.sr fun K1 => O.alloc zeroValue44 (fun b2 w1 hb2 hz2 e1 => ?_))
 have z1 := e1.size
 have h2 := hz2.own
 have hl2 := h2.lt
 refine K1 (C.sr fun K2 => O.mv (O.callZ call265 (args1 rfl) (ddots_spec b vr l k F _ (ho.keep e1) (hl.keep e1) hk (fun j hj => by have q1 := hF j hj; omega) hL) (fun ch_ wz_ hz_ => ?_) ?_))
 ·
  exact ⟨hz_.1, Cn.no_comp (Cn.no_ctx1 hz_.2.1), Ext.trans (Ext.nw (Ext.refl _ _) e1) hz_.2.2⟩
 rintro v_5 w2 ⟨dsv5, knv5, hov5, hlv5, hnv5, hqv5, hsv5, e2⟩
 have z2 := e2.size
 obtain ⟨p5, rfl⟩ := hlv5.slv
 have hls5 := hlv5.sl
 refine O.build (cells := #[slv p5, .slice none 0 0]) rfl (by kernel_rfl) (O.alloc zeroValue44 (fun b3 w3 hb3 hz3 e3 => ?_))
 have z3 := e3.size
 have h3 := hz3.own
 have hl3 := h3.lt
 refine O.storeA (vs := [slv p5, .slice none 0 0]) Z44 rfl rfl rfl (by simp [slv, Value.oneCell']) h3 (leB rfl) (fun w4 hs4 e4 z4 => K2 (C.sr fun K3 => O.mv (O.callZ call265 (args1 rfl) (ddots_spec b vr l knv5 F _ ((hov5.keep e3).keepO e4) ((((hl.keep e1).keepA e2).keep e3).keepA e4) hsv5.2.2 (fun j hj => by have q1 := hF j hj; omega) hL) (fun ch_ wz_ hz_ => ?_) ?_)))
 ·
  exact ⟨hz_.1, Cn.no_comp (Cn.no_ctx2 hsv5 hqv5 hz_.2.1), Ext.trans (Ext.nw (Ext.nw (Ext.nw (Ext.nw (Ext.refl _ _) e1) e2) e3) e4) hz_.2.2⟩
 rintro v_8 w5 ⟨dsv8, knv8, hov8, hlv8, hnv8, hqv8, hsv8, e5⟩
 have z5 := e5.size
 obtain ⟨p8, rfl⟩ := hlv8.slv
 have hls8 := hlv8.sl
 refine O.fa U44 rfl Z41 rfl (O.store Z41 rfl rfl rfl (hs4.keepO e5) (by simp) (fun w6 hs6 e6 z6 => ?_))
 try simp only [Nat.zero_add] at hs6
 refine K3 (C.sq fun K4 => C.sr fun K5 => O.loadOA isAgg44 Z44 rfl hs6 (leB rfl) (O.call call98 (args1 rfl) (isCompact_spec (slv p5) (slv p8) (dsv5, dsv8) (fun _ => True) _ ((((((hls5.keep e3).keepA e4).keepA e5).keepA e6)).weak fun _ _ => trivial) (((hls8.keepA e6)).weak fun _ _ => trivial)) ?_))
 rintro v_11 w7 ⟨rfl, e7⟩
 have z7 := e7.size
 refine O.not rfl (K5 (C.cond rfl (fun c12 => ?_) (fun c12 => ?_)))
 ·
  refine C.region (O.build (cells := #[]) rfl (by kernel_rfl) (O.mkI U282 rfl rfl (O.panics rfl ?_)))
  exact ⟨rfl, Cn.no_comp3 (Cn.seg_ctx hsv5 hsv8) ⟨hqv5, hqv8⟩ (by simpa using c12), (Ext.nw (Ext.nw (Ext.nw (Ext.nw (Ext.nw (Ext.nw (Ext.nw (Ext.refl _ _) e1) e2) e3) e4) e5) e6) e7)⟩
 refine C.skip (K4 (C.sr fun K6 => O.loadOA isAgg44 Z44 rfl (hs6.keep e7) (leB rfl) (O.storeA (vs := [slv p5, slv p8]) Z44 rfl rfl rfl (by simp [slv, Value.oneCell']) ((((((h2.keepO e2).keep e3).keepO e4).keepO e5).keepO e6).keep e7) (leB rfl) (fun w8 hs8 e8 z8 => K6 (C.ret (Outs.cellA rfl isAgg44 Z44 rfl hs8 rfl ?_))))))
 exact ⟨slv p5, slv p8, (dsv5, dsv8), knv8, rfl, (((hov8.keepO e6).keep e7).keepO e8), (((((((hlv5.keep e3).keepA e4).keepA e5).keepA e6).keep e7).keepA e8)).weakA, ((((hlv8.keepA e6).keep e7).keepA e8)).weakA, ⟨hnv5, hnv8⟩, by simpa using c12, Cn.seg_ctx hsv5 hsv8, (Ext.nw (Ext.nw (Ext.nw (Ext.nw (Ext.nw (Ext.nw (Ext.nw (Ext.nw (Ext.refl _ _) e1) e2) e3) e4) e5) e6) e7) e8)⟩
theorem ditem_spec (b : Nat) (vr : Value) (l : List UInt8) (k : Nat) (F : Nat → Prop) (w : World) (ho : Own w b 234 [.bool true, vr, .int .i64 ((k : Int))]) (hl : Sl byteE w F vr l) (hk : k ≤ l.length) (hF : ∀ j, F j → j ≠ b ∧ j < w.heap.size) (hL : l.length ≤ 1000000) :
 RetZ prog 248 #[.pointer (some ⟨b, 0, none⟩)] w (fun v w' => ∃ (s : List UInt8) (vm : Value) (ms : List MarkT) (k' : Nat), v = .agg #[str s, vm] ∧ Own w' b 234 [.bool true, vr, .int .i64 ((k' : Int))] ∧ Fre markF 114 w' (fun j => w.heap.size ≤ j ∧ j < w'.heap.size) vm ms ∧ ms.length ≤ l.length ∧ Cn.itemQ (s, ms) ∧ Cn.Seg (Cn.itemB (s, ms)) l k k' ∧ Ext (fun j => j = b) w w') (fun ch w' => ch = [{ v := .iface 282 (.agg #[]), recovered := false }] ∧ Cn.No Cn.itemQ Cn.itemB l k ∧ Ext (fun j => j = b) w w') := by
 have _hF9 := hF
 have _hk9 := hk
 have hbl := ho.lt
 have hll := hl.le
 obtain ⟨ie114, ti114, ts114, tb114, tz114⟩ := inf114
 refine enterZ (args := [.pointer (some ⟨b, 0, none⟩)]) (n := 40) func248 rfl rfl (leB rfl) (C.sr fun K1 => O.alloc zeroValue117 (fun b2 w1 hb2 hz2 e1 => ?_))
 have z1 := e1.size
 have h2 := hz2.own
 have hl2 := h2.lt
 refine K1 (C.sr fun K2 => O.mv (O.call call130 (args2 rfl rfl) (rdStr_spec b vr l k F 64 _ (ho.keep e1) (hl.keep e1) hk (fun j hj => by have q1 := hF j hj; omega) hL (by unfold InI; omega)) ?_))
 rintro v_10 w2 ⟨nv10, env10, knv10, rfl, hov10, hcv10, e2⟩
 have z2 := e2.size
 refine O.mv (O.extract rfl rfl (O.extract rfl rfl (O.asg (O.asg (K2 (C.sr fun K3 => O.mv (O.callZ call266 (args1 rfl) (must_spec _ _) (fun ch_ wz_ hz_ => ?_) ?_)))))))
 ·
  rcases hcv10 with ⟨q1, _⟩ | ⟨q1, q2, q4⟩
  ·exact absurd q1 hz_.2.1
  ·exact ⟨hz_.1, Cn.no_item1 q4, Ext.trans (Ext.nw (Ext.nw (Ext.refl _ _) e1) e2) (Le.to hz_.2.2)⟩
 rintro v_14 w3 ⟨rfl, hzv14, e3⟩
 have z3 := e3.size
 obtain ⟨q1, hnm, hsg10⟩ : env10 = 0 ∧ Cn.nameQ nv10 ∧ Cn.Seg (Cn.strB nv10) l k knv10 := by
  rcases hcv10 with ⟨q1, q2, q3⟩ | ⟨q1, _⟩
  ·exact ⟨q1, q2, q3⟩
  ·exfalso; omega
 refine K3 (C.sr fun K4 => O.mv (O.build (cells := #[str nv10, .slice none 0 0]) rfl (by kernel_rfl) (O.alloc zeroValue117 (fun b5 w4 hb5 hz5 e4 => ?_))))
 have z4 := e4.size
 have h5 := hz5.own
 have hl5 := h5.lt
 refine O.storeA (vs := [str nv10, .slice none 0 0]) Z117 rfl rfl rfl (ones2 rfl) h5 (leB rfl) (fun w5 hs5 e5 z5 => K4 (C.sq fun K5 => C.sr fun K6 => O.mv (O.callZ call247 (args2 rfl rfl) (num_spec b vr l knv10 F 18446744073709551615#64 _ (((hov10.keep e3).keep e4).keepO e5) (((((hl.keep e1).keepA e2).keep e3).keep e4).keepA e5) hsg10.2.2 (fun j hj => by have q1 := hF j hj; omega) hL) (fun ch_ wz_ hz_ => ?_) ?_)))
 ·
  exact ⟨hz_.1, Cn.no_item2 hsg10 hnm (Cn.no_many1 (Cn.numA_of hz_.2.1 (by decide)) Cn.markB_ge (by omega)), Ext.trans (Ext.nw (Ext.nw (Ext.nw (Ext.nw (Ext.nw (Ext.refl _ _) e1) e2) e3) e4) e5) hz_.2.2⟩
 rintro v_18 w6 ⟨nv18, knv18, rfl, hov18, hqv18, hsv18, e6⟩
 have z6 := e6.size
 refine O.asg (K6 (C.bl fun K7 => C.loop0 (σ := List MarkT × Value × Nat) (fun f0 w0 ⟨ms, vm, kc⟩ f wz => f 6 = .int .u64 ((BitVec.ofNat 64 (nv18.toNat - ms.length)).toNat : Int) ∧ f 0 = f0 0 ∧ f 2 = f0 2 ∧ f 5 = f0 5 ∧ Ext (fun j => j = b) w wz ∧ Own wz b 234 [.bool true, vr, .int .i64 ((kc : Int))] ∧ Own wz b2 117 [str [], .slice none 0 0] ∧ Own wz b5 117 [str nv10, vm] ∧ OwnF markF 114 (b5 + 1) wz vm ms ∧ ms.length ≤ nv18.toNat ∧ Cn.manyQ Cn.markQ ms ∧ Cn.Seg (ms.flatMap Cn.markB) l knv18 kc) (fun ⟨ms, vm, kc⟩ => nv18.toNat - ms.length) ([], .slice none 0 0, knv18) ?_ ?_))
 ·
  refine ⟨(Eq.trans rfl (congrArg (fun q : BitVec 64 => Value.int .u64 (q.toNat : Int)) (by simp))), rfl, rfl, rfl, (Ext.nw (Ext.nw (Ext.nw (Ext.nw (Ext.nw (Ext.nw (Ext.refl _ _) e1) e2) e3) e4) e5) e6), hov18, (((((h2.keepO e2).keep e3).keep e4).keepO e5).keepO e6), (hs5.keepO e6), (OwnF.nil _ _ _ _), ?_⟩
  exact ⟨Nat.zero_le _, Cn.manyQ_nil, Cn.Seg.nil hsv18.2.2⟩
 rintro ⟨ms, vm, kc⟩ f_1 w7 ⟨s6_1, s0_1, s2_1, s5_1, e_1, r0_1, r1_1, r2_1, r3_1, ⟨hj, hQ, hS⟩⟩
 have z_1 := e_1.size
 have r3_1s := r3_1.sl
 have hln := Cn.seg_len Cn.markB_ge hS
 have hNl := nv18.isLt
 have hvm1 := (r3_1).one
 have hbl5 := (r2_1).lt
 have hbl2 := (r1_1).lt
 refine C.sq fun K8 => C.sr fun K9 => O.mv (O.gtrU (m := 64) (b := 0#64) s6_1 rfl (K9 (C.condD rfl (fun c20 => ?_) (fun c20 => ?_))))
 ·
  have hj2 : ms.length < nv18.toNat := by have q := (Cn.pos_ofNat (m := nv18.toNat - ms.length) (by omega)).1 c20; omega
  refine C.skip (K8 (C.sq fun K10 => C.bl fun K11 => C.sr fun K12 => O.mv (O.callZ call267 (args1 s0_1) (one_spec b vr l kc F _ r0_1 (hl.keepA e_1) hS.2.2 (fun j hj => by have q1 := hF j hj; omega) hL) (fun ch_ wz_ hz_ => ?_) ?_)))
  ·
   exact ⟨hz_.1, Cn.no_item2 hsg10 hnm (Cn.no_many2 hsv18 Cn.pre_markQ hQ hS hj2 (Cn.no_mark1 hz_.2.1)), Ext.trans (Ext.nw (Ext.refl _ _) e_1) hz_.2.2⟩
  rintro v_24 w8 ⟨dv24, knv24, rfl, hov24, hqv24, hsv24, e8⟩
  have z8 := e8.size
  refine O.build (cells := #[.int .i64 dv24.1, .int .i64 dv24.2, .int .i64 0, .int .u64 0]) rfl (by kernel_rfl) (O.alloc zeroValue114 (fun b7 w9 hb7 hz7 e9 => ?_))
  have z9 := e9.size
  have h7 := hz7.own
  have hl7 := h7.lt
  refine O.storeA (vs := [.int .i64 dv24.1, .int .i64 dv24.2, .int .i64 0, .int .u64 0]) Z114 rfl rfl rfl (by simp [Value.oneCell']) h7 (leB rfl) (fun w10 hs10 e10 z10 => K12 (C.sr fun K13 => O.mv ?_))
  have t0 := ((hl.keepA e_1).keepA e8).keep e9
  refine O.callZ call247 (args2 s0_1 rfl) (num_spec b vr l knv24 F 2147483647#64 _ ((hov24.keep e9).keepO e10) (t0.keepA e10) hsv24.2.2 (fun j hj => by have q1 := hF j hj; omega) hL) (fun ch_ wz_ hz_ => ?_) ?_
  ·
   exact ⟨hz_.1, Cn.no_item2 hsg10 hnm (Cn.no_many2 hsv18 Cn.pre_markQ hQ hS hj2 (Cn.no_mark2 hsv24 hqv24 hz_.2.1)), Ext.trans (Ext.nw (Ext.nw (Ext.nw (Ext.nw (Ext.refl _ _) e_1) e8) e9) e10) hz_.2.2⟩
  rintro v_27 w11 ⟨nv27, knv27, rfl, hov27, hqv27, hsv27, e11⟩
  have z11 := e11.size
  refine O.convU64I U110 U3 rfl (O.fa U114 rfl Z3 rfl (O.store Z3 rfl rfl rfl (hs10.keepO e11) (by simp) (fun w12 hs12 e12 z12 => ?_)))
  try simp only [Nat.zero_add] at hs12
  refine K13 (C.sr fun K14 => O.mv (O.callZ call247 (args2 s0_1 rfl) (num_spec b vr l knv27 F 18446744073709551615#64 _ (hov27.keepO e12) (((t0.keepA e10).keepA e11).keepA e12) hsv27.2.2 (fun j hj => by have q1 := hF j hj; omega) hL) (fun ch_ wz_ hz_ => ?_) ?_))
  ·
   exact ⟨hz_.1, Cn.no_item2 hsg10 hnm (Cn.no_many2 hsv18 Cn.pre_markQ hQ hS hj2 (Cn.no_mark3 hsv24 hqv24 hsv27 hqv27 (Cn.numA_of hz_.2.1 (by decide)))), Ext.trans (Ext.nw (Ext.nw (Ext.nw (Ext.nw (Ext.nw (Ext.nw (Ext.refl _ _) e_1) e8) e9) e10) e11) e12) hz_.2.2⟩
  rintro v_31 w13 ⟨nv31, knv31, rfl, hov31, hqv31, hsv31, e13⟩
  have z13 := e13.size
  refine O.fa U114 rfl Z110 rfl (O.store Z110 rfl rfl rfl (hs12.keepO e13) (by simp) (fun w14 hs14 e14 z14 => ?_))
  try simp only [Nat.zero_add] at hs14
  refine K14 (C.region (O.fa U117 rfl Z115 s5_1 (O.loadO isAgg115 rfl (((((((r2_1.keepO e8).keep e9).keepO e10).keepO e11).keepO e12).keepO e13).keepO e14) rfl (O.loadOA isAgg114 Z114 rfl hs14 (leB rfl) (O.cast (v' := mv (dv24, nv27.toInt, nv31)) rfl (O.litG (G := markF) [(dv24, nv27.toInt, nv31)] U115 ti114 ts114 tz114 rfl (by decide) (by decide) rfl (fun b36 w15 hb36 hz36 e15 => ?_)))))))
  have z15 := e15.size
  have h36 := hz36.own
  have hq36 := Sl.litG (n := 1) h36 rfl (by unfold maxLen; omega)
  have t1 := r3_1.keepM e8 (fun k hk h => by have := r3_1.bk_ge k hk; (try dsimp only at h); omega)
  have t2 := (t1.keep e9).keepM e10 (fun k hk h => by have := r3_1.bk_ge k hk; (try dsimp only at h); omega)
  have t3 := t2.keepM e11 (fun k hk h => by have := r3_1.bk_ge k hk; (try dsimp only at h); omega)
  have t4 := t3.keepM e12 (fun k hk h => by have := r3_1.bk_ge k hk; (try dsimp only at h); omega)
  have t5 := t4.keepM e13 (fun k hk h => by have := r3_1.bk_ge k hk; (try dsimp only at h); omega)
  have t6 := t5.keepM e14 (fun k hk h => by have := r3_1.bk_ge k hk; (try dsimp only at h); omega)
  refine O.appF (G := markF) U115 ti114 tz114 ts114 rfl rfl rfl (t6.keep e15) hq36 (by rw [tb114]; simp; omega) (by unfold maxLen; simp; omega) (by omega) (fun v37 w16 h37 e16 => ?_)
  have e16m : Ext (fun j => w.heap.size ≤ j) w15 w16 := e16.mono (fun j _ hj => by have := (t6.keep e15).bk_ge j hj; omega)
  have z16 := e16.size
  have h37s := h37.sl
  refine O.fa U117 rfl Z115 s5_1 (O.store Z115 rfl rfl h37.one (((((((((r2_1.keepO e8).keep e9).keepO e10).keepO e11).keepO e12).keepO e13).keepO e14).keep e15).keepM e16 (by intro h; have := (t6.keep e15).bk_ge _ h; omega)) (by simp) (fun w17 hs17 e17 z17 => ?_))
  try simp only [Nat.zero_add] at hs17
  refine O.nil (K11 (K10 (C.region (O.mv (O.subU (m := 64) (b := 1#64) rfl rfl s6_1 rfl (O.asg (O.nil ?_)))))))
  refine ⟨(ms ++ [(dv24, nv27.toInt, nv31)], v37, knv31), ⟨(Eq.trans rfl (congrArg (fun q : BitVec 64 => Value.int .u64 (q.toNat : Int)) (by rw [Cn.dec_ofNat (by omega) (by omega), List.length_append]; rfl))), s0_1, s2_1, s5_1, (Ext.nw (Ext.nw (Ext.nw (Ext.nw (Ext.nw (Ext.nw (Ext.nw (Ext.nw (Ext.nw (Ext.nw (Ext.nw (Ext.refl _ _) e_1) e8) e9) e10) e11) e12) e13) e14) e15) e16m) e17), ((((hov31.keepO e14).keep e15).keepM e16 (by intro h; have := (t6.keep e15).bk_ge _ h; omega)).keepO e17), ((((((((((r1_1.keepO e8).keep e9).keepO e10).keepO e11).keepO e12).keepO e13).keepO e14).keep e15).keepM e16 (by intro h; have := (t6.keep e15).bk_ge _ h; omega)).keepO e17), hs17, (h37.keepM e17 (fun k hk h => by have := h37.bk_ge k hk; (try dsimp only at h); omega)), ?_⟩, by show nv18.toNat - (ms ++ [_]).length < nv18.toNat - ms.length; rw [List.length_append]; show nv18.toNat - (ms.length + 1) < _; omega⟩
  exact ⟨by rw [List.length_append]; exact hj2, Cn.manyQ_snoc hQ (Cn.markQ_mk hqv24 hqv27), Cn.Seg.snoc hS (Cn.seg_mark hsv24 hsv27 hsv31)⟩
 have hj3 : ms.length = nv18.toNat := by have q := mt (Cn.pos_ofNat (m := nv18.toNat - ms.length) (by omega)).2 c20; omega
 refine C.exit (K7 (K5 (C.sr fun K15 => O.loadOA isAgg117 Z117 s5_1 r2_1 (leB rfl) (O.storeA (vs := [str nv10, vm]) Z117 rfl s2_1 rfl (ones2 hvm1) r1_1 (leB rfl) (fun w18 hs18 e18 z18 => K15 (C.ret (Outs.cellA rfl isAgg117 Z117 s2_1 hs18 rfl ?_)))))))
 have t7 := r3_1.keepM e18 (fun k hk h => by have := r3_1.bk_ge k hk; (try dsimp only at h); omega)
 exact ⟨nv10, vm, ms, kc, rfl, (r0_1.keepO e18), (t7).fre (fun j hj => by have := (t7).bk_ge j hj; exact ⟨by omega, by omega⟩), by omega, Cn.itemQ_mk hnm hQ, Cn.seg_item hsg10 (Cn.seg_many hsv18 hS hj3), (Ext.nw (Ext.nw (Ext.refl _ _) e_1) e18)⟩
theorem dwhole_spec (b : Nat) (vr : Value) (l : List UInt8) (k : Nat) (F : Nat → Prop) (w : World) (ho : Own w b 234 [.bool true, vr, .int .i64 ((k : Int))]) (hl : Sl byteE w F vr l) (hk : k ≤ l.length) (hF : ∀ j, F j → j ≠ b ∧ j < w.heap.size) (hL : l.length ≤ 1000000) (mx : Mx w) (hgb : b ≠ 0) :
 RetZ prog 195 #[.pointer (some ⟨b, 0, none⟩)] w (fun v w' => ∃ (v1 v2 v3 : Value) (c : Cn.Cart) (k' : Nat), v = .agg #[v1, v2, v3] ∧ Own w' b 234 [.bool true, vr, .int .i64 ((k' : Int))] ∧ Fre Dt.dotF 112 w' (fun j => w.heap.size ≤ j ∧ j < w'.heap.size) v1 c.1.1 ∧ Fre Dt.dotF 112 w' (fun j => w.heap.size ≤ j ∧ j < w'.heap.size) v2 c.1.2 ∧ SlI 117 114 w' (fun j => w.heap.size ≤ j ∧ j < w'.heap.size) v3 c.2 ∧ Cn.big c ∧ Cn.valid c = true ∧ Cn.Seg (Cn.bytes c) l k k' ∧ Ext (fun j => j = b) w w') (fun ch w' => ch = [{ v := .iface 282 (.agg #[]), recovered := false }] ∧ Cn.No Cn.val Cn.bytes l k ∧ Ext (fun j => j = b) w w') := by
 have _hF9 := hF
 have _hk9 := hk
 have hbl := ho.lt
 have hll := hl.le
 obtain ⟨ie117, ti117, ts117, tb117, tz117⟩ := inf117
 have hgl := mx.lt
 refine enterZ (args := [.pointer (some ⟨b, 0, none⟩)]) (n := 27) func195 rfl rfl (leB rfl) (C.sr fun K1 => O.alloc zeroValue47 (fun b2 w1 hb2 hz2 e1 => ?_))
 have z1 := e1.size
 have h2 := hz2.own
 have hl2 := h2.lt
 refine K1 (C.sr fun K2 => O.mv (O.callZ call246 (args1 rfl) (dseen_spec b vr l k F _ (ho.keep e1) (hl.keep e1) hk (fun j hj => by have q1 := hF j hj; omega) hL) (fun ch_ wz_ hz_ => ?_) ?_))
 ·
  exact ⟨hz_.1, Cn.no_val (Cn.no_cart1 hz_.2.1), Ext.trans (Ext.nw (Ext.refl _ _) e1) hz_.2.2⟩
 rintro v_6 w2 ⟨vav6, vbv6, xv6, knv6, rfl, hov6, hxv6, hyv6, hnv6, hcv6, hsv6, e2⟩
 have z2 := e2.size
 obtain ⟨p6, rfl⟩ := hxv6.slv
 obtain ⟨q6, rfl⟩ := hyv6.slv
 have hxs6 := hxv6.sl
 have hys6 := hyv6.sl
 refine O.build (cells := #[slv p6, slv q6, .slice none 0 0]) rfl (by kernel_rfl) (O.alloc zeroValue47 (fun b3 w3 hb3 hz3 e3 => ?_))
 have z3 := e3.size
 have h3 := hz3.own
 have hl3 := h3.lt
 refine O.storeA (vs := [slv p6, slv q6, .slice none 0 0]) Z47 rfl rfl rfl (by simp [slv, Value.oneCell']) h3 (leB rfl) (fun w4 hs4 e4 z4 => K2 (C.sq fun K3 => C.sr fun K4 => O.mv (O.callZ call247 (args2 rfl rfl) (num_spec b vr l knv6 F 18446744073709551615#64 _ ((hov6.keep e3).keepO e4) ((((hl.keep e1).keepA e2).keep e3).keepA e4) hsv6.2.2 (fun j hj => by have q1 := hF j hj; omega) hL) (fun ch_ wz_ hz_ => ?_) ?_)))
 ·
  exact ⟨hz_.1, Cn.no_val (Cn.no_cart2 hsv6 hcv6 (Cn.no_many1 (Cn.numA_of hz_.2.1 (by decide)) Cn.itemB_ge (by omega))), Ext.trans (Ext.nw (Ext.nw (Ext.nw (Ext.nw (Ext.refl _ _) e1) e2) e3) e4) hz_.2.2⟩
 rintro v_9 w5 ⟨nv9, knv9, rfl, hov9, hqv9, hsv9, e5⟩
 have z5 := e5.size
 refine O.asg (K4 (C.bl fun K5 => ?_))
 refine C.loop0 (σ := List ItemT × List (List UInt8 × (Option Addr × Nat × Nat)) × Value × Nat) (fun f0 w0 ⟨its, raw, o, kc⟩ f wz => f 4 = .int .u64 ((BitVec.ofNat 64 (nv9.toNat - its.length)).toNat : Int) ∧ f 0 = f0 0 ∧ f 2 = f0 2 ∧ f 3 = f0 3 ∧ Ext (fun j => j = b) w wz ∧ Own wz b 234 [.bool true, vr, .int .i64 ((kc : Int))] ∧ Own wz b2 47 [.slice none 0 0, .slice none 0 0, .slice none 0 0] ∧ Own wz b3 47 [slv p6, slv q6, o] ∧ OwnF itemF 117 (b3 + 1) wz o raw ∧ ItemsF 114 wz (fun j => b3 < j ∧ j < wz.heap.size ∧ ¬ bk o j) raw its ∧ Sl Dt.dotF.enc wz (fun j => b2 < j ∧ j < b3) (slv p6) xv6.1 ∧ Sl Dt.dotF.enc wz (fun j => b2 < j ∧ j < b3) (slv q6) xv6.2 ∧ Fre Dt.dotF 112 wz (fun j => b2 < j ∧ j < b3) (slv p6) xv6.1 ∧ Fre Dt.dotF 112 wz (fun j => b2 < j ∧ j < b3) (slv q6) xv6.2 ∧ its.length ≤ nv9.toNat ∧ Cn.manyQ Cn.itemQ its ∧ (∀ x ∈ its, x.2.length ≤ 1000000) ∧ Cn.Seg (its.flatMap Cn.itemB) l knv9 kc) (fun ⟨its, raw, o, kc⟩ => nv9.toNat - its.length) ([], [], .slice none 0 0, knv9) ?_ ?_
 ·
  refine ⟨(Eq.trans rfl (congrArg (fun q : BitVec 64 => Value.int .u64 (q.toNat : Int)) (by simp))), rfl, rfl, rfl, (Ext.nw (Ext.nw (Ext.nw (Ext.nw (Ext.nw (Ext.refl _ _) e1) e2) e3) e4) e5), hov9, ((((h2.keepO e2).keep e3).keepO e4).keepO e5), (hs4.keepO e5), (OwnF.nil _ _ _ _), ItemsF.nil, (((((hxs6.keep e3).keepA e4).keepA e5)).weakA), (((((hys6.keep e3).keepA e4).keepA e5)).weakA), (((((hxv6.keep e3).keepA e4).keepA e5)).weakA), (((((hyv6.keep e3).keepA e4).keepA e5)).weakA), ?_⟩
  exact ⟨Nat.zero_le _, Cn.manyQ_nil, Cn.manyQ_nil, Cn.Seg.nil hsv9.2.2⟩
 rintro ⟨its, raw, o, kc⟩ f_1 w6 ⟨s4_1, s0_1, s2_1, s3_1, e_1, r0_1, r1_1, r2_1, r3_1, r4_1, r5_1, r6_1, r7_1, r8_1, ⟨hj, hQ, hI, hS⟩⟩
 have z_1 := e_1.size
 have r3_1s := r3_1.sl
 obtain ⟨wL, hwL⟩ : ∃ x, x = w6 := ⟨_, rfl⟩
 have hzL : wL.heap.size = w6.heap.size := by rw [hwL]
 have hln := Cn.seg_len Cn.itemB_ge hS
 have hNl := nv9.isLt
 have ho1 := (r3_1).one
 have hbl3 := (r2_1).lt
 have hbl2 := (r1_1).lt
 have hit := r4_1
 have hitl := hit.1
 have hob := (r3_1).bk_ge
 refine C.sq fun K6 => C.sr fun K7 => O.mv (O.gtrU (m := 64) (b := 0#64) s4_1 rfl (K7 (C.condD rfl (fun c11 => ?_) (fun c11 => ?_))))
 ·
  have hj2 : its.length < nv9.toNat := by have q := (Cn.pos_ofNat (m := nv9.toNat - its.length) (by omega)).1 c11; omega
  refine C.skip (K6 (C.sq fun K8 => C.bl fun K9 => C.drawB (wB := (bare w6)) (by kernel_rfl) fun w7 e7 => ?_))
  have z7 := e7.size
  refine D.t 0 rfl (Ext.bare (Ext.nt (Ext.refl (fun _ => True) _) e7)) (fun _ _ _ hN => O.fa U47 rfl Z45 s3_1 (O.nil hN)) (D.mv 2 rfl (Ext.bare (Ext.nt (Ext.refl (fun _ => True) _) e7)) (D.many [1, 3] (by kernel_rfl) (by decide) ⟨?_, ?_, trivial⟩))
  ·
   refine D.stepU rfl rfl (O.loadO isAgg45 rfl (r2_1.keep e7) rfl (O.nil ⟨(Ext.bare (Ext.nt (Ext.refl (fun _ => True) _) e7)), D.on 3 rfl rfl (O.callZ call248 (args1 s0_1) (ditem_spec b vr l kc F _ (r0_1.keep e7) ((hl.keepA e_1).keep e7) hS.2.2 (fun j hj => by have q1 := hF j hj; omega) hL) (fun ch_ wz_ hz_ => ?_) ?_)⟩))
   ·
    exact ⟨hz_.1, Cn.no_val (Cn.no_cart2 hsv6 hcv6 (Cn.no_many2 hsv9 Cn.pre_itemQ hQ hS hj2 hz_.2.1)), Ext.trans (Ext.nw (Ext.nw (Ext.refl _ _) e_1) e7) hz_.2.2⟩
   rintro v_17 w8 ⟨sv17, vmv17, msv17, knv17, rfl, hov17, hmv17, hnv17, hqv17, hsv17, e8⟩
   have z8 := e8.size
   refine O.nil ⟨(Ext.bare (Ext.nt (Ext.nt (Ext.refl (fun _ => True) _) e7) e8)), ?_⟩
   obtain ⟨p17, rfl⟩ := hmv17.slv
   refine D.on 4 rfl rfl (O.litG (G := itemF) [(sv17, p17)] U45 ti117 ts117 tz117 rfl (by decide) (by decide) rfl (fun b18 w9 hb18 hz18 e9 => ?_))
   have z9 := e9.size
   have h18 := hz18.own
   have hq18 := Sl.litG (n := 1) h18 rfl (by unfold maxLen; omega)
   refine O.nil ⟨(Ext.bare (Ext.nt (Ext.nt (Ext.nt (Ext.refl (fun _ => True) _) e7) e8) e9)), D.on 5 rfl rfl ?_⟩
   have t0 := (r3_1.keep e7).keepM e8 (fun k hk h => by have := r3_1.bk_ge k hk; (try dsimp only at h); omega)
   refine O.appW (G := itemF) U45 ti117 tz117 ts117 rfl rfl rfl (t0.keep e9) hq18 (by rw [tb117, hit.1]; simp; omega) (by unfold maxLen; rw [hit.1]; simp; omega) (by omega) (fun v19 w10 h19 e10 hw19 => ?_)
   have e10m : Ext (fun j => w.heap.size ≤ j) w9 w10 := e10.mono (fun j _ hj => by have := (t0.keep e9).bk_ge j hj; omega)
   have z10 := e10.size
   have h19s := h19.sl
   refine O.nil ⟨(Ext.bare (Ext.nt (Ext.nt (Ext.nt (Ext.nt (Ext.refl (fun _ => True) _) e7) e8) e9) e10)), ?_⟩
   have hit19 : ItemsF 114 w10 (fun j => b3 < j ∧ j < w10.heap.size ∧ ¬ bk v19 j) (raw ++ [(sv17, p17)]) (its ++ [(sv17, msv17)]) := ((((((r4_1.keep e7).keepA e8).keep e9).keepM e10 (fun j hj h => hj.2.2 h))).weak (fun j hj => ⟨hj.1, by have := hj.2.1; omega, fun hq => by
    rcases hw19 j hq with q | q
    ·exact hj.2.2 q
    ·have := hj.2.1; omega⟩)).snoc (x := (sv17, msv17)) rfl ((((hmv17.keep e9).keepM e10 (by intro j hj h; have q2 := hob j h; (try dsimp only at hj); omega))).weak (by
 intro j hj
 (try dsimp only at hj)
 refine ⟨by omega, by omega, fun hq => ?_⟩
 rcases hw19 j hq with q | q
 ·have := hob j q; omega
 ·omega))
   refine D.t 6 rfl (Ext.bare (Ext.nt (Ext.nt (Ext.nt (Ext.nt (Ext.refl (fun _ => True) _) e7) e8) e9) e10)) (fun _ _ _ hN => O.fa U47 rfl Z45 s3_1 (O.nil hN)) (D.on 7 rfl rfl (O.store Z45 rfl rfl h19.one ((((r2_1.keep e7).keepO e8).keep e9).keepM e10 (by intro h; have := (t0.keep e9).bk_ge _ h; omega)) (by simp) (fun w11 hs11 e11 z11 => ?_)))
   try simp only [Nat.zero_add] at hs11
   refine O.nil ⟨(Ext.bare (Ext.nt (Ext.nt (Ext.nt (Ext.nt (Ext.nt (Ext.refl (fun _ => True) _) e7) e8) e9) e10) e11)), D.dn (K9 (K8 (C.region (O.mv (O.subU (m := 64) (b := 1#64) rfl rfl s4_1 rfl (O.asg (O.nil ?_)))))))⟩
   refine ⟨(its ++ [(sv17, msv17)], raw ++ [(sv17, p17)], v19, knv17), ⟨(Eq.trans rfl (congrArg (fun q : BitVec 64 => Value.int .u64 (q.toNat : Int)) (by rw [Cn.dec_ofNat (by omega) (by omega), List.length_append]; rfl))), s0_1, s2_1, s3_1, (Ext.nw (Ext.nw (Ext.nw (Ext.nw (Ext.nw (Ext.nw (Ext.refl _ _) e_1) e7) e8) e9) e10m) e11), (((hov17.keep e9).keepM e10 (by intro h; have := (t0.keep e9).bk_ge _ h; omega)).keepO e11), (((((r1_1.keep e7).keepO e8).keep e9).keepM e10 (by intro h; have := (t0.keep e9).bk_ge _ h; omega)).keepO e11), hs11, (h19.keepM e11 (fun k hk h => by have := h19.bk_ge k hk; (try dsimp only at h); omega)), (((hit19.keepA e11)).weak (fun j hj => ⟨hj.1, by have := hj.2.1; omega, hj.2.2⟩)), (((((r5_1.keep e7).keepA e8).keep e9).keepM e10 (by intro j hj h; have q2 := (t0.keep e9).bk_ge j h; first | (have q1 := hF j hj; omega) | ((try dsimp only at hj); omega))).keepA e11), (((((r6_1.keep e7).keepA e8).keep e9).keepM e10 (by intro j hj h; have q2 := (t0.keep e9).bk_ge j h; first | (have q1 := hF j hj; omega) | ((try dsimp only at hj); omega))).keepA e11), (((((r7_1.keep e7).keepA e8).keep e9).keepM e10 (by intro j hj h; have q2 := (t0.keep e9).bk_ge j h; first | (have q1 := hF j hj; omega) | ((try dsimp only at hj); omega))).keepA e11), (((((r8_1.keep e7).keepA e8).keep e9).keepM e10 (by intro j hj h; have q2 := (t0.keep e9).bk_ge j h; first | (have q1 := hF j hj; omega) | ((try dsimp only at hj); omega))).keepA e11), ?_⟩, by show nv9.toNat - (its ++ [_]).length < nv9.toNat - its.length; rw [List.length_append]; show nv9.toNat - (its.length + 1) < _; omega⟩
   exact ⟨by rw [List.length_append]; exact hj2, Cn.manyQ_snoc hQ hqv17, Cn.manyQ_snoc hI (by show msv17.length ≤ 1000000; omega), Cn.Seg.snoc hS hsv17⟩
  refine D.stepU rfl rfl (O.callZ call248 (args1 s0_1) (ditem_spec b vr l kc F _ (r0_1.keep e7) ((hl.keepA e_1).keep e7) hS.2.2 (fun j hj => by have q1 := hF j hj; omega) hL) (fun ch_ wz_ hz_ => ?_) ?_)
  ·
   exact ⟨hz_.1, Cn.no_val (Cn.no_cart2 hsv6 hcv6 (Cn.no_many2 hsv9 Cn.pre_itemQ hQ hS hj2 hz_.2.1)), Ext.trans (Ext.nw (Ext.nw (Ext.refl _ _) e_1) e7) hz_.2.2⟩
  rintro v_17 w12 ⟨sv17, vmv17, msv17, knv17, rfl, hov17, hmv17, hnv17, hqv17, hsv17, e12⟩
  have z12 := e12.size
  refine O.nil ⟨(Ext.bare (Ext.nt (Ext.nt (Ext.refl (fun _ => True) _) e7) e12)), ?_⟩
  obtain ⟨p17, rfl⟩ := hmv17.slv
  refine D.many [1, 4] (by kernel_rfl) (by decide) ⟨?_, ?_, trivial⟩
  ·
   refine D.stepU rfl rfl (O.loadO isAgg45 rfl ((r2_1.keep e7).keepO e12) rfl (O.nil ⟨(Ext.bare (Ext.nt (Ext.nt (Ext.refl (fun _ => True) _) e7) e12)), D.on 4 rfl rfl (O.litG (G := itemF) [(sv17, p17)] U45 ti117 ts117 tz117 rfl (by decide) (by decide) rfl (fun b18 w13 hb18 hz18 e13 => ?_))⟩))
   have z13 := e13.size
   have h18 := hz18.own
   have hq18 := Sl.litG (n := 1) h18 rfl (by unfold maxLen; omega)
   refine O.nil ⟨(Ext.bare (Ext.nt (Ext.nt (Ext.nt (Ext.refl (fun _ => True) _) e7) e12) e13)), D.on 5 rfl rfl ?_⟩
   have t1 := (r3_1.keep e7).keepM e12 (fun k hk h => by have := r3_1.bk_ge k hk; (try dsimp only at h); omega)
   refine O.appW (G := itemF) U45 ti117 tz117 ts117 rfl rfl rfl (t1.keep e13) hq18 (by rw [tb117, hit.1]; simp; omega) (by unfold maxLen; rw [hit.1]; simp; omega) (by omega) (fun v19 w14 h19 e14 hw19 => ?_)
   have e14m : Ext (fun j => w.heap.size ≤ j) w13 w14 := e14.mono (fun j _ hj => by have := (t1.keep e13).bk_ge j hj; omega)
   have z14 := e14.size
   have h19s := h19.sl
   refine O.nil ⟨(Ext.bare (Ext.nt (Ext.nt (Ext.nt (Ext.nt (Ext.refl (fun _ => True) _) e7) e12) e13) e14)), ?_⟩
   have hit19 : ItemsF 114 w14 (fun j => b3 < j ∧ j < w14.heap.size ∧ ¬ bk v19 j) (raw ++ [(sv17, p17)]) (its ++ [(sv17, msv17)]) := ((((((r4_1.keep e7).keepA e12).keep e13).keepM e14 (fun j hj h => hj.2.2 h))).weak (fun j hj => ⟨hj.1, by have := hj.2.1; omega, fun hq => by
    rcases hw19 j hq with q | q
    ·exact hj.2.2 q
    ·have := hj.2.1; omega⟩)).snoc (x := (sv17, msv17)) rfl ((((hmv17.keep e13).keepM e14 (by intro j hj h; have q2 := hob j h; (try dsimp only at hj); omega))).weak (by
 intro j hj
 (try dsimp only at hj)
 refine ⟨by omega, by omega, fun hq => ?_⟩
 rcases hw19 j hq with q | q
 ·have := hob j q; omega
 ·omega))
   refine D.t 6 rfl (Ext.bare (Ext.nt (Ext.nt (Ext.nt (Ext.nt (Ext.refl (fun _ => True) _) e7) e12) e13) e14)) (fun _ _ _ hN => O.fa U47 rfl Z45 s3_1 (O.nil hN)) (D.on 7 rfl rfl (O.store Z45 rfl rfl h19.one ((((r2_1.keep e7).keepO e12).keep e13).keepM e14 (by intro h; have := (t1.keep e13).bk_ge _ h; omega)) (by simp) (fun w15 hs15 e15 z15 => ?_)))
   try simp only [Nat.zero_add] at hs15
   refine O.nil ⟨(Ext.bare (Ext.nt (Ext.nt (Ext.nt (Ext.nt (Ext.nt (Ext.refl (fun _ => True) _) e7) e12) e13) e14) e15)), D.dn (K9 (K8 (C.region (O.mv (O.subU (m := 64) (b := 1#64) rfl rfl s4_1 rfl (O.asg (O.nil ?_)))))))⟩
   refine ⟨(its ++ [(sv17, msv17)], raw ++ [(sv17, p17)], v19, knv17), ⟨(Eq.trans rfl (congrArg (fun q : BitVec 64 => Value.int .u64 (q.toNat : Int)) (by rw [Cn.dec_ofNat (by omega) (by omega), List.length_append]; rfl))), s0_1, s2_1, s3_1, (Ext.nw (Ext.nw (Ext.nw (Ext.nw (Ext.nw (Ext.nw (Ext.refl _ _) e_1) e7) e12) e13) e14m) e15), (((hov17.keep e13).keepM e14 (by intro h; have := (t1.keep e13).bk_ge _ h; omega)).keepO e15), (((((r1_1.keep e7).keepO e12).keep e13).keepM e14 (by intro h; have := (t1.keep e13).bk_ge _ h; omega)).keepO e15), hs15, (h19.keepM e15 (fun k hk h => by have := h19.bk_ge k hk; (try dsimp only at h); omega)), (((hit19.keepA e15)).weak (fun j hj => ⟨hj.1, by have := hj.2.1; omega, hj.2.2⟩)), (((((r5_1.keep e7).keepA e12).keep e13).keepM e14 (by intro j hj h; have q2 := (t1.keep e13).bk_ge j h; first | (have q1 := hF j hj; omega) | ((try dsimp only at hj); omega))).keepA e15), (((((r6_1.keep e7).keepA e12).keep e13).keepM e14 (by intro j hj h; have q2 := (t1.keep e13).bk_ge j h; first | (have q1 := hF j hj; omega) | ((try dsimp only at hj); omega))).keepA e15), (((((r7_1.keep e7).keepA e12).keep e13).keepM e14 (by intro j hj h; have q2 := (t1.keep e13).bk_ge j h; first | (have q1 := hF j hj; omega) | ((try dsimp only at hj); omega))).keepA e15), (((((r8_1.keep e7).keepA e12).keep e13).keepM e14 (by intro j hj h; have q2 := (t1.keep e13).bk_ge j h; first | (have q1 := hF j hj; omega) | ((try dsimp only at hj); omega))).keepA e15), ?_⟩, by show nv9.toNat - (its ++ [_]).length < nv9.toNat - its.length; rw [List.length_append]; show nv9.toNat - (its.length + 1) < _; omega⟩
   exact ⟨by rw [List.length_append]; exact hj2, Cn.manyQ_snoc hQ hqv17, Cn.manyQ_snoc hI (by show msv17.length ≤ 1000000; omega), Cn.Seg.snoc hS hsv17⟩
  refine D.stepU rfl rfl (O.litG (G := itemF) [(sv17, p17)] U45 ti117 ts117 tz117 rfl (by decide) (by decide) rfl (fun b18 w16 hb18 hz18 e16 => ?_))
  have z16 := e16.size
  have h18 := hz18.own
  have hq18 := Sl.litG (n := 1) h18 rfl (by unfold maxLen; omega)
  refine O.nil ⟨(Ext.bare (Ext.nt (Ext.nt (Ext.nt (Ext.refl (fun _ => True) _) e7) e12) e16)), D.on 1 rfl rfl ?_⟩
  have t2 := ((r2_1.keep e7).keepO e12).keep e16
  refine O.loadO isAgg45 rfl t2 rfl (O.nil ⟨(Ext.bare (Ext.nt (Ext.nt (Ext.nt (Ext.refl (fun _ => True) _) e7) e12) e16)), D.on 5 rfl rfl ?_⟩)
  have t3 := (r3_1.keep e7).keepM e12 (fun k hk h => by have := r3_1.bk_ge k hk; (try dsimp only at h); omega)
  refine O.appW (G := itemF) U45 ti117 tz117 ts117 rfl rfl rfl (t3.keep e16) hq18 (by rw [tb117, hit.1]; simp; omega) (by unfold maxLen; rw [hit.1]; simp; omega) (by omega) (fun v19 w17 h19 e17 hw19 => ?_)
  have e17m : Ext (fun j => w.heap.size ≤ j) w16 w17 := e17.mono (fun j _ hj => by have := (t3.keep e16).bk_ge j hj; omega)
  have z17 := e17.size
  have h19s := h19.sl
  refine O.nil ⟨(Ext.bare (Ext.nt (Ext.nt (Ext.nt (Ext.nt (Ext.refl (fun _ => True) _) e7) e12) e16) e17)), ?_⟩
  have hit19 : ItemsF 114 w17 (fun j => b3 < j ∧ j < w17.heap.size ∧ ¬ bk v19 j) (raw ++ [(sv17, p17)]) (its ++ [(sv17, msv17)]) := ((((((r4_1.keep e7).keepA e12).keep e16).keepM e17 (fun j hj h => hj.2.2 h))).weak (fun j hj => ⟨hj.1, by have := hj.2.1; omega, fun hq => by
   rcases hw19 j hq with q | q
   ·exact hj.2.2 q
   ·have := hj.2.1; omega⟩)).snoc (x := (sv17, msv17)) rfl ((((hmv17.keep e16).keepM e17 (by intro j hj h; have q2 := hob j h; (try dsimp only at hj); omega))).weak (by
 intro j hj
 (try dsimp only at hj)
 refine ⟨by omega, by omega, fun hq => ?_⟩
 rcases hw19 j hq with q | q
 ·have := hob j q; omega
 ·omega))
  refine D.t 6 rfl (Ext.bare (Ext.nt (Ext.nt (Ext.nt (Ext.nt (Ext.refl (fun _ => True) _) e7) e12) e16) e17)) (fun _ _ _ hN => O.fa U47 rfl Z45 s3_1 (O.nil hN)) (D.on 7 rfl rfl (O.store Z45 rfl rfl h19.one (t2.keepM e17 (by intro h; have := (t3.keep e16).bk_ge _ h; omega)) (by simp) (fun w18 hs18 e18 z18 => ?_)))
  try simp only [Nat.zero_add] at hs18
  refine O.nil ⟨(Ext.bare (Ext.nt (Ext.nt (Ext.nt (Ext.nt (Ext.nt (Ext.refl (fun _ => True) _) e7) e12) e16) e17) e18)), D.dn (K9 (K8 (C.region (O.mv (O.subU (m := 64) (b := 1#64) rfl rfl s4_1 rfl (O.asg (O.nil ?_)))))))⟩
  refine ⟨(its ++ [(sv17, msv17)], raw ++ [(sv17, p17)], v19, knv17), ⟨(Eq.trans rfl (congrArg (fun q : BitVec 64 => Value.int .u64 (q.toNat : Int)) (by rw [Cn.dec_ofNat (by omega) (by omega), List.length_append]; rfl))), s0_1, s2_1, s3_1, (Ext.nw (Ext.nw (Ext.nw (Ext.nw (Ext.nw (Ext.nw (Ext.refl _ _) e_1) e7) e12) e16) e17m) e18), (((hov17.keep e16).keepM e17 (by intro h; have := (t3.keep e16).bk_ge _ h; omega)).keepO e18), (((((r1_1.keep e7).keepO e12).keep e16).keepM e17 (by intro h; have := (t3.keep e16).bk_ge _ h; omega)).keepO e18), hs18, (h19.keepM e18 (fun k hk h => by have := h19.bk_ge k hk; (try dsimp only at h); omega)), (((hit19.keepA e18)).weak (fun j hj => ⟨hj.1, by have := hj.2.1; omega, hj.2.2⟩)), (((((r5_1.keep e7).keepA e12).keep e16).keepM e17 (by intro j hj h; have q2 := (t3.keep e16).bk_ge j h; first | (have q1 := hF j hj; omega) | ((try dsimp only at hj); omega))).keepA e18), (((((r6_1.keep e7).keepA e12).keep e16).keepM e17 (by intro j hj h; have q2 := (t3.keep e16).bk_ge j h; first | (have q1 := hF j hj; omega) | ((try dsimp only at hj); omega))).keepA e18), (((((r7_1.keep e7).keepA e12).keep e16).keepM e17 (by intro j hj h; have q2 := (t3.keep e16).bk_ge j h; first | (have q1 := hF j hj; omega) | ((try dsimp only at hj); omega))).keepA e18), (((((r8_1.keep e7).keepA e12).keep e16).keepM e17 (by intro j hj h; have q2 := (t3.keep e16).bk_ge j h; first | (have q1 := hF j hj; omega) | ((try dsimp only at hj); omega))).keepA e18), ?_⟩, by show nv9.toNat - (its ++ [_]).length < nv9.toNat - its.length; rw [List.length_append]; show nv9.toNat - (its.length + 1) < _; omega⟩
  exact ⟨by rw [List.length_append]; exact hj2, Cn.manyQ_snoc hQ hqv17, Cn.manyQ_snoc hI (by show msv17.length ≤ 1000000; omega), Cn.Seg.snoc hS hsv17⟩
 have hj3 : its.length = nv9.toNat := by have q := mt (Cn.pos_ofNat (m := nv9.toNat - its.length) (by omega)).2 c11; omega
 obtain ⟨wq, hwq⟩ : ∃ x, x = w6 := ⟨_, rfl⟩
 have hzq : wq.heap.size = w6.heap.size := by rw [hwq]
 have hsa1 : Sl Dt.dotF.enc w6 (fun j => j < wq.heap.size) (slv p6) xv6.1 := (r5_1).weak (by intro j hj; have q := hj.2; show j < wq.heap.size; omega)
 have hsa2 : Sl Dt.dotF.enc w6 (fun j => j < wq.heap.size) (slv q6) xv6.2 := (r6_1).weak (by intro j hj; have q := hj.2; show j < wq.heap.size; omega)
 have hsi : Sl itemE w6 (fun j => b3 < j ∧ j < wq.heap.size) o its := (hit.weak (by intro j hj; have q1 := hj.1; have q := hj.2.1; show b3 < j ∧ j < wq.heap.size; omega)).items.sl ((r3_1).sl.weak (by intro j hj; have q := hob j hj; show b3 < j ∧ j < wq.heap.size; omega))
 have hsa3 : Sl itemE w6 (fun j => j < wq.heap.size) o its := hsi.weak fun j hj => hj.2
 have hsI : SlI 117 114 w6 (fun j => b3 < j ∧ j < wq.heap.size) o its := ⟨raw, (r3_1).fre (by intro j hj; have q := hob j hj; show b3 < j ∧ j < wq.heap.size; omega), hit.weak (by intro j hj; have q1 := hj.1; have q := hj.2.1; show b3 < j ∧ j < wq.heap.size; omega)⟩
 refine C.exit (K5 (K3 (C.sq fun K10 => C.sr fun K11 => O.loadOA isAgg47 Z47 s3_1 r2_1 (leB rfl) (O.call call61 (args1 rfl) (cartValid_spec (slv p6) (slv q6) o (xv6, its) (fun j => j < wq.heap.size) _ hsa1 hsa2 hsa3 (fun j hj => by have hj : j < wq.heap.size := hj; omega) (by show its.length ≤ 1000000; omega) (fun x hx => ⟨by have := (hQ x hx).1; omega, hI x hx⟩) (mx.keepM e_1 (fun h => hgb h.symm))) ?_))))
 rintro v_22 w19 ⟨rfl, e19⟩
 have z19 := e19.size
 refine O.not rfl (K11 (C.cond rfl (fun c23 => ?_) (fun c23 => ?_)))
 ·
  refine C.region (O.build (cells := #[]) rfl (by kernel_rfl) (O.mkI U282 rfl rfl (O.panics rfl ?_)))
  exact ⟨rfl, Cn.no_val3 (Cn.seg_cart hsv6 (Cn.seg_many hsv9 hS hj3)) ⟨hcv6, hQ⟩ (by simpa using c23), (Ext.nw (Ext.nw (Ext.refl _ _) e_1) e19)⟩
 refine C.skip (K10 (C.sr fun K12 => O.loadOA isAgg47 Z47 s3_1 (r2_1.keep e19) (leB rfl) (O.storeA (vs := [slv p6, slv q6, o]) Z47 rfl s2_1 rfl (by have q9 := ho1; intro u hu; simp only [List.mem_cons, List.not_mem_nil, or_false] at hu; rcases hu with rfl | rfl | rfl <;> first | rfl | exact q9) (r1_1.keep e19) (leB rfl) (fun w20 hs20 e20 z20 => K12 (C.ret (Outs.cellA rfl isAgg47 Z47 s2_1 hs20 rfl ?_))))))
 exact ⟨slv p6, slv q6, o, (xv6, its), kc, rfl, ((r0_1.keep e19).keepO e20), (((r7_1.keep e19).keepA e20)).weakA, (((r8_1.keep e19).keepA e20)).weakA, (((hsI.keep e19).keepA e20)).weakA, ⟨by have := hnv6.1; show xv6.1.length ≤ 1000000; omega, by have := hnv6.2; show xv6.2.length ≤ 1000000; omega, by show its.length ≤ 1000000; omega, fun x hx => ⟨by have := (hQ x hx).1; omega, hI x hx⟩⟩, by simpa using c23, Cn.seg_cart hsv6 (Cn.seg_many hsv9 hS hj3), (Ext.nw (Ext.nw (Ext.nw (Ext.refl _ _) e_1) e19) e20)⟩
theorem caught_idle (v : Value) (w : World) : CallsD prog 194 #[v] .returning w fun e u' w' => (∃ q, e = .returned q) ∧ settle u' = .returning ∧ w' = w := by
 refine (callsD_recover (S := fun w' => w' = w) (u' := .returning) (rv := .nilIface) (args := [v]) (n := Tryz.f194.ntmps) func194 rfl rfl (leB rfl) rfl (fun c₀ cs hu => ?_) ?_).mono fun e u2 w' h => ⟨h.1, by rw [h.2.1]; rfl, h.2.2⟩
 ·simp [recoverD, hu]
 refine C.block fun K1 hK1 => C.sr fun K2 => O.eqlN0 rfl underlying20 (K2 (C.condT rfl (C.region (O.asg (O.nil ?_)))))
 exact hK1 _ _ rfl
theorem caught_wrong (b : Nat) (x : Int) (w : World) (ho : Own w b 28 [.int .i64 x]) : CallsD prog 194 #[.pointer (some ⟨b, 0, none⟩)] (.panicking [{ v := .iface 282 (.agg #[]), recovered := false }]) w fun e u' w' => (∃ q, e = .returned q) ∧ settle u' = .returning ∧ (Own w' b 28 [.int .i64 12] ∧ Ext (fun j => j = b) w w') := by
 have hbl := ho.lt
 refine (callsD_recover (S := fun w' => Own w' b 28 [.int .i64 12] ∧ Ext (fun j => j = b) w w') (u' := .panicking [{ v := .iface 282 (.agg #[]), recovered := true }]) (rv := .iface 282 (.agg #[])) (args := [.pointer (some ⟨b, 0, none⟩)]) (n := Tryz.f194.ntmps) func194 rfl rfl (leB rfl) rfl (fun c₀ cs hu => ?_) ?_).mono fun e u2 w' h => ⟨h.1, by rw [h.2.1]; rfl, h.2.2⟩
 ·simp [recoverD, hu]
 refine C.block fun K1 hK1 => C.sr fun K2 => O.eqlN1 rfl rfl underlying20 (K2 (C.condF rfl (C.sr fun K3 => O.holds U282 rfl rfl (O.extract rfl rfl (O.extract rfl rfl (K3 (C.condT rfl (C.sr fun K4 => O.alloc zeroValue282 (fun b3 w1 hb3 hz3 e1 => ?_)))))))))
 have z1 := e1.size
 refine O.storeA (vs := []) sizeOf282 rfl rfl rfl (by simp) hz3.own (Nat.zero_le _) (fun w2 hs2 e2 z2 => K4 (C.region (O.mv (O.nilChk rfl (O.store sizeOf28 rfl rfl rfl ((ho.keep e1).keepO e2) (by simp) (fun w3 hs3 e3 z3 => O.nil (hK1 _ _ ⟨hs3, ?_⟩)))))))
 exact Ext.trans (Ext.new (Le.to e1) e2 (by intro i hi h; (try dsimp only at h); omega)) e3
theorem prefix_spec (v0 : Value) (l : List UInt8) (F : Nat → Prop) (w : World) (hl : Sl byteE w F v0 l) (hL : l.length ≤ 1000000) (hF : ∀ j, F j → j < w.heap.size) (mx : Mx w) :
 Ret prog 131 #[v0] w (fun v w' => ∃ (v1 v2 v3 : Value) (c : Cn.Cart) (k' : Nat) (e : Int), v = .tuple #[.agg #[v1, v2, v3], .int .i64 (k' : Int), .int .i64 e] ∧ Fre Dt.dotF 112 w' (fun j => w.heap.size ≤ j ∧ j < w'.heap.size) v1 c.1.1 ∧ Fre Dt.dotF 112 w' (fun j => w.heap.size ≤ j ∧ j < w'.heap.size) v2 c.1.2 ∧ SlI 117 114 w' (fun j => w.heap.size ≤ j ∧ j < w'.heap.size) v3 c.2 ∧ Cn.big c ∧ Cn.Pref l c k' e ∧ Le w w') := by
 have hgl := mx.lt
 have hll := hl.le
 have _hF9 := hF
 refine enterD (args := [v0]) (n := 14) (ks := [2, 3, 4]) func131 rfl rfl (leB rfl) rfl (C.region (O.alloc zeroValue47 (fun b2 w1 hb2 hz2 e1 => ?_)))
 have z1 := e1.size
 have h2 := hz2.own
 have hl2 := h2.lt
 refine O.asg (O.alloc zeroValue28 (fun b4 w2 hb4 hz4 e2 => ?_))
 have z2 := e2.size
 have h4 := hz4.own
 have hl4 := h4.lt
 refine O.nil (⟨.pointer (some ⟨b4, 0, none⟩), (fun ch w' => ch = [{ v := .iface 282 (.agg #[]), recovered := false }] ∧ Cn.No Cn.val Cn.bytes l 0 ∧ Le w2 w'), rfl, ?_, ?_⟩)
 ·
  refine CD.seqK fun K1 hK1 => CD.region (by kernel_rfl) rfl (O.mv (O.call call128 (args1 rfl) (rdNew_spec _ l _ _ ((hl.keep e1).keep e2) hL) ?_))
  rintro v_8 w3 ⟨brv8, vrv8, rfl, hov8, hlv8, hbv8, hb2v8, e3⟩
  have z3 := e3.size
  refine O.asg (O.nil (hK1 _ _ (CD.seqK fun K2 hK2 => CD.region (by kernel_rfl) rfl (O.mv (O.callZ call195 (args1 rfl) (dwhole_spec brv8 vrv8 l 0 _ _ hov8 hlv8 (Nat.zero_le _) (fun j hj => by have hj1 := hj.1; have hj2 := hj.2; exact ⟨by omega, by omega⟩) hL (((mx.keep e1).keep e2).keep e3) (by omega)) (fun ch_ wz_ hz_ => ?_) ?_)))))
  ·
   exact ⟨hz_.1, hz_.2.1, Ext.new e3 hz_.2.2 (by intro i hi h; (try dsimp only at h); omega)⟩
  rintro v_10 w4 ⟨vav10, vbv10, vcv10, cv10, knv10, rfl, hov10, hxv10, hyv10, hzv10, hgv10, hcv10, hsv10, e4⟩
  have z4 := e4.size
  obtain ⟨p1, rfl⟩ := hxv10.slv
  obtain ⟨p2, rfl⟩ := hyv10.slv
  obtain ⟨p3, rfl⟩ := hzv10.sl.slv
  refine O.alloc zeroValue47 (fun b6 w5 hb6 hz6 e5 => ?_)
  have z5 := e5.size
  have h6 := hz6.own
  have hl6 := h6.lt
  refine O.storeA (vs := [slv p1, slv p2, slv p3]) Z47 rfl rfl rfl (by simp [slv, Value.oneCell']) h6 (leB rfl) (fun w6 hs6 e6 z6 => O.nil (hK2 _ _ (CD.seqK fun K3 hK3 => CD.drawB (wB := (bare w6)) (by kernel_rfl) fun w7 e7 => ?_)))
  have z7 := e7.size
  refine D.mv 1 rfl (Ext.bare (Ext.nt (Ext.refl (fun _ => True) _) e7)) (D.many [0, 2] (by kernel_rfl) (by decide) ⟨?_, ?_, trivial⟩)
  ·
   refine D.stepU rfl rfl (O.loadOA isAgg47 Z47 rfl (hs6.keep e7) (leB rfl) (O.nil ⟨(Ext.bare (Ext.nt (Ext.refl (fun _ => True) _) e7)), D.on 2 rfl rfl (O.call call132 (args1 rfl) (rdAt_spec brv8 vrv8 l knv10 _ _ (((hov10.keep e5).keepO e6).keep e7) ((((hlv8.keepM e4 (by intro k hk h; (try dsimp only at hk); (try dsimp only at h); omega)).keep e5).keepM e6 (by intro k hk h; (try dsimp only at hk); (try dsimp only at h); omega)).keep e7) (hsv10.2.2) (fun j hj => by have hj1 := hj.1; have hj2 := hj.2; exact ⟨by omega, by omega⟩)) ?_)⟩))
   rintro v_13 w8 ⟨rfl, hw_⟩
   replace hw_ := hw_.symm
   subst hw_
   refine O.nil ⟨(Ext.bare (Ext.nt (Ext.refl (fun _ => True) _) e7)), D.on 3 rfl rfl (O.storeA (vs := [slv p1, slv p2, slv p3]) Z47 rfl rfl rfl (by simp [slv, Value.oneCell']) ((((((h2.keep e2).keep e3).keepO e4).keep e5).keepO e6).keep e7) (leB rfl) (fun w8 hs8 e8 z8 => O.nil ⟨(Ext.bare (Ext.nt (Ext.nt (Ext.refl (fun _ => True) _) e7) e8)), D.as 4 rfl (Ext.bare (Ext.nt (Ext.nt (Ext.refl (fun _ => True) _) e7) e8)) (D.on 5 rfl rfl (O.store sizeOf28 rfl rfl rfl ((((((h4.keep e3).keepO e4).keep e5).keepO e6).keep e7).keepO e8) (by decide) (fun w9 hs9 e9 z9 => ?_)))⟩))⟩
   (try simp only [Int.toNat_natCast] at hs9); (try simp only [Nat.zero_add] at hs9); (try simp only [Nat.mul_one] at hs9)
   refine O.nil ⟨(Ext.bare (Ext.nt (Ext.nt (Ext.nt (Ext.refl (fun _ => True) _) e7) e8) e9)), D.dn (hK3 _ _ (CD.ret (leaves1 (by simp) call194 (caught_idle _ _) ?_)))⟩
   rintro _ rfl
   refine ⟨_, res_ctc (s := 3) rfl (getD_Fr _ _ 2) (getD_Fr _ _ 3) (getD_Fr _ _ 4) isAgg47 Z47 (hs8.keepO e9) rfl isAgg28 hs9, ?_⟩
   exact ⟨slv p1, slv p2, slv p3, cv10, knv10, 0, rfl, ((((((hxv10.keep e5).keepA e6).keep e7).keepA e8).keepA e9)).weakA, ((((((hyv10.keep e5).keepA e6).keep e7).keepA e8).keepA e9)).weakA, ((((((hzv10.keep e5).keepA e6).keep e7).keepA e8).keepA e9)).weakA, hgv10, .inl ⟨rfl, hcv10, hsv10⟩, (Ext.nr (Ext.nr (Ext.trans (Ext.nr (Ext.trans (Ext.nr (Ext.trans (Ext.trans e1 e2) e3) e4) e5) e6) e7) e8) e9)⟩
  refine D.stepU rfl rfl (O.call call132 (args1 rfl) (rdAt_spec brv8 vrv8 l knv10 _ _ (((hov10.keep e5).keepO e6).keep e7) ((((hlv8.keepM e4 (by intro k hk h; (try dsimp only at hk); (try dsimp only at h); omega)).keep e5).keepM e6 (by intro k hk h; (try dsimp only at hk); (try dsimp only at h); omega)).keep e7) (hsv10.2.2) (fun j hj => by have hj1 := hj.1; have hj2 := hj.2; exact ⟨by omega, by omega⟩)) ?_)
  rintro v_13 w10 ⟨rfl, hw_⟩
  replace hw_ := hw_.symm
  subst hw_
  refine O.nil ⟨(Ext.bare (Ext.nt (Ext.refl (fun _ => True) _) e7)), D.on 0 rfl rfl (O.loadOA isAgg47 Z47 rfl (hs6.keep e7) (leB rfl) (O.nil ⟨(Ext.bare (Ext.nt (Ext.refl (fun _ => True) _) e7)), D.on 3 rfl rfl (O.storeA (vs := [slv p1, slv p2, slv p3]) Z47 rfl rfl rfl (by simp [slv, Value.oneCell']) ((((((h2.keep e2).keep e3).keepO e4).keep e5).keepO e6).keep e7) (leB rfl) (fun w10 hs10 e10 z10 => O.nil ⟨(Ext.bare (Ext.nt (Ext.nt (Ext.refl (fun _ => True) _) e7) e10)), D.as 4 rfl (Ext.bare (Ext.nt (Ext.nt (Ext.refl (fun _ => True) _) e7) e10)) (D.on 5 rfl rfl ?_)⟩))⟩))⟩
  refine O.store sizeOf28 rfl rfl rfl ((((((h4.keep e3).keepO e4).keep e5).keepO e6).keep e7).keepO e10) (by decide) (fun w11 hs11 e11 z11 => ?_)
  (try simp only [Int.toNat_natCast] at hs11); (try simp only [Nat.zero_add] at hs11); (try simp only [Nat.mul_one] at hs11)
  refine O.nil ⟨(Ext.bare (Ext.nt (Ext.nt (Ext.nt (Ext.refl (fun _ => True) _) e7) e10) e11)), D.dn (hK3 _ _ (CD.ret (leaves1 (by simp) call194 (caught_idle _ _) ?_)))⟩
  rintro _ rfl
  refine ⟨_, res_ctc (s := 3) rfl (getD_Fr _ _ 2) (getD_Fr _ _ 3) (getD_Fr _ _ 4) isAgg47 Z47 (hs10.keepO e11) rfl isAgg28 hs11, ?_⟩
  exact ⟨slv p1, slv p2, slv p3, cv10, knv10, 0, rfl, ((((((hxv10.keep e5).keepA e6).keep e7).keepA e10).keepA e11)).weakA, ((((((hyv10.keep e5).keepA e6).keep e7).keepA e10).keepA e11)).weakA, ((((((hzv10.keep e5).keepA e6).keep e7).keepA e10).keepA e11)).weakA, hgv10, .inl ⟨rfl, hcv10, hsv10⟩, (Ext.nr (Ext.nr (Ext.trans (Ext.nr (Ext.trans (Ext.nr (Ext.trans (Ext.trans e1 e2) e3) e4) e5) e6) e7) e10) e11)⟩
 rintro a ch wz hh ⟨rfl, hno, ez⟩
 refine leaves1 (by simp) call194 (caught_wrong b4 0 wz ((h4).keep ez)) ?_
 rintro w9 ⟨ho9, e9⟩
 have h2l := (((h2.keep e2)).keep ez).lt
 refine ⟨_, res_ctc (s := 3) rfl (hh 2 (by decide)) (hh 3 (by decide)) (hh 4 (by decide)) isAgg47 Z47 ((((h2.keep e2)).keep ez).keepO e9) rfl isAgg28 ho9, ?_⟩
 exact ⟨_, _, _, Cn.nil0, 0, 12, rfl, Fre.nil _ _ _ _, Fre.nil _ _ _ _, SlI.nil _ _ _ _, Cn.big_nil0, .inr ⟨rfl, rfl, rfl, hno⟩, Ext.new (Ext.trans (Ext.trans e1 e2) ez) e9 (by intro i hi h; (try dsimp only at h); omega)⟩
theorem inf50 : ∃ ie, prog.info? 50 = some ie ∧ ie.size = 4 ∧ ie.bytes = 88 ∧ ie.zero = some (.agg #[.string ⟨#[]⟩, .slice none 0 0, .slice none 0 0, .slice none 0 0]) := by
 have h : (prog.info? 50).isSome = true := by kernel_rfl
 exact ⟨(prog.info? 50).get h, (Option.some_get h).symm, by kernel_rfl, by kernel_rfl, by kernel_rfl⟩
theorem rdTake_spec (b : Nat) (vr : Value) (l : List UInt8) (k : Nat) (F : Nat → Prop) (n : Nat) (w : World) (ho : Own w b 234 [.bool true, vr, .int .i64 ((k : Int))]) (hl : Sl byteE w F vr l) (hk : k ≤ l.length) (hF : ∀ j, F j → j ≠ b ∧ j < w.heap.size) (hL : l.length ≤ 1000000) (hn : n ≤ 1000000) :
 Ret prog 133 #[.pointer (some ⟨b, 0, none⟩), .int .i64 ((n : Int))] w (fun v w' => ∃ (vb : Value) (e : Int) (k' : Nat), v = .tuple #[vb, .int .i64 e] ∧ Own w' b 234 [.bool true, vr, .int .i64 ((k' : Int))] ∧ ((e = 0 ∧ n ≤ l.length - k ∧ k' = k + n) ∨ (e = 4 ∧ l.length - k < n ∧ k' = k)) ∧ Ext (fun j => j = b) w w') := by
 have _hF9 := hF
 have _hk9 := hk
 have hbl := ho.lt
 have hll := hl.le
 refine enT [.pointer (some ⟨b, 0, none⟩), .int .i64 ((n : Int))] 18 func133 rfl rfl (C.sr fun K1 => O.asg (O.asg (K1 (C.sq fun K2 => C.bl fun K3 => C.sr fun K4 => O.mv (O.call call188 (args1 rfl) (zero_spec b vr l _ F _ ho hl (by omega) (fun j hj => by have q1 := hF j hj; omega)) ?_)))))
 rintro v_8 w1 ⟨rfl, hw_⟩
 replace hw_ := hw_.symm
 subst hw_
 refine O.asg (K4 (C.condF rfl (C.sr fun K5 => O.mv (O.lssI rfl rfl (O.cast (v' := .bool false) (congrArg Value.bool (by exact decide_eq_false (by omega))) (O.asg (K5 (C.condF rfl (C.skip (K3 (K2 (C.sr fun K6 => O.mv (O.mv (O.convIU (m' := 64) U3 U110 rfl rfl rfl (O.call call193 (args2 rfl rfl) (rtake_spec b vr l k F (BitVec.ofInt 64 (n : Int)) _ ho hl hk (fun j hj => by have q1 := hF j hj; omega) hL) ?_)))))))))))))))
 rintro v_15 w1 ⟨vbv15, sv15, env15, knv15, rfl, hov15, hbv15, hcv15, e1⟩
 have z1 := e1.size
 refine O.extract rfl rfl (O.extract rfl rfl (O.asg (O.asg (K6 (C.ret (Outs.two rfl rfl rfl ?_))))))
 have hnn : (BitVec.ofInt 64 (n : Int)).toNat = n := by rw [BitVec.toNat_ofInt]; omega
 rw [hnn] at hcv15
 exact ⟨_, _, _, rfl, hov15, hcv15.imp (fun q => ⟨q.1, q.2.1, q.2.2.1⟩) id, (Ext.nw (Ext.refl _ _) e1)⟩
theorem entries_spec (v0 : Value) (p : List UInt8) (F : Nat → Prop) (w : World) (hl : Sl byteE w F v0 p) (hL : p.length ≤ 1000000) (hF : ∀ j, F j → j < w.heap.size) (mx : Mx w) :
 Ret prog 85 #[v0] w (fun v w' => ∃ (u : Value) (es : List EntT) (ok : Bool), v = .tuple #[u, .bool ok] ∧ SlE 50 112 117 114 w' w.heap.size w'.heap.size u es ∧ Bt.Big es ∧ Bt.EntRes p es ok ∧ Le w w') := by
 have hgl := mx.lt
 have hll := hl.le
 have _hF9 := hF
 obtain ⟨ie50, ti50, ts50, tb50, tz50⟩ := inf50
 refine enT [v0] 61 func85 rfl rfl (C.sr fun K1 => O.asg (O.asg (K1 (C.sr fun K2 => O.mv (O.call call128 (args1 rfl) (rdNew_spec _ p _ _ hl hL) ?_)))))
 rintro v_13 w1 ⟨brv13, vrv13, rfl, hov13, hlv13, hbv13, hb2v13, e1⟩
 have z1 := e1.size
 refine O.asg (K2 (C.sr fun K3 => O.mv (O.call call129 (args2 rfl rfl) (rdNum_spec brv13 vrv13 p 0 _ 1024#64 _ hov13 hlv13 (Nat.zero_le _) (fun j hj => by have hj1 := hj.1; have hj2 := hj.2; exact ⟨by omega, by omega⟩) hL) ?_)))
 rintro v_16 w2 ⟨nv16, env16, knv16, rfl, hov16, hcv16, e2⟩
 have z2 := e2.size
 refine O.mv (O.extract rfl rfl (O.extract rfl rfl (O.asg (O.asg (K3 (C.sq fun K4 => C.sr fun K5 => O.mv (O.neqI rfl rfl (K5 (C.condD rfl (fun c20 => ?_) (fun c20 => ?_))))))))))
 ·
  have hno : Bt.EntRes p [] false := by
   rcases hcv16 with ⟨q, _⟩ | ⟨_, _, _, q⟩
   ·exact absurd q c20
   ·exact Bt.res_num q
  refine C.sr fun K6 => O.asg (O.asg (K6 (C.ret (Outs.two rfl rfl rfl ?_))))
  exact ⟨_, [], false, rfl, SlE.nil _ _ _ _ _ (by omega), (fun x hx => by cases hx), hno, (Ext.nr e1 e2)⟩
 have sp1_ : nv16.toNat ≤ 1024 ∧ Cn.SegN nv16 p 0 knv16 := by
  rcases hcv16 with ⟨_, q, q2⟩ | ⟨q, _⟩
  ·exact ⟨q, q2⟩
  ·exfalso; omega
 obtain ⟨hn16, hs16⟩ := sp1_
 have sp2_ : ∃ n, n = w2.heap.size := ⟨_, rfl⟩
 obtain ⟨n9, hn9⟩ := sp2_
 have hog0 : OG entF 50 w2 (.slice none 0 0) 0 [] := OG.nil (by omega)
 have hen0 : EntsD 112 117 114 w2 (fun j => j ≠ 0) n9 n9 [] [] := EntsD.nil (Nat.le_refl _)
 refine C.skip (K4 (C.sr fun K7 => O.asg (K7 (C.sq fun K8 => C.sr fun K9 => O.mv (O.mv (K9 (C.bl fun K10 => ?_)))))))
 refine C.loop0 (σ := Value × Nat × List EntR × List EntT × Nat × Nat) (fun f0 w0 ⟨o, gl, raw, es, kc, hz⟩ f wz => f 7 = o ∧ f 22 = .int .u64 ((BitVec.ofNat 64 es.length).toNat : Int) ∧ f 0 = f0 0 ∧ f 4 = f0 4 ∧ f 21 = f0 21 ∧ Le w wz ∧ Own wz brv13 234 [.bool true, vrv13, .int .i64 ((kc : Int))] ∧ Sl byteE wz (fun j => w.heap.size ≤ j ∧ j < brv13) vrv13 p ∧ OG entF 50 wz o gl raw ∧ EntsD 112 117 114 wz (fun j => j ≠ gl) n9 hz raw es ∧ (∀ j, bk o j → n9 ≤ j) ∧ (gl = 0 ∨ n9 ≤ gl) ∧ (n9 ≤ hz ∧ hz ≤ wz.heap.size ∧ n9 ≤ wz.heap.size) ∧ es.length ≤ nv16.toNat ∧ kc ≤ p.length ∧ Bt.Big es ∧ Cn.manyQ Bt.okQ es ∧ Cn.Seg (es.flatMap Bt.entB) p knv16 kc) (fun ⟨o, gl, raw, es, kc, hz⟩ => nv16.toNat - es.length) (.slice none 0 0, 0, [], [], knv16, n9) ?_ ?_
 ·
  refine ⟨rfl, rfl, rfl, rfl, rfl, (Ext.nr e1 e2), hov16, (hlv13.keepA e2), hog0, hen0, ?_⟩
  exact ⟨fun _ h => h.elim, .inl rfl, by omega, Nat.zero_le _, hs16.2.2, (fun x hx => by cases hx), Cn.manyQ_nil, Cn.Seg.nil hs16.2.2⟩
 rintro ⟨o, gl, raw, es, kc, hz⟩ f_1 w3 ⟨s7_1, s22_1, s0_1, s4_1, s21_1, e_1, r0_1, r1_1, r2_1, r3_1, ⟨hob, hgl2, hhz, hjn, hkc, hBs, hQ, hS⟩⟩
 have z_1 := e_1.size
 have hen := r3_1
 have hrl := hen.1
 have hgl := (r2_1).2.2
 have hogu := (r2_1).2.1
 have sp3_ : ∃ n, n = w3.heap.size := ⟨_, rfl⟩
 obtain ⟨w0_, hw0_⟩ := sp3_
 refine C.sr fun K11 => O.lssU (m := 64) s22_1 s21_1 (K11 (C.sq fun K12 => C.condD rfl (fun c23 => ?_) (fun c23 => ?_)))
 ·
  have hj2 : es.length < nv16.toNat := (Bt.lt_of_ofNat (by omega)).1 c23
  refine C.skip (K12 (C.sq fun K13 => C.bl fun K14 => C.sr fun K15 => O.mv (O.call call130 (args2 s4_1 rfl) (rdStr_spec brv13 vrv13 p kc _ 64 _ r0_1 r1_1 hkc (fun j hj => by have hj1 := hj.1; have hj2 := hj.2; exact ⟨by omega, by omega⟩) hL (by unfold InI; omega)) ?_)))
  rintro v_26 w4 ⟨nv26, env26, knv26, rfl, hov26, hcv26, e4⟩
  have z4 := e4.size
  refine O.mv (O.extract rfl rfl (O.extract rfl rfl (O.asg (O.asg (K15 (C.sq fun K16 => C.sr fun K17 => O.mv (O.neqI rfl rfl (K17 (C.condD rfl (fun c30 => ?_) (fun c30 => ?_))))))))))
  ·
   have hno : Bt.EntRes p [] false := by
    rcases hcv26 with ⟨q, _⟩ | ⟨_, _, q⟩
    ·exact absurd q c30
    ·exact Bt.res_ent hs16 hS hQ hj2 (Bt.no_okQ1 q)
   refine C.sr fun K18 => O.asg (O.asg (K18 (C.ret (Outs.two rfl rfl rfl ?_))))
   exact ⟨_, [], false, rfl, SlE.nil _ _ _ _ _ (by omega), (fun x hx => by cases hx), hno, (Ext.nr e_1 e4)⟩
  have sp4_ : (nv26.length : Int) ≤ 64 ∧ Cn.Seg (Cn.strB nv26) p kc knv26 := by
   rcases hcv26 with ⟨_, q, q2⟩ | ⟨q, _⟩
   ·exact ⟨q, q2⟩
   ·exfalso; omega
  obtain ⟨hq26, hs26⟩ := sp4_
  have hk26 : knv26 ≤ p.length := hs26.2.2
  refine C.skip (K16 (C.sr fun K19 => O.mv (O.mv (O.call call132 (args1 s4_1) (rdAt_spec brv13 vrv13 p knv26 _ _ hov26 (r1_1.keepA e4) hk26 (fun j hj => by have hj1 := hj.1; have hj2 := hj.2; exact ⟨by omega, by omega⟩)) ?_))))
  rintro v_34 w5 ⟨rfl, hw_⟩
  replace hw_ := hw_.symm
  subst hw_
  have hb35 := Sl.sub (P := prog) (knv26) (p.length) U30 Z5 (by rfl) ((hl.keep e_1).keepA e4) hk26 (Nat.le_refl _)
  obtain ⟨v35, hs35, hr35⟩ := hb35
  refine O.subR s0_1 hr35 (.inr ⟨_, _, rfl, rfl⟩) (.inl ⟨rfl, rfl⟩) ?_
  rw [List.take_length] at hs35
  refine O.call call131 (args1 rfl) (prefix_spec _ (p.drop knv26) _ _ hs35 (by rw [List.length_drop]; omega) (fun j hj => by have q1 := hF j hj; omega) ((mx.keep e_1).keepO e4)) ?_
  rintro v_36 w5 ⟨vav36, vbv36, vcv36, cv36, knv36, env36, rfl, hxv36, hyv36, hzv36, hgv36, hpv36, e5⟩
  have z5 := e5.size
  have sp5_ := hxv36.slv
  obtain ⟨p1, sp5_⟩ := sp5_
  subst sp5_
  have sp6_ := hyv36.slv
  obtain ⟨p2, sp6_⟩ := sp6_
  subst sp6_
  have sp7_ := hzv36.sl.slv
  obtain ⟨p3, sp7_⟩ := sp7_
  subst sp7_
  have sp8_ : ∃ n, n = w5.heap.size := ⟨_, rfl⟩
  obtain ⟨wa, hwa⟩ := sp8_
  have hca36 : CartF 112 117 114 w5 (fun j => w0_ ≤ j ∧ j < wa) ((p1, p2), p3) cv36 := ⟨hxv36.weakA, hyv36.weakA, hzv36.weakA⟩
  refine O.mv (O.extract rfl rfl (O.extract rfl rfl (O.extract rfl rfl (O.alloc zeroValue47 (fun b10 w6 hb10 hz10 e6 => ?_)))))
  have z6 := e6.size
  have h10 := hz10.own
  have hl10 := h10.lt
  refine O.storeA (vs := [slv p1, slv p2, slv p3]) Z47 rfl rfl rfl (by intro u hu; simp only [List.mem_cons, List.not_mem_nil, or_false] at hu; rcases hu with rfl | rfl | rfl <;> rfl) h10 (leB rfl) (fun w7 hs7 e7 z7 => O.asg (O.asg (K19 (C.sq fun K20 => C.sr fun K21 => O.mv (O.neqI rfl rfl (K21 (C.condD rfl (fun c41 => ?_) (fun c41 => ?_))))))))
  ·
   have hno : Bt.EntRes p [] false := by
    rcases hpv36 with ⟨q, _⟩ | ⟨_, _, _, q⟩
    ·exact absurd q c41
    ·exact Bt.res_ent hs16 hS hQ hj2 (Bt.no_okQ2 hs26 hq26 (Bt.no_drop q))
   refine C.sr fun K22 => O.asg (O.asg (K22 (C.ret (Outs.two rfl rfl rfl ?_))))
   exact ⟨_, [], false, rfl, SlE.nil _ _ _ _ _ (by omega), (fun x hx => by cases hx), hno, (Ext.nr (Ext.trans (Ext.trans (Ext.nr e_1 e4) e5) e6) e7)⟩
  have sp9_ : Cn.valid cv36 = true ∧ Cn.Seg (Cn.bytes cv36) p knv26 (knv26 + knv36) := by
   rcases hpv36 with ⟨_, q, q2⟩ | ⟨q, _⟩
   ·exact ⟨q, Bt.seg_drop q2 hk26⟩
   ·exfalso; omega
  obtain ⟨hv36, hs36⟩ := sp9_
  have hk36b := hs36.2.2
  have hk36 : knv36 ≤ 1000000 := by omega
  refine C.skip (K20 (C.sq fun K23 => C.sr fun K24 => O.mv (O.mv ?_)))
  have t0 := ((r1_1.keepA e4).keep e5).keep e6
  refine O.call call133 (args2 s4_1 rfl) (rdTake_spec brv13 vrv13 p knv26 _ knv36 _ (((hov26.keep e5).keep e6).keepO e7) (t0.keepA e7) hk26 (fun j hj => by have hj1 := hj.1; have hj2 := hj.2; exact ⟨by omega, by omega⟩) hL hk36) ?_
  rintro v_45 w8 ⟨vbv45, env45, knv45, rfl, hov45, hcv45, e8⟩
  have z8 := e8.size
  refine O.mv (O.extract rfl rfl (O.extract rfl rfl (O.asg (K24 (C.sr fun K25 => O.mv (O.neqI rfl rfl (K25 (C.condD rfl (fun c49 => ?_) (fun c49 => ?_)))))))))
  ·
   exfalso
   rcases hcv45 with ⟨q, _⟩ | ⟨_, q, _⟩
   ·exact c49 q
   ·omega
  have hkn : knv45 = knv26 + knv36 := by
   rcases hcv45 with ⟨_, _, q⟩ | ⟨q, _⟩
   ·exact q
   ·exfalso; omega
  refine C.skip (K23 (C.region (O.mv (O.mv (O.loadOA isAgg47 Z47 rfl (hs7.keepO e8) (leB rfl) (O.build (cells := #[str nv26, slv p1, slv p2, slv p3]) rfl (by kernel_rfl) (O.litG (G := entF) [(nv26, (p1, p2), p3)] U22 ti50 ts50 tz50 rfl (by decide) (by decide) rfl (fun b54 w9 hb54 hz54 e9 => ?_))))))))
  have z9 := e9.size
  have h54 := hz54.own
  have hq54 := Sl.litG (n := 1) h54 rfl (by unfold maxLen; omega)
  have t1 := ((r2_1.keepA e4).keep e5).keep e6
  have t2 := ((t1.keepA e7).keepA e8).keep e9
  refine O.appG (G := entF) U22 ti50 tz50 ts50 rfl s7_1 rfl t2 hq54 (by rw [tb50]; simp; omega) (by unfold maxLen; simp; omega) (fun v55 gg55 w10 h55 hg55 e10 hw55 => ?_)
  have e10m := e10.mono (M' := fun k => k = _) (fun k _ hk => t2.2.1 k hk)
  have z10 := e10.size
  have hgl55 := h55.2.2
  have hgg := h55.2.2
  have hob55 : ∀ k, bk v55 k → n9 ≤ k := fun k hk => by
   rcases hw55 k hk with q | q
   ·exact hob k q
   ·omega
  have hg55 : n9 ≤ gg55 := hob55 _ (h55.bk (by simp))
  have hgg55 := (hw55 _ (h55.bk (by simp))).imp (hogu _) id
  refine O.asg (O.nil (K14 (K13 (C.region (O.addU (m := 64) (b := 1#64) rfl rfl s22_1 rfl (O.mv (O.nil ?_)))))))
  refine ⟨(_, _, _, es ++ [(nv26, cv36)], _, _), ⟨rfl, (Eq.trans rfl (congrArg (fun q : BitVec 64 => Value.int .u64 (q.toNat : Int)) (by rw [Bt.ofNat_succ, List.length_append]; rfl))), s0_1, s4_1, s21_1, (Ext.new (Ext.trans (Ext.nr (Ext.nr (Ext.trans (Ext.trans (Ext.nr e_1 e4) e5) e6) e7) e8) e9) e10 (by intro i hi h; have := hob i h; omega)), ((hov45.keep e9).keepM e10 (fun h => by have := hob _ h; have := hogu _ h; omega)), ((((t0.keepA e7).keepA e8).keep e9).keepM e10 (by intro j hj h; have q2 := hob j h; have q3 := hogu j h; first | (have q1 := hF j hj; omega) | ((try dsimp only at hj); omega))), h55, ((((((((((r3_1.keepM e4 (by intro k hG h1 h2 h; (try dsimp only at h); omega)).keep e5).keep e6).keepA e7).keepM e8 (by intro k hG h1 h2 h; (try dsimp only at h); omega)).keep e9).keepM e10 (by intro k hG h1 h2 h; exact hG (hogu k h)))).weak (fun j h1 h2 h3 => by (try dsimp only); omega)).snoc (x := (nv26, cv36)) (hi' := wa) (by omega) rfl (((((((hca36.keep e6).keepA e7).keepA e8).keep e9).keepM e10 (by intro j hj h; have q2 := hob j h; have q3 := hogu j h; first | (have q1 := hF j hj; omega) | ((try dsimp only at hj); omega)))).weakA)), ?_⟩, by show nv16.toNat - (es ++ [_]).length < nv16.toNat - es.length; rw [List.length_append]; show nv16.toNat - (es.length + 1) < _; omega⟩
  exact ⟨hob55, .inr hg55, by omega, by rw [List.length_append]; exact hj2, by omega, Bt.Big.snoc hBs ⟨by show nv26.length ≤ 1000000; omega, hgv36⟩, Cn.manyQ_snoc hQ ⟨hq26, hv36⟩, by rw [hkn]; exact hS.snoc (Bt.seg_ent hs26 hs36)⟩
 have hj3 : es.length = nv16.toNat := by have q := mt (Bt.lt_of_ofNat (j := es.length) (by omega)).2 c23; omega
 refine C.exit (K10 (K8 (C.sr fun K26 => O.mv (O.mv (O.call call134 (args1 s4_1) (rdLeft_spec brv13 vrv13 p kc _ _ r0_1 r1_1 hkc (fun j hj => by have hj1 := hj.1; have hj2 := hj.2; exact ⟨by omega, by omega⟩)) ?_)))))
 rintro v_59 w11 ⟨rfl, e11⟩
 have z11 := e11.size
 refine O.eqlI rfl rfl (O.asg (O.asg (K26 (C.ret (Outs.two rfl s7_1 rfl ?_)))))
 first
 | exact ⟨_, [], false, rfl, SlE.nil _ _ _ _ _ (by omega), (fun x hx => by cases hx), hno, (Ext.trans e_1 e11)⟩
 | (refine ⟨o, es, _, rfl, ⟨raw, ((r2_1.keep e11)).1.fre (fun j hj => ?_), (((r3_1.keep e11)).weak (fun k _ _ hG hb => hG (hogu k hb))).wide (by omega) (by omega)⟩, hBs, Bt.res_end hs16 hS hQ hj3 hn16, (Ext.trans e_1 e11)⟩
    have := hob j hj
    have := hogu j hj
    (try dsimp only)
    omega)
theorem bdecode_spec (v0 : Value) (p : List UInt8) (F : Nat → Prop) (w : World) (hl : Sl byteE w F v0 p) (hL : p.length ≤ 1000000) (hF : ∀ j, F j → j < w.heap.size) (mx : Mx w) :
 Ret prog 37 #[v0] w (fun v w' => ∃ (u : Value) (es : List EntT) (e : Int), v = .tuple #[u, .int .i64 e] ∧ SlE 50 112 117 114 w' w.heap.size w'.heap.size u es ∧ Bt.Big es ∧ Bt.DecRes p es e ∧ Le w w') := by
 have hgl := mx.lt
 have hll := hl.le
 have _hF9 := hF
 refine enT [v0] 55 func37 rfl rfl (C.sr fun K1 => O.asg (O.asg (K1 (C.sr fun K2 => O.mv (O.len U30 rfl hl (O.subI rfl rfl (by unfold InI; omega) (O.asg (K2 (C.sq fun K3 => C.sr fun K4 => O.mv (O.lssI rfl rfl (O.mv (O.splitD (x := .tmp 15) rfl (fun c15 => ?_) (fun c15 => ?_)))))))))))))
 ·
  have hno : Bt.DecRes p [] 12 := Bt.dec_short (by omega)
  refine O.no rfl (noB (isT rfl c15) rfl) (O.no rfl (noB (isT rfl c15) rfl) (O.no rfl (noB (isT rfl c15) rfl) (O.pickT (isT rfl c15) (K4 (C.condT rfl (C.sr fun K5 => O.asg (O.asg (K5 (C.ret (Outs.two rfl rfl rfl ?_))))))))))
  exact ⟨_, [], 12, rfl, SlE.nil _ _ _ _ _ (by omega), (fun x hx => by cases hx), hno, (Le.refl _)⟩
 have hn4 : 4 ≤ p.length := by omega
 have sp1_ : ∃ q, q = p.drop (p.length - 4) := ⟨_, rfl⟩
 obtain ⟨q, hq⟩ := sp1_
 have hq4 : q.length = 4 := by rw [hq, List.length_drop]; omega
 refine O.yes rfl (isF rfl c15) (O.mv (O.yes rfl (isF rfl c15) (O.len U30 rfl hl (O.yes rfl (isF rfl c15) (O.gtrI rfl rfl (O.cast (v' := .bool false) (congrArg Value.bool (by exact decide_eq_false (by omega))) (O.pickF (isF rfl c15) (K4 (C.condF rfl (C.skip (K3 (C.sr fun K6 => O.asg (K6 (C.sq fun K7 => C.sr fun K8 => O.mv (O.mv ?_)))))))))))))))
 have hb22 := Sl.sub (P := prog) ((p.length - 4)) (p.length) U30 Z5 (by rfl) hl (by omega) (Nat.le_refl _)
 obtain ⟨v22, hs22, hr22⟩ := hb22
 refine O.subR rfl hr22 (.inr ⟨_, _, rfl, (Eq.trans rfl (i64_eq (show (p.length : Int) - 4 = ((p.length - 4 : Nat) : Int) by omega)))⟩) (.inl ⟨rfl, rfl⟩) ?_
 rw [List.take_length, ← hq] at hs22
 refine O.len U30 rfl hs22 (O.mv (K8 (C.bl fun K9 => C.loop0 (σ := Nat) (fun f0 w0 k f w => f 24 = .int .i64 ((k : Int)) ∧ f 5 = .int .u32 ((Bt.sumU (q.take k)).toNat : Int) ∧ f 0 = f0 0 ∧ f 2 = f0 2 ∧ f 3 = f0 3 ∧ f 4 = f0 4 ∧ f 22 = f0 22 ∧ f 23 = f0 23 ∧ Le w0 w ∧ k ≤ q.length) (fun k => q.length - k) 0 ?_ ?_)))
 ·
  refine ⟨rfl, rfl, rfl, rfl, rfl, rfl, rfl, rfl, Le.refl _, ?_⟩
  exact Nat.zero_le _
 rintro k f_1 w1 ⟨s24_1, s5_1, s0_1, s2_1, s3_1, s4_1, s22_1, s23_1, e_1, hk⟩
 have z_1 := e_1.size
 refine C.sr fun K10 => O.lssI s24_1 s23_1 (K10 (C.sq fun K11 => C.condD rfl (fun c25 => ?_) (fun c25 => ?_)))
 ·
  have hk2 : k < q.length := by omega
  refine C.skip (K11 (C.sq fun K12 => C.bl fun K13 => C.sr fun K14 => O.idx U30 Z5 rfl s22_1 (hs22.keep e_1) s24_1 (by omega) (fun a26 h26 => O.loadB isAgg5 rfl h26 ?_)))
  have sp2_ : ∃ y : UInt8, y = q[k] := ⟨_, rfl⟩
  obtain ⟨y, hy⟩ := sp2_
  refine O.cast (v' := .int .u8 (y.toBitVec.toNat : Int)) (by rw [hy]; rfl) (O.asg (K14 (C.region (O.mv (O.shlU (m := 32) (c := 8) rfl rfl s5_1 rfl (O.mv (O.convUU (m := 8) (m' := 32) U5 U34 rfl rfl rfl (O.orU (m := 32) rfl rfl rfl rfl (O.asg (O.nil (K13 (K12 (C.region (O.addI s24_1 rfl (by unfold InI; omega) (O.mv (O.nil (⟨(k + 1), ⟨rfl, (Eq.trans rfl (congrArg (fun q : BitVec 32 => Value.int .u32 (q.toNat : Int)) (by rw [List.take_succ_eq_append_getElem hk2, Bt.sumU_snoc, ← hy]))), s0_1, s2_1, s3_1, s4_1, s22_1, s23_1, e_1, ?_⟩, by first | omega | (simp only []; omega)⟩)))))))))))))))))
  omega
 have hk3 : q.take k = q := List.take_of_length_le (by omega)
 refine C.exit (K9 (K7 (C.sq fun K15 => C.sr fun K16 => O.mv (O.mv (O.mv ?_)))))
 have hb37 := Sl.sub (P := prog) (0) ((p.length - 4)) U30 Z5 (by rfl) (hl.keep e_1) (Nat.zero_le _) (by omega)
 obtain ⟨v37, hs37, hr37⟩ := hb37
 refine O.subR s0_1 hr37 (.inl ⟨rfl, rfl⟩) (.inr ⟨_, _, rfl, (Eq.trans s4_1 (i64_eq (show (p.length : Int) - 4 = ((p.length - 4 : Nat) : Int) by omega)))⟩) ?_
 rw [List.drop_zero] at hs37
 refine O.call call25 (args1 rfl) (csum_spec _ _ _ _ hs37) ?_
 rintro v_38 w2 ⟨rfl, e2⟩
 have z2 := e2.size
 refine O.neqU (m := 32) s5_1 rfl (K16 (C.condD rfl (fun c39 => ?_) (fun c39 => ?_)))
 ·
  rw [hk3, hq] at c39
  have hno : Bt.DecRes p [] 12 := Bt.dec_ne hn4 c39
  refine C.sr fun K17 => O.asg (O.asg (K17 (C.ret (Outs.two rfl rfl rfl ?_))))
  exact ⟨_, [], 12, rfl, SlE.nil _ _ _ _ _ (by omega), (fun x hx => by cases hx), hno, (Ext.trans e_1 e2)⟩
 rw [hk3, hq] at c39
 have hp9 : p = Bt.end4 (p.take (p.length - 4)) := (Bt.sum_iff hn4).1 (Decidable.of_not_not c39)
 refine C.skip (K15 (C.sr fun K18 => O.mv (O.mv ?_)))
 have hb43 := Sl.sub (P := prog) (0) ((p.length - 4)) U30 Z5 (by rfl) ((hl.keep e_1).keep e2) (Nat.zero_le _) (by omega)
 obtain ⟨v43, hs43, hr43⟩ := hb43
 refine O.subR s0_1 hr43 (.inl ⟨rfl, rfl⟩) (.inr ⟨_, _, rfl, (Eq.trans s4_1 (i64_eq (show (p.length : Int) - 4 = ((p.length - 4 : Nat) : Int) by omega)))⟩) ?_
 rw [List.drop_zero] at hs43
 refine O.call call85 (args1 rfl) (entries_spec _ (p.take (p.length - 4)) F _ hs43 (by rw [List.length_take]; omega) (fun j hj => by have q1 := hF j hj; omega) ((mx.keep e_1).keep e2)) ?_
 rintro v_44 w3 ⟨uv44, esv44, okv44, rfl, hv44, hBv44, hRv44, e3⟩
 have z3 := e3.size
 have sp3_ := hv44.raws
 obtain ⟨raw44, hra44, hea44⟩ := sp3_
 refine O.mv (O.extract rfl rfl (O.extract rfl rfl (O.asg (O.asg (K18 (C.sq fun K19 => C.sr fun K20 => O.mv (O.not rfl (O.mv (O.split (x := .tmp 49) rfl (fun c49 => ?_) (fun c49 => ?_))))))))))
 ·
  have hno : Bt.DecRes p [] 12 := Bt.dec_fin1 hp9 hRv44 (by rw [show okv44 = false by simpa using c49]; rfl)
  refine O.no rfl (noB (isT' rfl c49) rfl) (O.no rfl (noB (isT' rfl c49) rfl) (O.no rfl (noB (isT' rfl c49) rfl) (O.pickT (isT' rfl c49) (K20 (C.condT rfl (C.sr fun K21 => O.asg (O.asg (K21 (C.ret (Outs.two rfl rfl rfl ?_))))))))))
  exact ⟨_, [], 12, rfl, SlE.nil _ _ _ _ _ (by omega), (fun x hx => by cases hx), hno, (Ext.trans (Ext.trans e_1 e2) e3)⟩
 refine O.yes rfl (isF' rfl c49) (O.mv (O.yes rfl (isF' rfl c49) (O.call call18 (args1 rfl) (bvalid_spec uv44 raw44 esv44 _ _ hra44 hea44 (fun j hj => by have q := hj.2; omega) hBv44 (((mx.keep e_1).keep e2).keep e3)) ?_)))
 rintro v_51 w4 ⟨rfl, e4⟩
 have z4 := e4.size
 refine O.yes rfl (isF' rfl c49) (O.not rfl (O.pickF (isF' rfl c49) (K20 (C.cond rfl (fun c53 => ?_) (fun c53 => ?_)))))
 ·
  have hno : Bt.DecRes p [] 12 := Bt.dec_fin1 hp9 hRv44 (by rw [show Bt.valid esv44 = false by simpa using c53, Bool.and_false])
  refine C.sr fun K22 => O.asg (O.asg (K22 (C.ret (Outs.two rfl rfl rfl ?_))))
  exact ⟨_, [], 12, rfl, SlE.nil _ _ _ _ _ (by omega), (fun x hx => by cases hx), hno, (Ext.trans (Ext.trans (Ext.trans e_1 e2) e3) e4)⟩
 have hyes : Bt.DecRes p esv44 0 := Bt.dec_fin2 hp9 hRv44 (by rw [show Bt.valid esv44 = true by simpa using c53, show okv44 = true by simpa using c49]; rfl)
 refine C.skip (K19 (C.sr fun K23 => O.mv (O.asg (O.asg (K23 (C.ret (Outs.two rfl rfl rfl ?_)))))))
 first
 | exact ⟨_, [], 12, rfl, SlE.nil _ _ _ _ _ (by omega), (fun x hx => by cases hx), hno, (Ext.trans (Ext.trans (Ext.trans e_1 e2) e3) e4)⟩
 | exact ⟨uv44, esv44, 0, rfl, ((hv44.keep e4)).wide (by omega) (by omega), hBv44, hyes, (Ext.trans (Ext.trans (Ext.trans e_1 e2) e3) e4)⟩
theorem nsize_spec (n : BitVec 64) (w : World) :
 Ret prog 66 #[.int .u64 ((n).toNat : Int)] w (fun v w' => v = .int .i64 ((Cn.num n.toNat).length : Int) ∧ Le w w') := by
 refine enT [.int .u64 ((n).toNat : Int)] 6 func66 rfl rfl (C.sr fun K1 => O.asg (K1 (C.sr fun K2 => O.mv (O.call call106 (args1 rfl) (number_spec n _) ?_))))
 rintro v_4 w1 ⟨e1, h4⟩
 have z1 := e1.size
 have h4s := h4.sl
 refine O.len U30 rfl h4s (O.asg (K2 (C.ret (Outs.one rfl rfl ?_))))
 exact ⟨rfl, e1⟩
theorem bsplit_spec (v0 : Value) (raw : List EntR) (l : List EntT) (F : Nat → Prop) (w : World) (hr : Sl entF.enc w F v0 raw) (he : EntL w F raw l) (hF : ∀ k, F k → k < w.heap.size) (hB : Bt.Big l) (mx : Mx w) (hE : ∀ x ∈ l, (Bt.entB x).length ≤ 8000000) (hn : l.length ≤ 1000000) :
 Ret prog 26 #[v0] w (fun v w' => ∃ (u : Value) (e : Int) (bs : List (List UInt8)), v = .tuple #[u, .int .i64 e] ∧ Sl (sliE byteE) w' (fun j => w.heap.size ≤ j ∧ j < w'.heap.size) u bs ∧ ((Bt.ordered l = true ∧ e = 0 ∧ bs = (Bt.split l).map Bt.enc) ∨ (Bt.ordered l = false ∧ e = 2 ∧ bs = [])) ∧ Le w w') := by
 obtain ⟨ie30, ti30, ts30, tb30, tz30⟩ := inf30
 have hl := he.1
 have hrl := hr.le
 have hgl9 := mx.lt
 refine enT [v0] 104 func26 rfl rfl (C.sr fun K1 => O.asg (O.asg (K1 (C.sq fun K2 => C.sr fun K3 => O.mv (O.call call59 (args1 rfl) (ordered_spec v0 raw l F _ hr he hF hB mx) ?_)))))
 rintro v_17 w1 ⟨rfl, e1⟩
 have z1 := e1.size
 refine O.not rfl (K3 (C.cond rfl (fun c18 => ?_) (fun c18 => ?_)))
 ·
  have hno : Bt.ordered l = false := by simpa using c18
  refine C.sr fun K4 => O.asg (O.asg (K4 (C.ret (Outs.two rfl rfl rfl ?_))))
  exact ⟨_, _, [], rfl, Sl.nil _ _ _, .inr ⟨hno, rfl, rfl⟩, e1⟩
 have hO : Bt.Ord l := Bt.ord_iff.1 (by simpa using c18)
 refine C.skip (K2 (C.sr fun K5 => O.asg (K5 (C.sr fun K6 => O.asg (O.asg (K6 (C.sq fun K7 => C.sr fun K8 => O.mv (O.len U22 rfl (hr.keep e1) ?_))))))))
 have hog0 : OG slF 30 w1 (.slice none 0 0) 0 [] := OG.nil (by omega)
 have hbs0 : SlsL byteE w1 (fun j => w.heap.size ≤ j ∧ j < 0 ∧ j ≠ 0) [] (([] : List (List Bt.Ent)).map Bt.enc) := SlsL.nil
 refine O.mv (K8 (C.bl fun K9 => ?_))
 refine C.loop0 (σ := Nat × Nat × Value × Nat × List Raw × List (List Bt.Ent) × Nat) (fun f0 w0 ⟨k, fr, o, gl, ro, done, hi⟩ f wz => f 21 = .int .i64 ((k : Int)) ∧ f 4 = o ∧ f 5 = .int .i64 ((fr : Int)) ∧ f 6 = .int .i64 (((((l.take k).drop fr).flatMap Bt.entB).length : Int)) ∧ f 0 = f0 0 ∧ f 19 = f0 19 ∧ f 20 = f0 20 ∧ Le w wz ∧ OG slF 30 wz o gl ro ∧ SlsL byteE wz (fun j => w.heap.size ≤ j ∧ j < hi ∧ j ≠ gl) ro (done.map Bt.enc) ∧ (k ≤ l.length ∧ fr ≤ k ∧ (0 < k → fr < k)) ∧ Bt.Done l done ((l.take k).drop fr) (l.drop k) ∧ (∀ j, bk o j → w.heap.size ≤ j) ∧ hi ≤ wz.heap.size ∧ done.length ≤ k) (fun ⟨k, fr, o, gl, ro, done, hi⟩ => l.length - k) (0, 0, .slice none 0 0, 0, [], [], 0) ?_ ?_
 ·
  refine ⟨rfl, rfl, rfl, rfl, rfl, rfl, rfl, e1, hog0, hbs0, ?_⟩
  exact ⟨⟨Nat.zero_le _, Nat.le_refl _, fun h => absurd h (Nat.lt_irrefl _)⟩, Bt.Done.start l, fun _ h => h.elim, by omega, Nat.le_refl _⟩
 rintro ⟨k, fr, o, gl, ro, done, hi⟩ f_1 w2 ⟨s21_1, s4_1, s5_1, s6_1, s0_1, s19_1, s20_1, e_1, r0_1, r1_1, ⟨⟨hk, hfk, hfk2⟩, hD, hob, hhi, hdn⟩⟩
 have z_1 := e_1.size
 have hogl := (r0_1).2.2
 have hogu := (r0_1).2.1
 have hbsl := (r1_1).1
 rw [List.length_map] at hbsl
 have hfb := Cn.flatMap_le (f := Bt.entB) (b := 8000000) (l := (l.take k).drop fr) (fun x hx => hE x (List.take_subset _ _ (List.drop_subset _ _ hx)))
 have hcl : (((l.take k).drop fr)).length = k - fr := Bt.cur_len hk
 refine C.sr fun K10 => O.lssI s21_1 s20_1 (K10 (C.sq fun K11 => C.condD rfl (fun c22 => ?_) (fun c22 => ?_)))
 ·
  have hk2 : k < l.length := by omega
  refine C.skip (K11 (C.sq fun K12 => C.bl fun K13 => C.sr fun K14 => O.mv (O.idx U22 Z50 rfl s19_1 (hr.keep e_1) s21_1 (by omega) (fun a24 h24 => O.loadG (G := entF) isAgg50 Z50 rfl h24 ?_))))
  have hk9r : k < raw.length := by have q9 := ((he.keep e_1)).1; omega
  have hk8r : k < l.length := by have q9 := ((he.keep e_1)).1; omega
  have sp1_ : ∃ q : EntR, q = raw[k] := ⟨_, rfl⟩
  obtain ⟨r, hrr⟩ := sp1_
  have sp2_ : ∃ q : EntT, q = l[k] := ⟨_, rfl⟩
  obtain ⟨x, hxr⟩ := sp2_
  have t0 := ((he.keep e_1)).2 k hk9r hk8r
  have hkxr : r.1 = x.1 := by rw [hrr, hxr]; exact t0.1
  have hca : CartAt w2 F r.2 x.2 := by rw [hrr, hxr]; exact t0.2
  have hmxr : x ∈ l := by rw [hxr]; exact List.getElem_mem _
  have hbr := hB x hmxr
  refine O.cast (v' := .agg #[str r.1, slv r.2.1.1, slv r.2.1.2, slv r.2.2]) (by rw [hrr]; rfl) ?_
  have hvx := Bt.ord_cart hO hmxr
  have hel2 := Bt.entB_len x
  have hex := hE x hmxr
  have hrl1 : r.1.length = x.1.length := by rw [hkxr]
  have hcs := Bt.cur_size hk2 hfk
  have hcs0 := Bt.cur_size0 hk2
  have hfi := Bt.fits_iff hk2 hfk
  rw [← hxr] at hcs hcs0 hfi
  refine O.alloc zeroValue50 (fun b8 w3 hb8 hz8 e3 => ?_)
  have z3 := e3.size
  have h8 := hz8.own
  have hl8 := h8.lt
  refine O.asg (O.storeA (vs := [str r.1, slv r.2.1.1, slv r.2.1.2, slv r.2.2]) Z50 rfl rfl rfl (by intro u hu; simp only [List.mem_cons, List.not_mem_nil, or_false] at hu; rcases hu with rfl | rfl | rfl | rfl <;> rfl) h8 (leB rfl) (fun w4 hs4 e4 z4 => K14 (C.sr fun K15 => O.fa U50 rfl Z47 rfl (O.loadOA isAgg47 Z47 rfl hs4 (leB rfl) ?_))))
  have t1 := Ext.trans e_1 e3
  have t2 := (hca.keep e3).keepA e4
  refine O.call call65 (args1 rfl) (size_spec (slv r.2.1.1) (slv r.2.1.2) (slv r.2.2) x.2 F _ (t2).1 (t2).2.1 (t2).2.2 (fun j hj => by have q1 := hF j hj; omega) hbr.2.2.2.1 hbr.2.2.2.2 hbr.2.1 hbr.2.2.1 (mx.keep (Ext.nr t1 e4))) ?_
  rintro v_29 w5 ⟨rfl, e5⟩
  have z5 := e5.size
  refine O.mv (O.extract rfl rfl (O.cast (v' := .int .i64 ((Cn.bytes x.2).length : Int)) (show Value.int IntKind.i64 (if Cn.valid x.2 = true then ((Cn.bytes x.2).length : Int) else 0) = _ by rw [if_pos hvx]) (O.extract rfl rfl (O.asg (O.asg (K15 (C.sd fun K16 w6 e6 z6 => D.mv 0 rfl (Le.refl _) (D.t 1 rfl (Le.refl _) (fun _ _ _ hN => O.fa U50 rfl Z9 rfl (O.nil hN)) (D.t 2 rfl (Le.refl _) (fun _ hw_ _ hN => O.loadO isAgg9 rfl (((hs4.keep e5).keep e6).keep hw_) rfl (O.nil hN)) (D.tk 3 rfl rfl rfl rfl (Le.refl _) len_form (fun _ hw_ _ hN => O.lenS U9 rfl (O.nil hN)) ?_))))))))))
  refine D.t 4 rfl (Le.refl _) (fun _ _ _ hN => O.convIU (m' := 64) U3 U110 rfl rfl rfl (O.nil hN)) (D.t 6 rfl (Le.refl _) (fun _ _ _ hN => O.fa U50 rfl Z9 rfl (O.nil hN)) (D.t 7 rfl (Le.refl _) (fun _ hw_ _ hN => O.loadO isAgg9 rfl (((hs4.keep e5).keep e6).keep hw_) rfl (O.nil hN)) (D.tk 8 rfl rfl rfl rfl (Le.refl _) len_form (fun _ hw_ _ hN => O.lenS U9 rfl (O.nil hN)) (D.on 5 rfl rfl (O.call call66 (args1 rfl) (nsize_spec _ _) ?_)))))
  rintro v_37 w7 ⟨rfl, e7⟩
  have z7 := e7.size
  refine O.nil ⟨e7, D.cast (v' := .int .i64 ((Cn.num x.1.length).length : Int)) (congrArg (fun n : Nat => Value.int .i64 ((Cn.num n).length : Int)) (show (BitVec.ofInt 64 ((r.1.length : Nat) : Int)).toNat = x.1.length by rw [Cn.u_def, Cn.u_nat (by omega), hkxr])) (D.t 9 rfl e7 (fun _ _ _ hN => O.addI rfl rfl (by unfold InI; omega) (O.nil hN)) (D.t 10 rfl e7 (fun _ _ _ hN => O.addI rfl rfl (by unfold InI; omega) (O.nil hN)) (D.cast (v' := .int .i64 ((Bt.entB x).length : Int)) (congrArg (Value.int .i64) (show ((Cn.bytes x.2).length : Int) + (((Cn.num x.1.length).length : Int) + (r.1.length : Int)) = ((Bt.entB x).length : Int) by omega)) (D.as 11 rfl e7 (K16 (C.sr fun K17 => ?_))))))⟩
  refine O.mv (O.mv (O.subI s21_1 s5_1 (by unfold InI; omega) (O.addI rfl rfl (by unfold InI; omega) (O.cast (v' := .int .i64 ((k - fr + 1 : Nat) : Int)) (congrArg (Value.int .i64) (by omega)) (O.asg (K17 (C.sq fun K18 => C.sr fun K19 => O.mv (O.mv (O.gtrI s21_1 s5_1 (O.mv (O.splitD (x := .tmp 50) rfl (fun c50 => ?_) (fun c50 => ?_))))))))))))
  ·
   refine O.yes rfl (isT rfl c50) (O.mv (O.yes rfl (isT rfl c50) (O.gtrI rfl rfl (O.yes rfl (isT rfl c50) (O.mv (O.splitD (x := .tmp 53) rfl (fun c53 => ?_) (fun c53 => ?_)))))))
   ·
    have hnf : ¬ Bt.fits ((l.take (k + 1)).drop fr) := fun q => by have := (hfi.1 q).1; omega
    have hmem := hD.flush hk2 (by omega) hnf
    refine O.no rfl (noB (isT rfl c53) rfl) (O.no rfl (noB (isT rfl c53) rfl) (O.no rfl (noB (isT rfl c53) rfl) (O.no rfl (noB (isT rfl c53) rfl) (O.no rfl (noB (isT rfl c53) rfl) (O.no rfl (noB (isT rfl c53) rfl) (O.no rfl (noB (isT rfl c53) rfl) (O.no rfl (noB (isT rfl c53) rfl) (O.no rfl (noB (isT rfl c53) rfl) (O.yes rfl (isT rfl c50) (O.pickT (isT rfl c53) (O.pickT (isT rfl c50) (K19 (C.condT rfl (C.sr fun K20 => O.mv (O.mv (O.mv ?_))))))))))))))))
    have t3 := Ext.trans (Ext.nr t1 e4) e5
    have t4 := Ext.trans (Ext.trans t3 e6) e7
    have hb69 := Sl.sub (P := prog) (fr) (k) U22 Z50 (by rfl) (hr.keep t4) (by omega) (by omega)
    obtain ⟨v69, hs69, hr69⟩ := hb69
    refine O.subR s0_1 hr69 (.inr ⟨_, _, rfl, s5_1⟩) (.inr ⟨_, _, rfl, s21_1⟩) ?_
    have hsb69 := ((he.keep t4)).sub fr k
    refine O.call call36 (args1 rfl) (bencode_spec v69 ((raw.take k).drop fr) ((l.take k).drop fr) F _ hs69 hsb69 (fun j hj => by have q1 := hF j hj; omega) (hB.sub (fun x hx => (List.take_subset _ _ (List.drop_subset _ _ hx)))) (mx.keep t4) (fun hv => by have := Bt.split_len hE hmem; omega)) ?_
    rintro v_70 w8 ⟨rv70, rfl, hv70, e8⟩
    have z8 := e8.size
    have hvc := Bt.split_valid hO hmem
    rw [if_pos hvc] at hv70
    have h70s := hv70.sl
    have h70b := hv70.bk_ge
    have h70v := h70s.slv
    obtain ⟨q70, h70v⟩ := h70v
    subst h70v
    refine O.mv (O.extract rfl rfl (O.extract rfl rfl (O.asg (O.asg (K20 (C.sq fun K21 => C.sr fun K22 => O.mv (O.neqI rfl rfl (O.cast (v' := .bool false) (congrArg Value.bool (by simp [hvc])) (K22 (C.condF rfl (C.skip (K21 (C.sr fun K23 => O.mv (O.mv (O.lit1 U38 ti30 ts30 tz30 rfl rfl (fun b78 w9 hb78 hz78 e9 => ?_))))))))))))))))
    have z9 := e9.size
    have h78 := hz78.own
    have hl78 := h78.lt
    have hq78 : Sl slF.enc w9 (fun j => j = b78) (.slice (some ⟨b78, 0, none⟩) 1 1) [q70] := Sl.litG (G := slF) (n := 1) h78 rfl (by unfold maxLen; omega)
    have t5 := ((r0_1.keep e3).keepA e4).keep e5
    have t6 := ((t5.keep e6).keep e7).keep e8
    refine O.appG (G := slF) U38 ti30 tz30 ts30 rfl s4_1 rfl (t6.keep e9) hq78 (by rw [tb30]; simp; omega) (by unfold maxLen; simp; omega) (fun v79 gg79 w10 h79 hg79 e10 hw79 => ?_)
    have e10m := e10.mono (M' := fun k => k = _) (fun k _ hk => (t6.keep e9).2.1 k hk)
    have z10 := e10.size
    have hgl79 := h79.2.2
    have hob79 : ∀ j, bk v79 j → w.heap.size ≤ j := fun j hj => by
     rcases hw79 j hj with q | q
     ·exact hob j q
     ·omega
    have hg79 : w.heap.size ≤ gg79 := hob79 _ (h79.bk (by simp))
    have hgg79 := (hw79 _ (h79.bk (by simp))).imp (hogu _) id
    have sp3_ : ∃ n, n = w10.heap.size := ⟨_, rfl⟩
    obtain ⟨hi79, hhi79⟩ := sp3_
    have hbs79 : SlsL byteE w10 (fun j => w.heap.size ≤ j ∧ j < hi79 ∧ j ≠ gg79) (ro ++ [q70]) ((done ++ [((l.take k).drop fr)]).map Bt.enc) := by
     rw [List.map_append]
     exact ((((((((((r1_1.keep e3).keepA e4).keep e5).keep e6).keep e7).keep e8).keep e9).keepM e10 (by intro j hj h; exact hj.2.2 (hogu j h)))).weakA).snoc ((((h70s.keep e9).keepM e10 (by intro j hj h; have q1 := h70b j hj; have q3 := hogu j h; omega))).weak (fun j hj => by have := h70b j hj; (try dsimp only); omega))
    refine O.asg (K23 (C.region (O.mv (O.asg (O.asg (O.nil (K18 (C.region (O.mv (O.mv (O.addI rfl rfl (by unfold InI; omega) (O.asg (O.nil (K13 (K12 (C.region (O.addI s21_1 rfl (by unfold InI; omega) (O.mv (O.nil (⟨(k + 1, k, v79, gg79, ro ++ [q70], done ++ [((l.take k).drop fr)], hi79), ⟨rfl, rfl, s21_1, (Eq.trans rfl (i64_eq (by omega))), s0_1, s19_1, s20_1, (Ext.new (Ext.trans (Ext.trans t4 e8) e9) e10 (by intro i hi h; have := hob i h; omega)), h79, hbs79, ?_⟩, by first | omega | (simp only []; omega)⟩))))))))))))))))))))
    first
    | exact ⟨⟨by omega, by omega, fun _ => by omega⟩, hD.nextYes hk2 hfk hyf, hob, by omega, by omega⟩
    | exact ⟨⟨by omega, by omega, fun _ => by omega⟩, hD.nextNo hk2 (by omega) hnf, hob79, by omega, by rw [List.length_append, List.length_singleton]; omega⟩
   refine O.yes rfl (isF rfl c53) (O.mv (O.yes rfl (isF rfl c53) (O.convIU (m' := 64) U3 U110 rfl rfl rfl (O.yes rfl (isF rfl c53) (O.call call66 (args1 rfl) (nsize_spec _ _) ?_)))))
   rintro v_56 w11 ⟨rfl, e11⟩
   have z11 := e11.size
   have hnl56 := Cn.num_u (BitVec.ofInt 64 ((k - fr + 1 : Nat) : Int))
   refine O.yes rfl (isF rfl c53) (O.mv (O.yes rfl (isF rfl c53) (O.addI rfl s6_1 (by unfold InI; omega) (O.yes rfl (isF rfl c53) (O.mv (O.yes rfl (isF rfl c53) (O.addI rfl rfl (by unfold InI; omega) (O.yes rfl (isF rfl c53) (O.addI rfl rfl (by unfold InI; omega) (O.yes rfl (isF rfl c53) (O.gtrI rfl rfl (O.yes rfl (isT rfl c50) (O.pickF (isF rfl c53) (O.pickT (isT rfl c50) (K19 (C.condD rfl (fun c64 => ?_) (fun c64 => ?_)))))))))))))))))
   ·
    rw [Cn.u_def, Cn.u_nat (by omega)] at c64
    have hnf : ¬ Bt.fits ((l.take (k + 1)).drop fr) := fun q => by have := (hfi.1 q).2; omega
    have hmem := hD.flush hk2 (by omega) hnf
    refine C.sr fun K24 => O.mv (O.mv (O.mv ?_))
    have t7 := Ext.trans (Ext.nr t1 e4) e5
    have t8 := Ext.trans (Ext.trans t7 e6) e7
    have t9 := Ext.trans t8 e11
    have hb69 := Sl.sub (P := prog) (fr) (k) U22 Z50 (by rfl) (hr.keep t9) (by omega) (by omega)
    obtain ⟨v69, hs69, hr69⟩ := hb69
    refine O.subR s0_1 hr69 (.inr ⟨_, _, rfl, s5_1⟩) (.inr ⟨_, _, rfl, s21_1⟩) ?_
    have hsb69 := ((he.keep t9)).sub fr k
    refine O.call call36 (args1 rfl) (bencode_spec v69 ((raw.take k).drop fr) ((l.take k).drop fr) F _ hs69 hsb69 (fun j hj => by have q1 := hF j hj; omega) (hB.sub (fun x hx => (List.take_subset _ _ (List.drop_subset _ _ hx)))) (mx.keep t9) (fun hv => by have := Bt.split_len hE hmem; omega)) ?_
    rintro v_70 w12 ⟨rv70, rfl, hv70, e12⟩
    have z12 := e12.size
    have hvc := Bt.split_valid hO hmem
    rw [if_pos hvc] at hv70
    have h70s := hv70.sl
    have h70b := hv70.bk_ge
    have h70v := h70s.slv
    obtain ⟨q70, h70v⟩ := h70v
    subst h70v
    refine O.mv (O.extract rfl rfl (O.extract rfl rfl (O.asg (O.asg (K24 (C.sq fun K25 => C.sr fun K26 => O.mv (O.neqI rfl rfl (O.cast (v' := .bool false) (congrArg Value.bool (by simp [hvc])) (K26 (C.condF rfl (C.skip (K25 (C.sr fun K27 => O.mv (O.mv (O.lit1 U38 ti30 ts30 tz30 rfl rfl (fun b78 w13 hb78 hz78 e13 => ?_))))))))))))))))
    have z13 := e13.size
    have h78 := hz78.own
    have hl78 := h78.lt
    have hq78 : Sl slF.enc w13 (fun j => j = b78) (.slice (some ⟨b78, 0, none⟩) 1 1) [q70] := Sl.litG (G := slF) (n := 1) h78 rfl (by unfold maxLen; omega)
    have t10 := ((r0_1.keep e3).keepA e4).keep e5
    have t11 := ((t10.keep e6).keep e7).keep e11
    refine O.appG (G := slF) U38 ti30 tz30 ts30 rfl s4_1 rfl ((t11.keep e12).keep e13) hq78 (by rw [tb30]; simp; omega) (by unfold maxLen; simp; omega) (fun v79 gg79 w14 h79 hg79 e14 hw79 => ?_)
    have e14m := e14.mono (M' := fun k => k = _) (fun k _ hk => ((t11.keep e12).keep e13).2.1 k hk)
    have z14 := e14.size
    have hgl79 := h79.2.2
    have hob79 : ∀ j, bk v79 j → w.heap.size ≤ j := fun j hj => by
     rcases hw79 j hj with q | q
     ·exact hob j q
     ·omega
    have hg79 : w.heap.size ≤ gg79 := hob79 _ (h79.bk (by simp))
    have hgg79 := (hw79 _ (h79.bk (by simp))).imp (hogu _) id
    have sp4_ : ∃ n, n = w14.heap.size := ⟨_, rfl⟩
    obtain ⟨hi79, hhi79⟩ := sp4_
    have hbs79 : SlsL byteE w14 (fun j => w.heap.size ≤ j ∧ j < hi79 ∧ j ≠ gg79) (ro ++ [q70]) ((done ++ [((l.take k).drop fr)]).map Bt.enc) := by
     rw [List.map_append]
     exact (((((((((((r1_1.keep e3).keepA e4).keep e5).keep e6).keep e7).keep e11).keep e12).keep e13).keepM e14 (by intro j hj h; exact hj.2.2 (hogu j h)))).weakA).snoc ((((h70s.keep e13).keepM e14 (by intro j hj h; have q1 := h70b j hj; have q3 := hogu j h; omega))).weak (fun j hj => by have := h70b j hj; (try dsimp only); omega))
    refine O.asg (K27 (C.region (O.mv (O.asg (O.asg (O.nil (K18 (C.region (O.mv (O.mv (O.addI rfl rfl (by unfold InI; omega) (O.asg (O.nil (K13 (K12 (C.region (O.addI s21_1 rfl (by unfold InI; omega) (O.mv (O.nil (⟨(k + 1, k, v79, gg79, ro ++ [q70], done ++ [((l.take k).drop fr)], hi79), ⟨rfl, rfl, s21_1, (Eq.trans rfl (i64_eq (by omega))), s0_1, s19_1, s20_1, (Ext.new (Ext.trans (Ext.trans t9 e12) e13) e14 (by intro i hi h; have := hob i h; omega)), h79, hbs79, ?_⟩, by first | omega | (simp only []; omega)⟩))))))))))))))))))))
    first
    | exact ⟨⟨by omega, by omega, fun _ => by omega⟩, hD.nextYes hk2 hfk hyf, hob, by omega, by omega⟩
    | exact ⟨⟨by omega, by omega, fun _ => by omega⟩, hD.nextNo hk2 (by omega) hnf, hob79, by omega, by rw [List.length_append, List.length_singleton]; omega⟩
   rw [Cn.u_def, Cn.u_nat (by omega)] at c64
   have hyf : fr = k ∨ Bt.fits ((l.take (k + 1)).drop fr) := .inr (hfi.2 ⟨by omega, by omega⟩)
   refine C.skip (K18 (C.region (O.mv (O.mv (O.addI s6_1 rfl (by unfold InI; omega) (O.asg (O.nil (K13 (K12 (C.region (O.addI s21_1 rfl (by unfold InI; omega) (O.mv (O.nil (⟨(k + 1, fr, o, gl, ro, done, hi), ⟨rfl, s4_1, s5_1, (Eq.trans rfl (i64_eq (by omega))), s0_1, s19_1, s20_1, (Ext.trans (Ext.trans (Ext.trans (Ext.trans (Ext.nr t1 e4) e5) e6) e7) e11), ((((((r0_1.keep e3).keepA e4).keep e5).keep e6).keep e7).keep e11), ((((((r1_1.keep e3).keepA e4).keep e5).keep e6).keep e7).keep e11), ?_⟩, by first | omega | (simp only []; omega)⟩))))))))))))))
   exact ⟨⟨by omega, by omega, fun _ => by omega⟩, hD.nextYes hk2 hfk hyf, hob, by omega, by omega⟩
  have hyf : fr = k ∨ Bt.fits ((l.take (k + 1)).drop fr) := .inl (by omega)
  refine O.no rfl (noB (isF rfl c50) rfl) (O.no rfl (noB (isF rfl c50) rfl) (O.no rfl (noB (isF rfl c50) rfl) (O.no rfl (noU rfl) (O.no rfl (noU rfl) (O.no rfl (noU rfl) (O.no rfl (noU rfl) (O.no rfl (noU rfl) (O.no rfl (noU rfl) (O.no rfl (noU rfl) (O.no rfl (noU rfl) (O.no rfl (noU rfl) (O.no rfl (noB (isF rfl c50) rfl) (O.pickF (isF rfl c50) (K19 (C.condF rfl (C.skip (K18 (C.region (O.mv (O.mv (O.addI s6_1 rfl (by unfold InI; omega) (O.asg (O.nil (K13 (K12 (C.region (O.addI s21_1 rfl (by unfold InI; omega) (O.mv (O.nil ?_)))))))))))))))))))))))))))))
  refine ⟨(k + 1, fr, o, gl, ro, done, hi), ⟨rfl, s4_1, s5_1, (Eq.trans rfl (i64_eq (by omega))), s0_1, s19_1, s20_1, (Ext.trans (Ext.trans (Ext.trans (Ext.nr t1 e4) e5) e6) e7), (((((r0_1.keep e3).keepA e4).keep e5).keep e6).keep e7), (((((r1_1.keep e3).keepA e4).keep e5).keep e6).keep e7), ?_⟩, by first | omega | (simp only []; omega)⟩
  exact ⟨⟨by omega, by omega, fun _ => by omega⟩, hD.nextYes hk2 hfk hyf, hob, by omega, by omega⟩
 have hk3 : k = l.length := by omega
 refine C.exit (K9 (K7 (C.sq fun K28 => C.sr fun K29 => O.mv (O.mv (O.len U22 s0_1 (hr.keep e_1) (O.lssI s5_1 rfl (K29 (C.condD rfl (fun c88 => ?_) (fun c88 => ?_)))))))))
 ·
  have sp5_ := hD.last hk3 (by omega)
  obtain ⟨hsp, hmem⟩ := sp5_
  refine C.sr fun K30 => O.mv (O.mv ?_)
  have hb92 := Sl.sub (P := prog) (fr) (raw.length) U22 Z50 (by rfl) (hr.keep e_1) (by omega) (Nat.le_refl _)
  obtain ⟨v92, hs92, hr92⟩ := hb92
  refine O.subR s0_1 hr92 (.inr ⟨_, _, rfl, s5_1⟩) (.inl ⟨rfl, rfl⟩) ?_
  rw [List.take_length] at hs92
  have hsb92 := ((he.keep e_1)).drop fr
  refine O.call call36 (args1 rfl) (bencode_spec v92 (raw.drop fr) (l.drop fr) F _ hs92 hsb92 (fun j hj => by have q1 := hF j hj; omega) (hB.sub (fun x hx => (List.drop_subset _ _ hx))) (mx.keep e_1) (fun hv => by have := Bt.split_len hE hmem; omega)) ?_
  rintro v_93 w15 ⟨rv93, rfl, hv93, e15⟩
  have z15 := e15.size
  have hvc := Bt.split_valid hO hmem
  rw [if_pos hvc] at hv93
  have h93s := hv93.sl
  have h93b := hv93.bk_ge
  have h93v := h93s.slv
  obtain ⟨q93, h93v⟩ := h93v
  subst h93v
  refine O.mv (O.extract rfl rfl (O.extract rfl rfl (O.asg (O.asg (K30 (C.sq fun K31 => C.sr fun K32 => O.mv (O.neqI rfl rfl (O.cast (v' := .bool false) (congrArg Value.bool (by simp [hvc])) (K32 (C.condF rfl (C.skip (K31 (C.region (O.mv (O.mv (O.lit1 U38 ti30 ts30 tz30 rfl rfl (fun b101 w16 hb101 hz101 e16 => ?_)))))))))))))))))
  have z16 := e16.size
  have h101 := hz101.own
  have hl101 := h101.lt
  have hq101 : Sl slF.enc w16 (fun j => j = b101) (.slice (some ⟨b101, 0, none⟩) 1 1) [q93] := Sl.litG (G := slF) (n := 1) h101 rfl (by unfold maxLen; omega)
  refine O.appG (G := slF) U38 ti30 tz30 ts30 rfl s4_1 rfl ((r0_1.keep e15).keep e16) hq101 (by rw [tb30]; simp; omega) (by unfold maxLen; simp; omega) (fun v102 gg102 w17 h102 hg102 e17 hw102 => ?_)
  have e17m := e17.mono (M' := fun k => k = _) (fun k _ hk => ((r0_1.keep e15).keep e16).2.1 k hk)
  have z17 := e17.size
  have hgl102 := h102.2.2
  have hob102 : ∀ j, bk v102 j → w.heap.size ≤ j := fun j hj => by
   rcases hw102 j hj with q | q
   ·exact hob j q
   ·omega
  have hg102 : w.heap.size ≤ gg102 := hob102 _ (h102.bk (by simp))
  have hgg102 := (hw102 _ (h102.bk (by simp))).imp (hogu _) id
  have sp6_ : ∃ n, n = w17.heap.size := ⟨_, rfl⟩
  obtain ⟨hi102, hhi102⟩ := sp6_
  have hbs102 : SlsL byteE w17 (fun j => w.heap.size ≤ j ∧ j < hi102 ∧ j ≠ gg102) (ro ++ [q93]) ((done ++ [(l.drop fr)]).map Bt.enc) := by
   rw [List.map_append]
   exact (((((r1_1.keep e15).keep e16).keepM e17 (by intro j hj h; exact hj.2.2 (hogu j h)))).weakA).snoc ((((h93s.keep e16).keepM e17 (by intro j hj h; have q1 := h93b j hj; have q3 := hogu j h; omega))).weak (fun j hj => by have := h93b j hj; (try dsimp only); omega))
  refine O.asg (O.nil (K28 (C.sr fun K33 => O.mv (O.asg (O.asg (K33 (C.ret (Outs.two rfl rfl rfl ?_))))))))
  first
  | exact ⟨_, _, [], rfl, Sl.nil _ _ _, .inr ⟨hno, rfl, rfl⟩, (Ext.new (Ext.trans (Ext.trans e_1 e15) e16) e17 (by intro i hi h; have := hob i h; omega))⟩
  | (refine ⟨_, 0, (Bt.split l).map Bt.enc, rfl, ?_, .inl ⟨Bt.ord_iff.2 hO, rfl, rfl⟩, (Ext.new (Ext.trans (Ext.trans e_1 e15) e16) e17 (by intro i hi h; have := hob i h; omega))⟩
     rw [hsp]
     have hbk9 := (h102).1.bk_ge
     refine ((hbs102).weakA).sl ((h102).1.sl.weak (fun j hj => ⟨?_, (hbk9 j hj).2⟩))
     exact hob102 j hj)
 have hsp := hD.none hk3 (by omega)
 refine C.skip (K28 (C.sr fun K34 => O.mv (O.asg (O.asg (K34 (C.ret (Outs.two rfl s4_1 rfl ?_)))))))
 first
 | exact ⟨_, _, [], rfl, Sl.nil _ _ _, .inr ⟨hno, rfl, rfl⟩, e_1⟩
 | (refine ⟨_, 0, (Bt.split l).map Bt.enc, rfl, ?_, .inl ⟨Bt.ord_iff.2 hO, rfl, rfl⟩, e_1⟩
    rw [hsp]
    have hbk9 := (r0_1).1.bk_ge
    refine ((r1_1).weakA).sl ((r0_1).1.sl.weak (fun j hj => ⟨?_, (hbk9 j hj).2⟩))
    first
    | exact hob102 j hj
    | exact hob j hj)
theorem clipN_spec (w : World) :
 Ret prog 78 #[.slice none 0 0] w (fun v w' => v = .slice none 0 0 ∧ w' = w) := by
 refine enT [.slice none 0 0] 9 func78 rfl rfl (C.sr fun K1 => O.asg (K1 (C.sr fun K2 => O.mv (O.mv (O.len U22 rfl (Sl.nil entF.enc w (fun _ => False)) (O.mv (O.len U22 rfl (Sl.nil entF.enc w (fun _ => False)) (O.clipNil U22 Z50 rfl rfl rfl (O.asg (K2 (C.ret (Outs.one rfl rfl ?_))))))))))))
 exact ⟨rfl, rfl⟩
theorem clipS_spec (g n cap : Nat) (xs : List EntR) (w : World) (hs : Sl entF.enc w (fun k => k = g) (.slice (some ⟨g, 0, none⟩) n cap) xs) (hl : xs.length = n) (hc : n ≤ cap) :
 Ret prog 78 #[.slice (some ⟨g, 0, none⟩) n cap] w (fun v w' => v = .slice (some ⟨g, 0, none⟩) n n ∧ w' = w) := by
 refine enT [.slice (some ⟨g, 0, none⟩) n cap] 9 func78 rfl rfl (C.sr fun K1 => O.asg (K1 (C.sr fun K2 => O.mv (O.mv (O.len U22 rfl hs (O.cast (v' := .int .i64 (n : Int)) (by rw [hl]) (O.mv (O.len U22 rfl hs (O.cast (v' := .int .i64 (n : Int)) (by rw [hl]) (O.clip U22 Z50 rfl rfl rfl hc (O.asg (K2 (C.ret (Outs.one rfl rfl ?_))))))))))))))
 exact ⟨rfl, rfl⟩
theorem clip_spec (v0 : Value) (raw : List EntR) (ty : TypeId) (w : World) (h : OwnF entF ty 0 w v0 raw) : Ret prog 78 #[v0] w (fun v w' => Clip v0 v ∧ w' = w) := by
 rcases h.1.2 with ⟨rfl, _⟩ | ⟨g, cap, cur, rfl, hb, hg, hn, hc, _⟩
 ·refine (clipN_spec w).mono ?_
  rintro v w' ⟨rfl, rfl⟩
  exact ⟨.inl rfl, rfl⟩
 ·refine (clipS_spec g raw.length cap raw w h.sl rfl hn).mono ?_
  rintro v w' ⟨rfl, rfl⟩
  exact ⟨.inr ⟨g, _, cap, rfl, rfl⟩, rfl⟩
theorem cons_ent {W : World} {F : Nat → Prop} {va : Value} {ra : List EntR} {la : List EntT} (hs : Sl entF.enc W F va ra) (he : EntL W F ra la) (hp : 0 < ra.length) (ho : Bt.Ord la) (hm : Bt.Mid 20000 la) :
 ∃ (r : EntR) (ra2 : List EntR) (x : EntT) (la2 : List EntT), ra = r :: ra2 ∧ la = x :: la2 ∧ Sl entF.enc W F va (r :: ra2) ∧ EntL W F (r :: ra2) (x :: la2) ∧ CartAt W F r.2 x.2 ∧ r.1 = x.1 ∧ (Bt.Ord (x :: la2) ∧ Bt.Ord la2) ∧ (Bt.Mid 20000 (x :: la2) ∧ Bt.Mid 20000 la2) ∧ Jn.GoodC x.2 ∧ Cn.big x.2 ∧ la.length = la2.length + 1 := by
 have hl := he.1
 match ra, la, hp, hl with
 | r :: ra2, x :: la2, _, _ => exact ⟨r, ra2, x, la2, rfl, rfl, hs, he, he.head.2, he.head.1, ⟨ho, ho.tail⟩, ⟨hm, hm.sub (fun z hz => List.mem_cons_of_mem _ hz)⟩, (ho.ok x List.mem_cons_self).2, hm.big (by omega) (x := x) List.mem_cons_self, rfl⟩
theorem bmerge_spec (v0 : Value) (raw : List EntR) (l : List EntT) (F : Nat → Prop) (v1 : Value) (raw2 : List EntR) (l2 : List EntT) (F2 : Nat → Prop) (w : World) (hr : Sl entF.enc w F v0 raw) (he : EntL w F raw l) (hr2 : Sl entF.enc w F2 v1 raw2) (he2 : EntL w F2 raw2 l2) (hF : ∀ k, F k → k < w.heap.size) (hF2 : ∀ k, F2 k → k < w.heap.size) (hB : Bt.Big l) (hB2 : Bt.Big l2) (hM : Bt.Mid 20000 l) (hM2 : Bt.Mid 20000 l2) (hn : l.length + l2.length ≤ 1000000) (mx : Mx w) :
 Ret prog 34 #[v0, v1] w (fun v w' => ∃ (u : Value) (e : Int) (es : List EntT) (u' : Value), v = .tuple #[u, .int .i64 e] ∧ Clip u' u ∧ SlE 50 112 117 114 w' w.heap.size w'.heap.size u' es ∧ ((Bt.ordered l = true ∧ Bt.ordered l2 = true ∧ e = 0 ∧ es = Bt.merge l l2) ∨ ((Bt.ordered l = false ∨ Bt.ordered l2 = false) ∧ e = 2 ∧ es = [])) ∧ Le w w') := by
 obtain ⟨ie50, ti50, ts50, tb50, tz50⟩ := inf50
 have hl := he.1
 have hl2 := he2.1
 have hgl9 := mx.lt
 have _hF9 := hF
 have _hF8 := hF2
 refine enT [v0, v1] 100 func34 rfl rfl (C.sr fun K1 => O.asg (O.asg (K1 (C.scope (C.sq fun K2 => C.sr fun K3 => O.mv (O.call call59 (args1 rfl) (ordered_spec v0 raw l F _ hr he (fun j hj => by have q1 := hF j hj; omega) hB mx) ?_))))))
 rintro v_12 w1 ⟨rfl, e1⟩
 have z1 := e1.size
 refine O.not rfl (O.mv (O.split (x := .tmp 14) rfl (fun c14 => ?_) (fun c14 => ?_)))
 ·
  have hno : Bt.ordered l = false ∨ Bt.ordered l2 = false := .inl (by simpa using c14)
  refine O.no rfl (noB (isT' rfl c14) rfl) (O.no rfl (noB (isT' rfl c14) rfl) (O.no rfl (noB (isT' rfl c14) rfl) (O.pickT (isT' rfl c14) (K3 (C.condT rfl (C.sr fun K4 => O.asg (O.asg (K4 (C.ret (Outs.two rfl rfl rfl ?_))))))))))
  exact ⟨_, 2, [], _, rfl, .inl rfl, SlE.nil _ _ _ _ _ (by omega), .inr ⟨hno, rfl, rfl⟩, e1⟩
 refine O.yes rfl (isF' rfl c14) (O.mv (O.yes rfl (isF' rfl c14) (O.call call59 (args1 rfl) (ordered_spec v1 raw2 l2 F2 _ (hr2.keep e1) (he2.keep e1) (fun j hj => by have q1 := hF2 j hj; omega) hB2 (mx.keep e1)) ?_)))
 rintro v_16 w2 ⟨rfl, e2⟩
 have z2 := e2.size
 refine O.yes rfl (isF' rfl c14) (O.not rfl (O.pickF (isF' rfl c14) (K3 (C.cond rfl (fun c18 => ?_) (fun c18 => ?_)))))
 ·
  have hno : Bt.ordered l = false ∨ Bt.ordered l2 = false := .inr (by simpa using c18)
  refine C.sr fun K5 => O.asg (O.asg (K5 (C.ret (Outs.two rfl rfl rfl ?_))))
  exact ⟨_, 2, [], _, rfl, .inl rfl, SlE.nil _ _ _ _ _ (by omega), .inr ⟨hno, rfl, rfl⟩, (Ext.trans e1 e2)⟩
 have hO1 : Bt.ordered l = true := by simpa using c14
 have hO2 : Bt.ordered l2 = true := by simpa using c18
 have sp1_ : ∃ n, n = w2.heap.size := ⟨_, rfl⟩
 obtain ⟨n9, hn9⟩ := sp1_
 refine C.skip (K2 (C.sr fun K6 => O.asg (K6 (C.sq fun K7 => C.label (K7 (C.sq fun K8 => C.bl fun K9 => ?_))))))
 refine C.loop0 (σ := Value × Value × List EntR × List EntR × List EntT × List EntT × Value × Nat × List EntR × List EntT × Nat) (fun f0 w0 ⟨va, vb, ra, rb, la, lb, o, gl, raw3, done, hz⟩ f wz => f 0 = va ∧ f 1 = vb ∧ f 6 = o ∧ Le w wz ∧ Sl entF.enc wz F va ra ∧ EntL wz F ra la ∧ Sl entF.enc wz F2 vb rb ∧ EntL wz F2 rb lb ∧ OG entF 50 wz o gl raw3 ∧ EntsD 112 117 114 wz (fun j => j ≠ gl) n9 hz raw3 done ∧ Bt.merge l l2 = done ++ Bt.merge la lb ∧ (Bt.Ord la ∧ Bt.Ord lb) ∧ (Bt.Mid 20000 la ∧ Bt.Mid 20000 lb) ∧ (∀ j, bk o j → n9 ≤ j) ∧ (n9 ≤ hz ∧ hz ≤ wz.heap.size) ∧ done.length + la.length + lb.length ≤ l.length + l2.length) (fun ⟨va, vb, ra, rb, la, lb, o, gl, raw3, done, hz⟩ => la.length + lb.length) (v0, v1, raw, raw2, l, l2, .slice none 0 0, 0, [], [], n9) ?_ ?_
 ·
  refine ⟨rfl, rfl, rfl, (Ext.trans e1 e2), ((hr.keep e1).keep e2), ((he.keep e1).keep e2), ((hr2.keep e1).keep e2), ((he2.keep e1).keep e2), (OG.nil (by omega)), (EntsD.nil (Nat.le_refl _)), ?_⟩
  exact ⟨rfl, ⟨Bt.ord_iff.1 hO1, Bt.ord_iff.1 hO2⟩, ⟨hM, hM2⟩, fun _ h => h.elim, by omega, by simp⟩
 rintro ⟨va, vb, ra, rb, la, lb, o, gl, raw3, done, hz⟩ f_1 w3 ⟨s0_1, s1_1, s6_1, e_1, r0_1, r1_1, r2_1, r3_1, r4_1, r5_1, ⟨hmg, ⟨hoa, hob9⟩, ⟨hma, hmb⟩, hob, hhz, hdn⟩⟩
 have z_1 := e_1.size
 have hogl := (r4_1).2.2
 have hogu := (r4_1).2.1
 have hen := r5_1
 have hrx := hen.1
 have hal := (r1_1).1
 have hbl := (r3_1).1
 have hral := (r0_1).le
 have hrbl := (r2_1).le
 refine C.bl fun K10 => C.sr fun K11 => O.alloc zeroValue50 (fun b7 w4 hb7 hz7 e4 => ?_)
 have z4 := e4.size
 have h7 := hz7.own
 have hl7 := h7.lt
 refine K11 (C.sq fun K12 => C.bl fun K13 => C.sr fun K14 => O.mv (O.len U22 s0_1 (r0_1.keep e4) (O.eqlI rfl rfl (O.mv (O.cut 4 (fun f f' => f' 71 = .bool (decide ((ra.length : Int) = 0 ∧ (rb.length : Int) = 0)) ∧ f' 0 = f 0 ∧ f' 1 = f 1 ∧ f' 6 = f 6 ∧ f' 7 = f 7) ?_ ?_)))))
 ·
  refine O.splitD (x := .tmp 67) rfl (fun c67 => ?_) (fun c67 => ?_)
  ·
   refine O.yes rfl (isT rfl c67) (O.mv (O.yes rfl (isT rfl c67) (O.len U22 s1_1 (r2_1.keep e4) (O.yes rfl (isT rfl c67) (O.eqlI rfl rfl (O.pickT (isT rfl c67) (O.nil (⟨⟨?_, rfl, rfl, rfl, rfl⟩, rfl⟩))))))))
   exact dJ rfl
  refine O.no rfl (noB (isF rfl c67) rfl) (O.no rfl (noB (isF rfl c67) rfl) (O.no rfl (noB (isF rfl c67) rfl) (O.pickF (isF rfl c67) (O.nil (⟨⟨?_, rfl, rfl, rfl, rfl⟩, rfl⟩)))))
  exact dJ rfl
 rintro f_2 ⟨s71_2, s0_2, s1_2, s6_2, s7_2⟩
 refine O.asg (K14 (C.condD s71_2 (fun c63 => ?_) (fun c63 => ?_)))
 ·
  have hla0 : la = [] := List.eq_nil_of_length_eq_zero (by omega)
  have hlb0 : lb = [] := List.eq_nil_of_length_eq_zero (by omega)
  have hfin : Bt.merge l l2 = done := by rw [hmg, hla0, hlb0, Bt.merge_nil, List.append_nil]
  refine C.exit (K9 (K8 (C.sr fun K15 => O.mv (O.call call78 (args1 (Eq.trans s6_2 s6_1)) (clip_spec o raw3 50 _ ((r4_1.keep e4)).1) ?_))))
  rintro v_99 w5 ⟨hkv99, rfl⟩
  refine O.asg (O.asg (K15 (C.ret (Outs.two rfl rfl rfl ?_))))
  first
  | exact ⟨_, 2, [], _, rfl, .inl rfl, SlE.nil _ _ _ _ _ (by omega), .inr ⟨hno, rfl, rfl⟩, (Ext.trans e_1 e4)⟩
  | (refine ⟨_, 0, done, o, rfl, hkv99, ⟨raw3, ((r4_1.keep e4)).1.fre (fun j hj => ?_), (((r5_1.keep e4)).weak (fun k _ _ hG hb => hG (hogu k hb))).wide (by omega) (by omega)⟩, .inl ⟨hO1, hO2, rfl, hfin.symm⟩, (Ext.trans e_1 e4)⟩
     have := hob j hj
     have := (((r4_1.keep e4)).1.bk_ge j hj)
     (try dsimp only)
     omega)
 refine C.sr fun K16 => O.mv (O.len U22 (Eq.trans s1_2 s1_1) (r2_1.keep e4) (O.eqlI rfl rfl (O.asg (K16 ?_))))
 refine C.join (fun f w f' w' => Ext (fun k => k = b7) w w' ∧ f' 6 = f 6 ∧ f' 7 = f 7 ∧ ∃ (va3 : Value) (vb3 : Value) (ra3 : List EntR) (rb3 : List EntR) (la3 : List EntT) (lb3 : List EntT) (ck : List UInt8) (q1 : Raw) (q2 : Raw) (q3 : Raw) (cc : CartT), f' 0 = va3 ∧ f' 1 = vb3 ∧ Own w' b7 50 [str ck, slv q1, slv q2, slv q3] ∧ Sl entF.enc w' F va3 ra3 ∧ EntL w' F ra3 la3 ∧ Sl entF.enc w' F2 vb3 rb3 ∧ EntL w' F2 rb3 lb3 ∧ CartAt w' (fun j => j < w'.heap.size ∧ j ≠ b7) ((q1, q2), q3) cc ∧ Bt.merge la lb = (ck, cc) :: Bt.merge la3 lb3 ∧ (Bt.Ord la3 ∧ Bt.Ord lb3) ∧ (Bt.Mid 20000 la3 ∧ Bt.Mid 20000 lb3) ∧ Cn.big cc ∧ la3.length + lb3.length + 1 ≤ la.length + lb.length) ?_ ?_
 ·
  refine C.condD rfl (fun c72 => ?_) (fun c72 => ?_)
  ·
   have hlb0 : lb = [] := List.eq_nil_of_length_eq_zero (by omega)
   have ca9 := cons_ent (r0_1.keep e4) (r1_1.keep e4) (by omega) hoa hma
   obtain ⟨r, ra2, x, la2, hra, hla, hsa, hea, hca, hkxr, ⟨hoaC, hoa2⟩, ⟨hmaC, hma2⟩, hgx, hbx, hlal⟩ := ca9
   have hmid := hmaC x List.mem_cons_self
   have hP : Bt.merge la lb = (r.1, x.2) :: Bt.merge la2 lb ∧ (Bt.Ord la2 ∧ Bt.Ord lb) ∧ (Bt.Mid 20000 la2 ∧ Bt.Mid 20000 lb) ∧ Cn.big x.2 ∧ la2.length + lb.length + 1 ≤ la.length + lb.length := ⟨by rw [hla, hlb0, Bt.mrg_a0, hkxr], ⟨hoa2, hob9⟩, ⟨hma2, hmb⟩, hbx, by omega⟩
   refine C.drawB (wB := w3) (by kernel_rfl) fun w5 e5 => ?_
   have z5 := e5.size
   refine D.mv 0 rfl (Ext.trans e4 e5) (D.mv 3 rfl (Ext.trans e4 e5) ?_)
   have hb80 := Sl.sub (P := prog) (1) ((r :: ra2).length) U22 Z50 (by rfl) (hsa.keep e5) (by simp) (Nat.le_refl _)
   obtain ⟨v80, hs80, hr80⟩ := hb80
   refine D.t 4 rfl (Ext.trans e4 e5) (fun _ _ _ hN => O.subR (Eq.trans s0_2 s0_1) hr80 (.inr ⟨_, _, rfl, rfl⟩) (.inl ⟨rfl, rfl⟩) (O.nil hN)) ?_
   rw [List.take_length] at hs80
   replace hs80 : Sl entF.enc _ F v80 ra2 := hs80
   have het80 := ((hea.keep e5)).tail
   refine D.on 1 rfl rfl (O.idx U22 Z50 rfl (Eq.trans s0_2 s0_1) (hsa.keep e5) rfl (by simp) (fun a77 h77 => O.nil ⟨(Ext.trans e4 e5), D.on 2 rfl rfl (O.loadG (G := entF) isAgg50 Z50 rfl h77 (O.nil ⟨(Ext.trans e4 e5), D.cast (v' := .agg #[str r.1, slv r.2.1.1, slv r.2.1.2, slv r.2.2]) rfl (D.on 5 rfl rfl (O.storeA (vs := [str r.1, slv r.2.1.1, slv r.2.1.2, slv r.2.2]) Z50 rfl s7_2 rfl (by intro u hu; simp only [List.mem_cons, List.not_mem_nil, or_false] at hu; rcases hu with rfl | rfl | rfl | rfl <;> rfl) (h7.keep e5) (leB rfl) (fun w6 hs6 e6 z6 => ?_)))⟩))⟩))
   have t0 := Ext.nr (Ext.trans e4 e5) e6
   refine O.nil ⟨t0, D.as 6 rfl t0 (D.dn ?_)⟩
   exact ⟨(Ext.nw (Ext.nw (Ext.refl _ _) e5) e6), rfl, rfl, ⟨_, _, _, _, _, _, _, _, _, _, _, rfl, (Eq.trans s1_2 s1_1), hs6, (hs80.keepA e6), (het80.keepA e6), (((r2_1.keep e4).keep e5).keepA e6), (((r3_1.keep e4).keep e5).keepA e6), ((((hca.keep e5).keepA e6)).weak (fun j hj => by first | (have q9 := hF j hj; (try dsimp only); omega) | (have q9 := hF2 j hj; (try dsimp only); omega) | ((try dsimp only at hj); (try dsimp only); omega))), hP⟩⟩
  refine C.sr fun K17 => O.mv (O.len U22 (Eq.trans s0_2 s0_1) (r0_1.keep e4) (O.eqlI rfl rfl (O.asg (K17 (C.condD rfl (fun c81 => ?_) (fun c81 => ?_))))))
  ·
   have hla0 : la = [] := List.eq_nil_of_length_eq_zero (by omega)
   have cb9 := cons_ent (r2_1.keep e4) (r3_1.keep e4) (by omega) hob9 hmb
   obtain ⟨s, rb2, y, lb2, hrb, hlb, hsb, heb, hcb, hkys, ⟨hobC, hob2⟩, ⟨hmbC, hmb2⟩, hgy, hby, hlbl⟩ := cb9
   have hmiy := hmbC y List.mem_cons_self
   have hP : Bt.merge la lb = (s.1, y.2) :: Bt.merge la lb2 ∧ (Bt.Ord la ∧ Bt.Ord lb2) ∧ (Bt.Mid 20000 la ∧ Bt.Mid 20000 lb2) ∧ Cn.big y.2 ∧ la.length + lb2.length + 1 ≤ la.length + lb.length := ⟨by rw [hlb, hla0, Bt.mrg_b0, hkys], ⟨hoa, hob2⟩, ⟨hma, hmb2⟩, hby, by omega⟩
   refine C.drawB (wB := w3) (by kernel_rfl) fun w7 e7 => ?_
   have z7 := e7.size
   refine D.mv 0 rfl (Ext.trans e4 e7) (D.mv 3 rfl (Ext.trans e4 e7) ?_)
   have hb89 := Sl.sub (P := prog) (1) ((s :: rb2).length) U22 Z50 (by rfl) (hsb.keep e7) (by simp) (Nat.le_refl _)
   obtain ⟨v89, hs89, hr89⟩ := hb89
   refine D.t 4 rfl (Ext.trans e4 e7) (fun _ _ _ hN => O.subR (Eq.trans s1_2 s1_1) hr89 (.inr ⟨_, _, rfl, rfl⟩) (.inl ⟨rfl, rfl⟩) (O.nil hN)) ?_
   rw [List.take_length] at hs89
   replace hs89 : Sl entF.enc _ F2 v89 rb2 := hs89
   have het89 := ((heb.keep e7)).tail
   refine D.on 1 rfl rfl (O.idx U22 Z50 rfl (Eq.trans s1_2 s1_1) (hsb.keep e7) rfl (by simp) (fun a86 h86 => O.nil ⟨(Ext.trans e4 e7), D.on 2 rfl rfl (O.loadG (G := entF) isAgg50 Z50 rfl h86 (O.nil ⟨(Ext.trans e4 e7), D.cast (v' := .agg #[str s.1, slv s.2.1.1, slv s.2.1.2, slv s.2.2]) rfl (D.on 5 rfl rfl (O.storeA (vs := [str s.1, slv s.2.1.1, slv s.2.1.2, slv s.2.2]) Z50 rfl s7_2 rfl (by intro u hu; simp only [List.mem_cons, List.not_mem_nil, or_false] at hu; rcases hu with rfl | rfl | rfl | rfl <;> rfl) (h7.keep e7) (leB rfl) (fun w8 hs8 e8 z8 => ?_)))⟩))⟩))
   have t1 := Ext.nr (Ext.trans e4 e7) e8
   refine O.nil ⟨t1, D.as 6 rfl t1 (D.dn ?_)⟩
   exact ⟨(Ext.nw (Ext.nw (Ext.refl _ _) e7) e8), rfl, rfl, ⟨_, _, _, _, _, _, _, _, _, _, _, (Eq.trans s0_2 s0_1), rfl, hs8, (((r0_1.keep e4).keep e7).keepA e8), (((r1_1.keep e4).keep e7).keepA e8), (hs89.keepA e8), (het89.keepA e8), ((((hcb.keep e7).keepA e8)).weak (fun j hj => by first | (have q9 := hF j hj; (try dsimp only); omega) | (have q9 := hF2 j hj; (try dsimp only); omega) | ((try dsimp only at hj); (try dsimp only); omega))), hP⟩⟩
  have ca9 := cons_ent (r0_1.keep e4) (r1_1.keep e4) (by omega) hoa hma
  obtain ⟨r, ra2, x, la2, hra, hla, hsa, hea, hca, hkxr, ⟨hoaC, hoa2⟩, ⟨hmaC, hma2⟩, hgx, hbx, hlal⟩ := ca9
  have hmid := hmaC x List.mem_cons_self
  have cb9 := cons_ent (r2_1.keep e4) (r3_1.keep e4) (by omega) hob9 hmb
  obtain ⟨s, rb2, y, lb2, hrb, hlb, hsb, heb, hcb, hkys, ⟨hobC, hob2⟩, ⟨hmbC, hmb2⟩, hgy, hby, hlbl⟩ := cb9
  have hmiy := hmbC y List.mem_cons_self
  refine C.sd fun K18 w9 e9 z9 => D.mv 0 rfl (Le.refl _) ?_
  have sp2_ := Sl.at (i := 0) (P := prog) U22 Z50 rfl (hsa.keep e9) (by simp)
  obtain ⟨a20, h20, hr20⟩ := sp2_
  refine D.t 1 rfl (Le.refl _) (fun _ _ _ hN => O.idxR (Eq.trans s0_2 s0_1) rfl hr20 (O.nil hN)) (D.t 2 rfl (Le.refl _) (fun _ _ _ hN => O.ft U50 rfl Z9 rfl (O.nil hN)) (D.t 3 rfl (Le.refl _) (fun _ hw_ _ hN => O.loadAtF (G := entF) isAgg9 rfl rfl (h20.keep hw_) (O.nil hN)) (D.cast (v' := str r.1) rfl (D.mv 4 rfl (Le.refl _) ?_))))
  have sp3_ := Sl.at (i := 0) (P := prog) U22 Z50 rfl (hsb.keep e9) (by simp)
  obtain ⟨a24, h24, hr24⟩ := sp3_
  refine D.t 5 rfl (Le.refl _) (fun _ _ _ hN => O.idxR (Eq.trans s1_2 s1_1) rfl hr24 (O.nil hN)) (D.t 6 rfl (Le.refl _) (fun _ _ _ hN => O.ft U50 rfl Z9 rfl (O.nil hN)) (D.t 7 rfl (Le.refl _) (fun _ hw_ _ hN => O.loadAtF (G := entF) isAgg9 rfl rfl (h24.keep hw_) (O.nil hN)) (D.cast (v' := str s.1) rfl (D.on 8 rfl rfl (O.call call76 (args2 rfl rfl) (strcmp_spec r.1 s.1 _) ?_)))))
  rintro v_27 w10 ⟨rfl, hw_⟩
  replace hw_ := hw_.symm
  subst hw_
  refine O.nil ⟨(Le.refl _), ?_⟩
  have sp4_ : ∃ z, z = Jn.scmp r.1 s.1 := ⟨_, rfl⟩
  obtain ⟨z, hz9⟩ := sp4_
  refine D.cast (v' := .int .i64 z) (by rw [hz9]) (D.as 9 rfl (Le.refl _) (K18 (C.sr fun K19 => O.mv (O.idx U22 Z50 rfl (Eq.trans s0_2 s0_1) (hsa.keep e9) rfl (by simp) (fun a29 h29 => O.loadG (G := entF) isAgg50 Z50 rfl h29 (O.cast (v' := .agg #[str r.1, slv r.2.1.1, slv r.2.1.2, slv r.2.2]) rfl (O.storeA (vs := [str r.1, slv r.2.1.1, slv r.2.1.2, slv r.2.2]) Z50 rfl s7_2 rfl (by intro u hu; simp only [List.mem_cons, List.not_mem_nil, or_false] at hu; rcases hu with rfl | rfl | rfl | rfl <;> rfl) (h7.keep e9) (leB rfl) (fun w10 hs10 e10 z10 => K19 (C.sq fun K20 => C.sr fun K21 => O.mv (O.gtrI rfl rfl (K21 ?_)))))))))))
  refine C.condD rfl (fun c32 => ?_) (fun c32 => ?_)
  ·
   have hzb : Jn.BL y.1 x.1 := by rw [← hkxr, ← hkys]; exact (Jn.scmp_gt _ _).1 (by omega)
   have hP : Bt.merge la lb = (s.1, y.2) :: Bt.merge (x :: la2) lb2 ∧ (Bt.Ord (x :: la2) ∧ Bt.Ord lb2) ∧ (Bt.Mid 20000 (x :: la2) ∧ Bt.Mid 20000 lb2) ∧ Cn.big y.2 ∧ (x :: la2).length + lb2.length + 1 ≤ la.length + lb.length := ⟨by rw [hla, hlb, Bt.mrg_b hzb, hkys], ⟨hoaC, hob2⟩, ⟨hmaC, hmb2⟩, hby, by rw [List.length_cons]; omega⟩
   have hcb9 := ((hcb.keep e9).keepA e10)
   refine C.region (O.mv (O.idx U22 Z50 rfl (Eq.trans s1_2 s1_1) ((hsb.keep e9).keepA e10) rfl (by simp) (fun a34 h34 => O.loadG (G := entF) isAgg50 Z50 rfl h34 (O.cast (v' := .agg #[str s.1, slv s.2.1.1, slv s.2.1.2, slv s.2.2]) rfl (O.storeA (vs := [str s.1, slv s.2.1.1, slv s.2.1.2, slv s.2.2]) Z50 rfl s7_2 rfl (by intro u hu; simp only [List.mem_cons, List.not_mem_nil, or_false] at hu; rcases hu with rfl | rfl | rfl | rfl <;> rfl) hs10 (leB rfl) (fun w11 hs11 e11 z11 => O.nil (K20 (C.sq fun K22 => C.sr fun K23 => O.mv (O.eqlI rfl rfl (K23 (C.condD rfl (fun c37 => ?_) (fun c37 => ?_))))))))))))
   ·
    have hze : x.1 = y.1 := by rw [← hkxr, ← hkys]; exact (Jn.scmp_zero _ _).1 (by omega)
    have hbj := Bt.join_big hmid hmiy (by omega) hgx hgy
    have hP : Bt.merge la lb = (r.1, Jn.join x.2 y.2) :: Bt.merge la2 lb2 ∧ (Bt.Ord la2 ∧ Bt.Ord lb2) ∧ (Bt.Mid 20000 la2 ∧ Bt.Mid 20000 lb2) ∧ Cn.big (Jn.join x.2 y.2) ∧ la2.length + lb2.length + 1 ≤ la.length + lb.length := ⟨by rw [hla, hlb, Bt.mrg_ab hze, hkxr], ⟨hoa2, hob2⟩, ⟨hma2, hmb2⟩, hbj, by omega⟩
    exfalso; omega
   refine C.skip (K22 (C.sq fun K24 => C.sr fun K25 => O.mv (O.leqI rfl rfl (K25 (C.condD rfl (fun c56 => ?_) (fun c56 => ?_))))))
   ·
    exfalso; omega
   refine C.skip (K24 (C.sr fun K26 => O.mv (O.geqI rfl rfl (K26 (C.condD rfl (fun c60 => ?_) (fun c60 => ?_))))))
   ·
    refine C.region (O.mv ?_)
    have hb62 := Sl.sub (P := prog) (1) ((s :: rb2).length) U22 Z50 (by rfl) (((hsb.keep e9).keepA e10).keepA e11) (by simp) (Nat.le_refl _)
    obtain ⟨v62, hs62, hr62⟩ := hb62
    refine O.subR (Eq.trans s1_2 s1_1) hr62 (.inr ⟨_, _, rfl, rfl⟩) (.inl ⟨rfl, rfl⟩) ?_
    rw [List.take_length] at hs62
    replace hs62 : Sl entF.enc _ F2 v62 rb2 := hs62
    have het62 := ((((heb.keep e9).keepA e10).keepA e11)).tail
    refine O.asg (O.nil ?_)
    exact ⟨(Ext.nw (Ext.nw (Ext.nw (Ext.refl _ _) e9) e10) e11), rfl, rfl, ⟨_, _, _, _, _, _, _, _, _, _, _, (Eq.trans s0_2 s0_1), rfl, hs11, (((hsa.keep e9).keepA e10).keepA e11), (((hea.keep e9).keepA e10).keepA e11), hs62, het62, (((hcb9.keepA e11)).weak (fun j hj => by first | (have q9 := hF j hj; (try dsimp only); omega) | (have q9 := hF2 j hj; (try dsimp only); omega) | ((try dsimp only at hj); (try dsimp only); omega))), hP⟩⟩
   have hza : Jn.BL x.1 y.1 := by rw [← hkxr, ← hkys]; exact (Jn.scmp_lt _ _).1 (by omega)
   have hP : Bt.merge la lb = (r.1, x.2) :: Bt.merge la2 (y :: lb2) ∧ (Bt.Ord la2 ∧ Bt.Ord (y :: lb2)) ∧ (Bt.Mid 20000 la2 ∧ Bt.Mid 20000 (y :: lb2)) ∧ Cn.big x.2 ∧ la2.length + (y :: lb2).length + 1 ≤ la.length + lb.length := ⟨by rw [hla, hlb, Bt.mrg_a hza, hkxr], ⟨hoa2, hobC⟩, ⟨hma2, hmbC⟩, hbx, by rw [List.length_cons]; omega⟩
   exfalso; omega
  have t2 := (hca.keep e9).keepA e10
  have hca9 := t2
  refine C.skip (K20 (C.sq fun K27 => C.sr fun K28 => O.mv (O.eqlI rfl rfl (K28 (C.condD rfl (fun c37 => ?_) (fun c37 => ?_))))))
  ·
   have hze : x.1 = y.1 := by rw [← hkxr, ← hkys]; exact (Jn.scmp_zero _ _).1 (by omega)
   have hbj := Bt.join_big hmid hmiy (by omega) hgx hgy
   have hP : Bt.merge la lb = (r.1, Jn.join x.2 y.2) :: Bt.merge la2 lb2 ∧ (Bt.Ord la2 ∧ Bt.Ord lb2) ∧ (Bt.Mid 20000 la2 ∧ Bt.Mid 20000 lb2) ∧ Cn.big (Jn.join x.2 y.2) ∧ la2.length + lb2.length + 1 ≤ la.length + lb.length := ⟨by rw [hla, hlb, Bt.mrg_ab hze, hkxr], ⟨hoa2, hob2⟩, ⟨hma2, hmb2⟩, hbj, by omega⟩
   refine C.sq fun K29 => C.join (fun f w f' w' => Le w w' ∧ f' 0 = f 0 ∧ f' 1 = f 1 ∧ f' 6 = f 6 ∧ f' 7 = f 7 ∧ f' 8 = f 8 ∧ ∃ (b9 : Nat) (u1 : Raw) (u2 : Raw) (u3 : Raw), f' 9 = .pointer (some ⟨b9, 0, none⟩) ∧ f' 10 = .int .i64 0 ∧ Own w' b9 47 [slv u1, slv u2, slv u3] ∧ CartAt w' (fun j => w.heap.size ≤ j ∧ j < w'.heap.size) ((u1, u2), u3) (Jn.join x.2 y.2)) ?_ ?_
   ·
    refine C.draw (by kernel_rfl) fun w12 e12 => ?_
    have z12 := e12.size
    refine D.mv 0 rfl (Le.refl _) ?_
    have sp5_ := Sl.at (i := 0) (P := prog) U22 Z50 rfl (((hsa.keep e9).keepA e10).keep e12) (by simp)
    obtain ⟨a40, h40, hr40⟩ := sp5_
    refine D.t 1 rfl (Le.refl _) (fun _ _ _ hN => O.idxR (Eq.trans s0_2 s0_1) rfl hr40 (O.nil hN)) (D.t 2 rfl (Le.refl _) (fun _ _ _ hN => O.ft U50 rfl Z47 rfl (O.nil hN)) (D.t 3 rfl (Le.refl _) (fun _ hw_ _ hN => O.loadPart (G := entF) isAgg47 Z47 (by decide) rfl (h40.keep hw_) (O.nil hN)) (D.cast (v' := .agg #[slv r.2.1.1, slv r.2.1.2, slv r.2.2]) rfl (D.mv 4 rfl (Le.refl _) ?_))))
    have sp6_ := Sl.at (i := 0) (P := prog) U22 Z50 rfl (((hsb.keep e9).keepA e10).keep e12) (by simp)
    obtain ⟨a44, h44, hr44⟩ := sp6_
    refine D.t 5 rfl (Le.refl _) (fun _ _ _ hN => O.idxR (Eq.trans s1_2 s1_1) rfl hr44 (O.nil hN)) (D.t 6 rfl (Le.refl _) (fun _ _ _ hN => O.ft U50 rfl Z47 rfl (O.nil hN)) (D.t 7 rfl (Le.refl _) (fun _ hw_ _ hN => O.loadPart (G := entF) isAgg47 Z47 (by decide) rfl (h44.keep hw_) (O.nil hN)) (D.cast (v' := .agg #[slv s.2.1.1, slv s.2.1.2, slv s.2.2]) rfl (D.many [8, 12] (by kernel_rfl) (by decide) ⟨?_, ?_, trivial⟩))))
    ·
     refine D.stepU rfl rfl ?_
     have t3 := (hcb.keep e9).keepA e10
     refine O.call call33 (args2 rfl rfl) (join_spec (slv r.2.1.1) (slv r.2.1.2) (slv r.2.2) x.2 F (slv s.2.1.1) (slv s.2.1.2) (slv s.2.2) y.2 F2 _ ((t2.keep e12)).1 ((t2.keep e12)).2.1 ((t2.keep e12)).2.2 ((t3.keep e12)).1 ((t3.keep e12)).2.1 ((t3.keep e12)).2.2 (fun j hj => by have q1 := hF j hj; omega) (fun j hj => by have q1 := hF2 j hj; omega) hgx hgy hmid.2.2.1 hmiy.2.2.1 (Bt.Mid.tall hmid.2.2.2) (Bt.Mid.tall hmiy.2.2.2) (by have := hmid.1; have := hmiy.1; omega) (by have := hmid.2.1; have := hmiy.2.1; omega) (mx.keep (Ext.trans (Ext.nr (Ext.trans (Ext.trans e_1 e4) e9) e10) e12))) ?_
     rintro v_47 w13 ⟨e13, uav47, ubv47, ucv47, rfl, hxv47, hyv47, hzv47⟩
     have z13 := e13.size
     refine O.nil ⟨e13, ?_⟩
     have sp7_ := hxv47.slv
     obtain ⟨u1, sp7_⟩ := sp7_
     subst sp7_
     have sp8_ := hyv47.slv
     obtain ⟨u2, sp8_⟩ := sp8_
     subst sp8_
     have sp9_ := hzv47.sl.slv
     obtain ⟨u3, sp9_⟩ := sp9_
     subst sp9_
     have hcj : CartAt w13 _ ((u1, u2), u3) (Jn.join x.2 y.2) := ⟨hxv47.sl, hyv47.sl, hzv47.sl⟩
     refine D.mv 9 rfl e13 (D.t 10 rfl e13 (fun _ _ _ hN => O.extract rfl rfl (O.nil hN)) (D.t 11 rfl e13 (fun _ _ _ hN => O.extract rfl rfl (O.nil hN)) (D.on 12 rfl rfl (O.alloc zeroValue47 (fun b9 w14 hb9 hz9 e14 => ?_)))))
     have z14 := e14.size
     have h9 := hz9.own
     have hl9 := h9.lt
     have t4 := Ext.trans e13 e14
     refine O.nil ⟨t4, D.on 13 rfl rfl (O.storeA (vs := [slv u1, slv u2, slv u3]) Z47 rfl rfl rfl (by intro u hu; simp only [List.mem_cons, List.not_mem_nil, or_false] at hu; rcases hu with rfl | rfl | rfl <;> rfl) h9 (leB rfl) (fun w15 hs15 e15 z15 => O.nil ⟨(Ext.nr t4 e15), D.as 14 rfl (Ext.nr t4 e15) (D.dn ?_)⟩))⟩
     exact ⟨(Ext.nr (Ext.trans (Ext.trans e12 e13) e14) e15), rfl, rfl, rfl, rfl, rfl, ⟨_, _, _, _, rfl, rfl, hs15, ((((hcj.keep e14).keepA e15)).weakA)⟩⟩
    refine D.stepU rfl rfl (O.alloc zeroValue47 (fun b9 w16 hb9 hz9 e16 => ?_))
    have z16 := e16.size
    have h9 := hz9.own
    have hl9 := h9.lt
    refine O.nil ⟨e16, D.on 8 rfl rfl ?_⟩
    have t5 := (t2.keep e12).keep e16
    have t6 := (hcb.keep e9).keepA e10
    have t7 := (t6.keep e12).keep e16
    refine O.call call33 (args2 rfl rfl) (join_spec (slv r.2.1.1) (slv r.2.1.2) (slv r.2.2) x.2 F (slv s.2.1.1) (slv s.2.1.2) (slv s.2.2) y.2 F2 _ (t5).1 (t5).2.1 (t5).2.2 (t7).1 (t7).2.1 (t7).2.2 (fun j hj => by have q1 := hF j hj; omega) (fun j hj => by have q1 := hF2 j hj; omega) hgx hgy hmid.2.2.1 hmiy.2.2.1 (Bt.Mid.tall hmid.2.2.2) (Bt.Mid.tall hmiy.2.2.2) (by have := hmid.1; have := hmiy.1; omega) (by have := hmid.2.1; have := hmiy.2.1; omega) (mx.keep (Ext.trans (Ext.trans (Ext.nr (Ext.trans (Ext.trans e_1 e4) e9) e10) e12) e16))) ?_
    rintro v_47 w17 ⟨e17, uav47, ubv47, ucv47, rfl, hxv47, hyv47, hzv47⟩
    have z17 := e17.size
    have t8 := Ext.trans e16 e17
    refine O.nil ⟨t8, ?_⟩
    have sp10_ := hxv47.slv
    obtain ⟨u1, sp10_⟩ := sp10_
    subst sp10_
    have sp11_ := hyv47.slv
    obtain ⟨u2, sp11_⟩ := sp11_
    subst sp11_
    have sp12_ := hzv47.sl.slv
    obtain ⟨u3, sp12_⟩ := sp12_
    subst sp12_
    have hcj : CartAt w17 _ ((u1, u2), u3) (Jn.join x.2 y.2) := ⟨hxv47.sl, hyv47.sl, hzv47.sl⟩
    refine D.mv 9 rfl t8 (D.t 10 rfl t8 (fun _ _ _ hN => O.extract rfl rfl (O.nil hN)) (D.t 11 rfl t8 (fun _ _ _ hN => O.extract rfl rfl (O.nil hN)) (D.on 13 rfl rfl (O.storeA (vs := [slv u1, slv u2, slv u3]) Z47 rfl rfl rfl (by intro u hu; simp only [List.mem_cons, List.not_mem_nil, or_false] at hu; rcases hu with rfl | rfl | rfl <;> rfl) (h9.keep e17) (leB rfl) (fun w18 hs18 e18 z18 => O.nil ⟨(Ext.nr t8 e18), D.as 14 rfl (Ext.nr t8 e18) (D.dn ?_)⟩)))))
    exact ⟨(Ext.nr (Ext.trans (Ext.trans e12 e16) e17) e18), rfl, rfl, rfl, rfl, rfl, ⟨_, _, _, _, rfl, rfl, hs18, (((hcj.keepA e18)).weakA)⟩⟩
   rintro f_3 w19 ⟨e_3, s0_3, s1_3, s6_3, s7_3, s8_3, ⟨b9, u1, u2, u3, s9_3, s10_3, q0_3, q1_3⟩⟩
   have z_3 := e_3.size
   refine K29 (C.sq fun K30 => C.sr fun K31 => O.mv (O.neqI s10_3 rfl (O.cast (v' := .bool false) (congrArg Value.bool (by exact decide_eq_false (by decide))) (K31 (C.condF rfl (C.skip (K30 (C.region (O.loadOA isAgg47 Z47 s9_3 q0_3 (leB rfl) (O.fa U50 rfl Z47 (Eq.trans s7_3 s7_2) (O.storeA (vs := [slv u1, slv u2, slv u3]) Z47 rfl rfl rfl (by intro u hu; simp only [List.mem_cons, List.not_mem_nil, or_false] at hu; rcases hu with rfl | rfl | rfl <;> rfl) (hs10.keep e_3) (leB rfl) (fun w20 hs20 e20 z20 => O.nil (K27 (C.sq fun K32 => C.sr fun K33 => O.mv (O.leqI s8_3 rfl (K33 (C.condD rfl (fun c56 => ?_) (fun c56 => ?_))))))))))))))))))
   ·
    refine C.region (O.mv ?_)
    have hb58 := Sl.sub (P := prog) (1) ((r :: ra2).length) U22 Z50 (by rfl) ((((hsa.keep e9).keepA e10).keep e_3).keepA e20) (by simp) (Nat.le_refl _)
    obtain ⟨v58, hs58, hr58⟩ := hb58
    refine O.subR (Eq.trans s0_3 (Eq.trans s0_2 s0_1)) hr58 (.inr ⟨_, _, rfl, rfl⟩) (.inl ⟨rfl, rfl⟩) ?_
    rw [List.take_length] at hs58
    replace hs58 : Sl entF.enc _ F v58 ra2 := hs58
    have het58 := (((((hea.keep e9).keepA e10).keep e_3).keepA e20)).tail
    refine O.asg (O.nil (K32 (C.sr fun K34 => O.mv (O.geqI s8_3 rfl (K34 (C.condD rfl (fun c60 => ?_) (fun c60 => ?_)))))))
    ·
     refine C.region (O.mv ?_)
     have hb62 := Sl.sub (P := prog) (1) ((s :: rb2).length) U22 Z50 (by rfl) ((((hsb.keep e9).keepA e10).keep e_3).keepA e20) (by simp) (Nat.le_refl _)
     obtain ⟨v62, hs62, hr62⟩ := hb62
     refine O.subR (Eq.trans s1_3 (Eq.trans s1_2 s1_1)) hr62 (.inr ⟨_, _, rfl, rfl⟩) (.inl ⟨rfl, rfl⟩) ?_
     rw [List.take_length] at hs62
     replace hs62 : Sl entF.enc _ F2 v62 rb2 := hs62
     have het62 := (((((heb.keep e9).keepA e10).keep e_3).keepA e20)).tail
     refine O.asg (O.nil ?_)
     exact ⟨(Ext.nw (Ext.nw (Ext.nw (Ext.nw (Ext.refl _ _) e9) e10) e_3) e20), s6_3, s7_3, ⟨_, _, _, _, _, _, _, _, _, _, _, rfl, rfl, hs20, hs58, het58, hs62, het62, (((q1_3.keepA e20)).weak (fun j hj => by first | (have q9 := hF j hj; (try dsimp only); omega) | (have q9 := hF2 j hj; (try dsimp only); omega) | ((try dsimp only at hj); (try dsimp only); omega))), hP⟩⟩
    have hza : Jn.BL x.1 y.1 := by rw [← hkxr, ← hkys]; exact (Jn.scmp_lt _ _).1 (by omega)
    have hP : Bt.merge la lb = (r.1, x.2) :: Bt.merge la2 (y :: lb2) ∧ (Bt.Ord la2 ∧ Bt.Ord (y :: lb2)) ∧ (Bt.Mid 20000 la2 ∧ Bt.Mid 20000 (y :: lb2)) ∧ Cn.big x.2 ∧ la2.length + (y :: lb2).length + 1 ≤ la.length + lb.length := ⟨by rw [hla, hlb, Bt.mrg_a hza, hkxr], ⟨hoa2, hobC⟩, ⟨hma2, hmbC⟩, hbx, by rw [List.length_cons]; omega⟩
    exfalso; omega
   exfalso; omega
  refine C.skip (K27 (C.sq fun K35 => C.sr fun K36 => O.mv (O.leqI rfl rfl (K36 (C.condD rfl (fun c56 => ?_) (fun c56 => ?_))))))
  ·
   refine C.region (O.mv ?_)
   have hb58 := Sl.sub (P := prog) (1) ((r :: ra2).length) U22 Z50 (by rfl) ((hsa.keep e9).keepA e10) (by simp) (Nat.le_refl _)
   obtain ⟨v58, hs58, hr58⟩ := hb58
   refine O.subR (Eq.trans s0_2 s0_1) hr58 (.inr ⟨_, _, rfl, rfl⟩) (.inl ⟨rfl, rfl⟩) ?_
   rw [List.take_length] at hs58
   replace hs58 : Sl entF.enc _ F v58 ra2 := hs58
   have het58 := (((hea.keep e9).keepA e10)).tail
   refine O.asg (O.nil (K35 (C.sr fun K37 => O.mv (O.geqI rfl rfl (K37 (C.condD rfl (fun c60 => ?_) (fun c60 => ?_)))))))
   ·
    exfalso; omega
   have hza : Jn.BL x.1 y.1 := by rw [← hkxr, ← hkys]; exact (Jn.scmp_lt _ _).1 (by omega)
   have hP : Bt.merge la lb = (r.1, x.2) :: Bt.merge la2 (y :: lb2) ∧ (Bt.Ord la2 ∧ Bt.Ord (y :: lb2)) ∧ (Bt.Mid 20000 la2 ∧ Bt.Mid 20000 (y :: lb2)) ∧ Cn.big x.2 ∧ la2.length + (y :: lb2).length + 1 ≤ la.length + lb.length := ⟨by rw [hla, hlb, Bt.mrg_a hza, hkxr], ⟨hoa2, hobC⟩, ⟨hma2, hmbC⟩, hbx, by rw [List.length_cons]; omega⟩
   refine C.skip ?_
   exact ⟨(Ext.nw (Ext.nw (Ext.refl _ _) e9) e10), rfl, rfl, ⟨_, _, _, _, _, _, _, _, _, _, _, rfl, (Eq.trans s1_2 s1_1), hs10, hs58, het58, ((hsb.keep e9).keepA e10), ((heb.keep e9).keepA e10), ((hca9).weak (fun j hj => by first | (have q9 := hF j hj; (try dsimp only); omega) | (have q9 := hF2 j hj; (try dsimp only); omega) | ((try dsimp only at hj); (try dsimp only); omega))), hP⟩⟩
  exfalso; omega
 rintro f_4 w21 ⟨e_4, s6_4, s7_4, ⟨va3, vb3, ra3, rb3, la3, lb3, ck, q1, q2, q3, cc, s0_4, s1_4, q0_4, q1_4, q2_4, q3_4, q4_4, q5_4, q6_4⟩⟩
 have z_4 := e_4.size
 obtain ⟨hmg2, ho3, hm3, hbc, hlen3⟩ := q6_4
 have sp13_ : ∃ n, n = w21.heap.size := ⟨_, rfl⟩
 obtain ⟨w0_, hw0_⟩ := sp13_
 have hl7w := (q0_4).lt
 refine K13 (K12 (C.sr fun K38 => O.fa U50 rfl Z47 (Eq.trans s7_4 s7_2) (O.loadOA isAgg47 Z47 rfl q0_4 (leB rfl) (O.call call77 (args1 rfl) (ccopy_spec (slv q1) (slv q2) (slv q3) cc _ _ (q5_4).1 (q5_4).2.1 (q5_4).2.2 hbc.2.2.1 (fun x hx => (hbc.2.2.2 x hx).2) hbc.1 hbc.2.1) ?_))))
 rintro v_92 w22 ⟨e22, uav92, ubv92, ucv92, rfl, hxv92, hyv92, hzv92⟩
 have z22 := e22.size
 have sp14_ := hxv92.slv
 obtain ⟨c1, sp14_⟩ := sp14_
 subst sp14_
 have sp15_ := hyv92.slv
 obtain ⟨c2, sp15_⟩ := sp15_
 subst sp15_
 have sp16_ := hzv92.sl.slv
 obtain ⟨c3, sp16_⟩ := sp16_
 subst sp16_
 have sp17_ : ∃ n, n = w22.heap.size := ⟨_, rfl⟩
 obtain ⟨wa, hwa⟩ := sp17_
 have hcf : CartF 112 117 114 w22 (fun j => w0_ ≤ j ∧ j < wa) ((c1, c2), c3) cc := ⟨hxv92.weakA, hyv92.weakA, hzv92.weakA⟩
 refine O.fa U50 rfl Z47 (Eq.trans s7_4 s7_2) (O.storeA (vs := [slv c1, slv c2, slv c3]) Z47 rfl rfl rfl (by intro u hu; simp only [List.mem_cons, List.not_mem_nil, or_false] at hu; rcases hu with rfl | rfl | rfl <;> rfl) (q0_4.keep e22) (leB rfl) (fun w23 hs23 e23 z23 => K38 (C.region (O.mv (O.loadOA isAgg50 Z50 (Eq.trans s7_4 s7_2) hs23 (leB rfl) (O.litG (G := entF) [(ck, (c1, c2), c3)] U22 ti50 ts50 tz50 rfl (by decide) (by decide) rfl (fun b96 w24 hb96 hz96 e24 => ?_)))))))
 have z24 := e24.size
 have h96 := hz96.own
 have hq96 := Sl.litG (n := 1) h96 rfl (by unfold maxLen; omega)
 have t9 := (r4_1.keep e4).keepA e_4
 have t10 := (t9.keep e22).keepA e23
 refine O.appG (G := entF) U22 ti50 tz50 ts50 rfl (Eq.trans s6_4 (Eq.trans s6_2 s6_1)) rfl (t10.keep e24) hq96 (by rw [tb50]; simp; omega) (by unfold maxLen; simp; omega) (fun v97 gg97 w25 h97 hg97 e25 hw97 => ?_)
 have e25m := e25.mono (M' := fun k => k = _) (fun k _ hk => (t10.keep e24).2.1 k hk)
 have z25 := e25.size
 have hgl97 := h97.2.2
 have hob97 : ∀ k, bk v97 k → n9 ≤ k := fun k hk => by
  rcases hw97 k hk with q | q
  ·exact hob k q
  ·omega
 have hg97 : n9 ≤ gg97 := hob97 _ (h97.bk (by simp))
 have hgg97 := (hw97 _ (h97.bk (by simp))).imp (hogu _) id
 refine O.asg (O.nil (K10 ?_))
 refine ⟨(va3, vb3, ra3, rb3, la3, lb3, v97, gg97, raw3 ++ [(ck, (c1, c2), c3)], done ++ [(ck, cc)], wa), ⟨s0_4, s1_4, rfl, (Ext.new (Ext.trans (Ext.new (Ext.trans (Ext.new (Ext.trans e_1 e4) e_4 (by intro i hi h; (try dsimp only at h); omega)) e22) e23 (by intro i hi h; (try dsimp only at h); omega)) e24) e25 (by intro i hi h; have := hob i h; omega)), ((((q1_4.keep e22).keepM e23 (by intro j hj h; first | (have q1 := hF j hj; (try dsimp only at h); omega) | (have q1 := hF2 j hj; (try dsimp only at h); omega) | ((try dsimp only at hj); (try dsimp only at h); omega))).keep e24).keepM e25 (by intro j hj h; have q2 := hob j h; have q3 := hogu j h; first | (have q1 := hF j hj; omega) | (have q1 := hF2 j hj; omega) | ((try dsimp only at hj); omega))), ((((q2_4.keep e22).keepM e23 (by intro j hj h; first | (have q1 := hF j hj; (try dsimp only at h); omega) | (have q1 := hF2 j hj; (try dsimp only at h); omega) | ((try dsimp only at hj); (try dsimp only at h); omega))).keep e24).keepM e25 (by intro j hj h; have q2 := hob j h; have q3 := hogu j h; first | (have q1 := hF j hj; omega) | (have q1 := hF2 j hj; omega) | ((try dsimp only at hj); omega))), ((((q3_4.keep e22).keepM e23 (by intro j hj h; first | (have q1 := hF j hj; (try dsimp only at h); omega) | (have q1 := hF2 j hj; (try dsimp only at h); omega) | ((try dsimp only at hj); (try dsimp only at h); omega))).keep e24).keepM e25 (by intro j hj h; have q2 := hob j h; have q3 := hogu j h; first | (have q1 := hF j hj; omega) | (have q1 := hF2 j hj; omega) | ((try dsimp only at hj); omega))), ((((q4_4.keep e22).keepM e23 (by intro j hj h; first | (have q1 := hF j hj; (try dsimp only at h); omega) | (have q1 := hF2 j hj; (try dsimp only at h); omega) | ((try dsimp only at hj); (try dsimp only at h); omega))).keep e24).keepM e25 (by intro j hj h; have q2 := hob j h; have q3 := hogu j h; first | (have q1 := hF j hj; omega) | (have q1 := hF2 j hj; omega) | ((try dsimp only at hj); omega))), h97, (((((((((r5_1.keep e4).keepM e_4 (by intro k hG h1 h2 h; (try dsimp only at h); omega)).keep e22).keepM e23 (by intro k hG h1 h2 h; (try dsimp only at h); omega)).keep e24).keepM e25 (by intro k hG h1 h2 h; exact hG (hogu k h)))).weak (fun j h1 h2 h3 => by (try dsimp only); omega)).snoc (x := (ck, cc)) (hi' := wa) (by omega) rfl (((((hcf.keepM e23 (by intro j hj h; first | (have q1 := hF j hj; (try dsimp only at h); omega) | (have q1 := hF2 j hj; (try dsimp only at h); omega) | ((try dsimp only at hj); (try dsimp only at h); omega))).keep e24).keepM e25 (by intro j hj h; have q2 := hob j h; have q3 := hogu j h; first | (have q1 := hF j hj; omega) | (have q1 := hF2 j hj; omega) | ((try dsimp only at hj); omega)))).weakA)), ?_⟩, by show la3.length + lb3.length < la.length + lb.length; omega⟩
 exact ⟨by rw [hmg, hmg2, List.append_assoc]; rfl, ho3, hm3, hob97, by omega, by rw [List.length_append, List.length_singleton]; omega⟩
theorem encodes_spec (v0 : Value) (raw : List EntR) (l : List EntT) (F : Nat → Prop) (v1 : Value) (ws : List UInt8) (F3 : Nat → Prop) (e : Int) (w : World) (hr : Sl entF.enc w F v0 raw) (he : EntL w F raw l) (hF : ∀ k, F k → k < w.heap.size) (hB : Bt.Big l) (mx : Mx w) (hlen : Bt.valid l = true → (Bt.enc l).length ≤ 9000000) (hw : Sl byteE w F3 v1 ws) (hrel : ((Bt.valid l = true ∧ ws = Bt.enc l ∧ e = 0) ∨ (Bt.valid l = false ∧ ws = [] ∧ e = 2))) :
 Ret prog 20 #[v0, v1, .int .i64 (e)] w (fun v w' => v = .bool true ∧ Le w w') := by
 refine enT [v0, v1, .int .i64 (e)] 24 func20 rfl rfl (C.sr fun K1 => O.asg (K1 (C.sr fun K2 => O.mv (O.call call36 (args1 rfl) (bencode_spec v0 raw l F _ hr he (fun j hj => by have q1 := hF j hj; omega) hB mx hlen) ?_))))
 rintro v_11 w1 ⟨rv11, rfl, hv11, e1⟩
 have z1 := e1.size
 have hb9 : (if Bt.valid l = true then Bt.enc l else []) = ws ∧ (if Bt.valid l = true then (0 : Int) else 2) = e := by
  rcases hrel with ⟨h1, h2, h3⟩ | ⟨h1, h2, h3⟩
  ·rw [if_pos h1, if_pos h1, h2, h3]; exact ⟨rfl, rfl⟩
  ·rw [if_neg (by rw [h1]; decide), if_neg (by rw [h1]; decide), h2, h3]; exact ⟨rfl, rfl⟩
 rw [hb9.1] at hv11
 have h11s := hv11.sl
 refine O.mv (O.extract rfl rfl (O.extract rfl rfl (O.cast (v' := .int .i64 e) (congrArg (Value.int .i64) hb9.2) (O.asg (O.asg (K2 (C.sr fun K3 => O.mv (O.bytesS U30 U5 U9 rfl h11s (O.mv (O.bytesS U30 U5 U9 rfl (hw.keep e1) (O.eqlS rfl rfl (O.cast (v' := .bool true) (congrArg Value.bool (by exact decide_eq_true rfl)) (O.mv (O.yes rfl rfl (O.mv (O.yes rfl rfl (O.mv (O.yes rfl rfl (O.eqlI rfl rfl (O.cast (v' := .bool true) (congrArg Value.bool (by exact decide_eq_true rfl)) (O.pickT rfl (O.asg (K3 (C.ret (Outs.one rfl rfl ?_)))))))))))))))))))))))))
 exact ⟨rfl, e1⟩
theorem decodes_spec (v0 : Value) (p : List UInt8) (F : Nat → Prop) (v1 : Value) (raw2 : List EntR) (l2 : List EntT) (F2 : Nat → Prop) (e : Int) (w : World) (hl : Sl byteE w F v0 p) (hL : p.length ≤ 1000000) (hF : ∀ j, F j → j < w.heap.size) (mx : Mx w) (hr2 : Sl entF.enc w F2 v1 raw2) (he2 : EntL w F2 raw2 l2) (hF2 : ∀ k, F2 k → k < w.heap.size) (hrel : Bt.DecRes p l2 e) :
 Ret prog 31 #[v0, v1, .int .i64 (e)] w (fun v w' => v = .bool true ∧ Le w w') := by
 refine enT [v0, v1, .int .i64 (e)] 22 func31 rfl rfl (C.sr fun K1 => O.asg (K1 (C.sr fun K2 => O.mv (O.call call37 (args1 rfl) (bdecode_spec v0 p F _ hl hL (fun j hj => by have q1 := hF j hj; omega) mx) ?_))))
 rintro v_11 w1 ⟨uv11, esv11, env11, rfl, hv11, hBv11, hRv11, e1⟩
 have z1 := e1.size
 have hq9 := hRv11.uniq hrel
 rw [hq9.1] at hv11
 have hv12 := hv11.raws
 obtain ⟨raw11, hra, hea⟩ := hv12
 refine O.mv (O.extract rfl rfl (O.extract rfl rfl (O.cast (v' := .int .i64 e) (congrArg (Value.int .i64) hq9.2) (O.asg (O.asg (K2 (C.sr fun K3 => O.mv (O.mv (O.call call21 (args2 rfl rfl) (sameL_spec uv11 raw11 l2 _ v1 raw2 l2 F2 _ hra hea (hr2.keep e1) (he2.keep e1) (fun j hj => by have q9 := hj.2; omega) (fun j hj => by have q1 := hF2 j hj; omega)) ?_)))))))))
 rintro v_16 w2 ⟨rfl, e2⟩
 have z2 := e2.size
 refine O.cast (v' := .bool true) (congrArg Value.bool (by exact decide_eq_true rfl)) (O.mv (O.yes rfl rfl (O.mv (O.yes rfl rfl (O.mv (O.yes rfl rfl (O.eqlI rfl rfl (O.cast (v' := .bool true) (congrArg Value.bool (by exact decide_eq_true rfl)) (O.pickT rfl (O.asg (K3 (C.ret (Outs.one rfl rfl ?_)))))))))))))
 exact ⟨rfl, (Ext.trans e1 e2)⟩
theorem merges_spec (v0 : Value) (raw : List EntR) (l : List EntT) (F : Nat → Prop) (v1 : Value) (raw2 : List EntR) (l2 : List EntT) (F2 : Nat → Prop) (v2 : Value) (raw3 : List EntR) (l3 : List EntT) (F3 : Nat → Prop) (e : Int) (w : World) (hr : Sl entF.enc w F v0 raw) (he : EntL w F raw l) (hr2 : Sl entF.enc w F2 v1 raw2) (he2 : EntL w F2 raw2 l2) (hr3 : Sl entF.enc w F3 v2 raw3) (he3 : EntL w F3 raw3 l3) (hF : ∀ k, F k → k < w.heap.size) (hF2 : ∀ k, F2 k → k < w.heap.size) (hF3 : ∀ k, F3 k → k < w.heap.size) (hB : Bt.Big l) (hB2 : Bt.Big l2) (hM : Bt.Mid 20000 l) (hM2 : Bt.Mid 20000 l2) (hn : l.length + l2.length ≤ 1000000) (mx : Mx w) (hrel : ((Bt.ordered l = true ∧ Bt.ordered l2 = true ∧ e = 0 ∧ l3 = Bt.merge l l2) ∨ ((Bt.ordered l = false ∨ Bt.ordered l2 = false) ∧ e = 2 ∧ l3 = []))) :
 Ret prog 32 #[v0, v1, v2, .int .i64 (e)] w (fun v w' => v = .bool true ∧ Le w w') := by
 refine enT [v0, v1, v2, .int .i64 (e)] 25 func32 rfl rfl (C.sr fun K1 => O.asg (K1 (C.sr fun K2 => O.mv (O.mv (O.call call34 (args2 rfl rfl) (bmerge_spec v0 raw l F v1 raw2 l2 F2 _ hr he hr2 he2 (fun j hj => by have q1 := hF j hj; omega) (fun j hj => by have q1 := hF2 j hj; omega) hB hB2 hM hM2 hn mx) ?_)))))
 rintro v_14 w1 ⟨uv14, e9v14, esv14, uov14, rfl, hkv14, hv14, hRv14, e1⟩
 have z1 := e1.size
 have hq9 := Bt.mrel_uniq hRv14 hrel
 rw [hq9.1] at hv14
 have hv15 := hv14.clips hkv14
 obtain ⟨raw14, hra, hea⟩ := hv15
 refine O.mv (O.extract rfl rfl (O.extract rfl rfl (O.cast (v' := .int .i64 e) (congrArg (Value.int .i64) hq9.2) (O.asg (O.asg (K2 (C.sr fun K3 => O.mv (O.mv (O.call call21 (args2 rfl rfl) (sameL_spec uv14 raw14 l3 _ v2 raw3 l3 F3 _ hra hea (hr3.keep e1) (he3.keep e1) (fun j hj => by have q9 := hj.2; omega) (fun j hj => by have q1 := hF3 j hj; omega)) ?_)))))))))
 rintro v_19 w2 ⟨rfl, e2⟩
 have z2 := e2.size
 refine O.cast (v' := .bool true) (congrArg Value.bool (by exact decide_eq_true rfl)) (O.mv (O.yes rfl rfl (O.mv (O.yes rfl rfl (O.mv (O.yes rfl rfl (O.eqlI rfl rfl (O.cast (v' := .bool true) (congrArg Value.bool (by exact decide_eq_true rfl)) (O.pickT rfl (O.asg (K3 (C.ret (Outs.one rfl rfl ?_)))))))))))))
 exact ⟨rfl, (Ext.trans e1 e2)⟩
theorem bknown_spec (w : World) (mx : Mx w) :
 Ret prog 16 #[] w (fun v w' => v = .bool true ∧ Le w w') := by
 obtain ⟨ie50, ti50, ts50, tb50, tz50⟩ := inf50
 obtain ⟨ie5, ti5, ts5, tb5, tz5⟩ := inf5
 refine enT [] 112 func16 rfl rfl (C.sr fun K1 => O.asg (K1 (C.sr fun K2 => O.build (cells := #[str Bt.kx, .slice none 0 0, .slice none 0 0, .slice none 0 0]) rfl (by kernel_rfl) (O.litG (G := entF) [ent0 Bt.kx] U22 ti50 ts50 tz50 rfl (by decide) (by decide) rfl (fun b10 w1 hb10 hz10 e1 => ?_)))))
 have z1 := e1.size
 have h10 := hz10.own
 have hq10 := Sl.litG (n := 1) h10 rfl (by unfold maxLen; omega)
 have hl10 := h10.lt
 refine O.asg (K2 (C.sd fun K3 w2 e2 z2 => D.mv 0 rfl (Le.refl _) ?_))
 have sp1_ := Sl.at (i := 0) (P := prog) U22 Z50 rfl (hq10.keep e2) (by simp)
 obtain ⟨a12, h12, hr12⟩ := sp1_
 refine D.t 1 rfl (Le.refl _) (fun _ _ _ hN => O.idxR rfl rfl hr12 (O.nil hN)) (D.t 2 rfl (Le.refl _) (fun _ hw_ _ hN => O.loadG (G := entF) isAgg50 Z50 rfl (h12.keep hw_) (O.nil hN)) (D.cast (v' := .agg (entF.e (ent0 Bt.kx)).toArray) rfl (D.mv 3 rfl (Le.refl _) ?_)))
 have sp2_ := Sl.at (i := 0) (P := prog) U22 Z50 rfl (hq10.keep e2) (by simp)
 obtain ⟨a15, h15, hr15⟩ := sp2_
 refine D.t 4 rfl (Le.refl _) (fun _ _ _ hN => O.idxR rfl rfl hr15 (O.nil hN)) (D.t 5 rfl (Le.refl _) (fun _ hw_ _ hN => O.loadG (G := entF) isAgg50 Z50 rfl (h15.keep hw_) (O.nil hN)) (D.cast (v' := .agg (entF.e (ent0 Bt.kx)).toArray) rfl (D.on 6 rfl rfl (O.litG (G := entF) [ent0 Bt.kx, ent0 Bt.kx] U22 ti50 ts50 tz50 rfl (by decide) (by decide) rfl (fun b17 w3 hb17 hz17 e3 => ?_)))))
 have z3 := e3.size
 have h17 := hz17.own
 have hq17 := Sl.litG (n := 2) h17 rfl (by unfold maxLen; omega)
 refine O.nil ⟨e3, ?_⟩
 have hl17 := h17.lt
 refine D.as 7 rfl e3 (K3 (C.sr fun K4 => ?_))
 have t0 := (mx.keep e1).keep e2
 refine O.call call36 (args1 rfl) (bencode_spec (.slice none 0 0) [] [] (fun _ => False) _ (Sl.nil _ _ _) EntL.nil (fun _ h => h.elim) (fun x hx => by cases hx) (t0.keep e3) (fun _ => by rw [Bt.enc_nil_len]; omega)) ?_
 rintro v_19 w4 ⟨rv19, rfl, hv19, e4⟩
 have z4 := e4.size
 rw [if_pos Bt.valid_nil] at hv19
 have h19s := hv19.sl
 refine O.mv (O.extract rfl rfl (O.extract rfl rfl (O.cast (v' := .int .i64 0) (congrArg (Value.int .i64) (if_pos Bt.valid_nil)) (O.asg (O.asg (K4 (C.sr fun K5 => O.mv ?_)))))))
 have t1 := (t0.keep e3).keep e4
 have t2 := (hq10.keep e2).keep e3
 refine O.call call36 (args1 rfl) (bencode_spec (.slice (some ⟨b10, 0, none⟩) 1 1) [ent0 Bt.kx] Bt.ex1 (fun k => k = b10) _ (t2.keep e4) (EntL.one0 _) (fun j hj => by have q1 : j = b10 := hj; omega) (Bt.big_ex Bt.ex1_all) t1 (fun _ => by rw [Bt.enc_ex1_len]; omega)) ?_
 rintro v_24 w5 ⟨rv24, rfl, hv24, e5⟩
 have z5 := e5.size
 rw [if_pos Bt.valid_ex1] at hv24
 have h24s := hv24.sl
 refine O.mv (O.extract rfl rfl (O.extract rfl rfl (O.cast (v' := .int .i64 0) (congrArg (Value.int .i64) (if_pos Bt.valid_ex1)) (O.asg (O.asg (K5 (C.sq fun K6 => C.sd fun K7 w6 e6 z6 => D.mv 0 rfl (Le.refl _) (D.tk 1 rfl rfl rfl rfl (Le.refl _) len_form (fun _ hw_ _ hN => O.len U30 rfl (((h19s.keep e5).keep e6).keep hw_) (O.nil hN)) (D.t 2 rfl (Le.refl _) (fun _ _ _ hN => O.neqI rfl rfl (O.nil hN)) (D.cast (v' := .bool false) (congrArg Value.bool (by simp [Bt.enc_nil_len])) (D.mv 3 rfl (Le.refl _) (D.ty 4 rfl rfl rfl rfl rfl (Le.refl _) ⟨pure _, rfl⟩ (fun _ hw_ _ hN => O.mv (O.nil hN)) ?_))))))))))))
 refine D.ty 5 rfl rfl rfl rfl rfl (Le.refl _) ⟨_, rfl⟩ (fun _ hw_ _ hN => O.neqI rfl rfl (O.cast (v' := .bool false) rfl (O.nil hN))) (D.tk 6 rfl rfl rfl rfl (Le.refl _) pick_form (fun _ hw_ _ hN => O.pickF rfl (O.nil hN)) (D.mv 7 rfl (Le.refl _) (D.ty 8 rfl rfl rfl rfl rfl (Le.refl _) ⟨pure _, rfl⟩ (fun _ hw_ _ hN => O.mv (O.nil hN)) (D.ty 9 rfl rfl rfl rfl rfl (Le.refl _) len_form (fun _ hw_ _ hN => O.len U30 rfl ((h24s.keep e6).keep hw_) (O.nil hN)) (D.ty 10 rfl rfl rfl rfl rfl (Le.refl _) ⟨_, rfl⟩ (fun _ hw_ _ hN => O.neqI rfl rfl (O.nil hN)) (D.cast (v' := .bool false) (congrArg Value.bool (by simp [Bt.enc_ex1_len])) ?_))))))
 refine D.tk 11 rfl rfl rfl rfl (Le.refl _) pick_form (fun _ hw_ _ hN => O.pickF rfl (O.nil hN)) (D.mv 12 rfl (Le.refl _) (D.ty 13 rfl rfl rfl rfl rfl (Le.refl _) ⟨pure _, rfl⟩ (fun _ hw_ _ hN => O.mv (O.nil hN)) ?_))
 have hb41 := Sl.sub (P := prog) (0) (6) U30 Z5 (by rfl) (h24s.keep e6) (Nat.zero_le _) (by rw [Bt.enc_ex1_len]; decide)
 obtain ⟨v41, hs41, hr41⟩ := hb41
 refine D.ty 14 rfl rfl rfl rfl rfl (Le.refl _) ⟨_, rfl⟩ (fun _ hw_ _ hN => O.subR rfl hr41 (.inl ⟨rfl, rfl⟩) (.inr ⟨_, _, rfl, rfl⟩) (O.nil hN)) ?_
 rw [List.drop_zero, Bt.enc_ex1_six] at hs41
 refine D.ty 15 rfl rfl rfl rfl rfl (Le.refl _) ⟨_, rfl⟩ (fun _ hw_ _ hN => O.bytesS U30 U5 U9 rfl (hs41.keep hw_) (O.nil hN)) (D.oneYes (i := 16) rfl rfl rfl (by kernel_rfl) (O.litn [.int .u8 1, .int .u8 1, .int .u8 107, .int .u8 0, .int .u8 0, .int .u8 0] U30 ti5 ts5 tz5 rfl (by decide) (by decide) rfl (by simp [Value.oneCell']) (fun b43 w7 hb43 hz43 e7 => ?_)))
 have z7 := e7.size
 have h43 := hz43.own
 have hl43 := h43.lt
 refine O.nil ⟨e7, ?_⟩
 have hq43 : Sl byteE w7 (fun k => k = b43) (.slice (some ⟨b43, 0, none⟩) 6 6) [1, 1, 107, 0, 0, 0] := Sl.litG (G := byteF) (n := 6) h43 rfl (by unfold maxLen; omega)
 refine D.oneYes (i := 17) rfl rfl rfl (by kernel_rfl) (O.bytesS U30 U5 U9 rfl hq43 (O.nil ⟨e7, D.ty 18 rfl rfl rfl rfl rfl e7 ⟨_, rfl⟩ (fun _ hw_ _ hN => O.neqS rfl rfl (O.nil hN)) (D.cast (v' := .bool false) (congrArg Value.bool (by exact decide_eq_false (fun h => h rfl))) (D.tk 19 rfl rfl rfl rfl e7 pick_form (fun _ hw_ _ hN => O.pickF rfl (O.nil hN)) (D.mv 20 rfl e7 (D.ty 21 rfl rfl rfl rfl rfl e7 ⟨pure _, rfl⟩ (fun _ hw_ _ hN => O.mv (O.nil hN)) (D.ty 22 rfl rfl rfl rfl rfl e7 ⟨_, rfl⟩ (fun _ hw_ _ hN => O.neqI rfl rfl (O.cast (v' := .bool false) rfl (O.nil hN))) ?_)))))⟩))
 refine D.tk 23 rfl rfl rfl rfl e7 pick_form (fun _ hw_ _ hN => O.pickF rfl (O.nil hN)) (D.mv 24 rfl e7 (D.ty 25 rfl rfl rfl rfl rfl e7 ⟨pure _, rfl⟩ (fun _ hw_ _ hN => O.mv (O.nil hN)) (D.ty 26 rfl rfl rfl rfl rfl e7 ⟨pure _, rfl⟩ (fun _ hw_ _ hN => O.mv (O.nil hN)) (D.oneYes (i := 27) rfl rfl rfl (by kernel_rfl) ?_))))
 have t3 := (t1.keep e5).keep e6
 have t4 := (t2.keep e4).keep e5
 have t5 := (t4.keep e6).keep e7
 refine O.call call31 (args3 rfl rfl rfl) (decodes_spec _ (Bt.enc Bt.ex1) _ (.slice (some ⟨b10, 0, none⟩) 1 1) [ent0 Bt.kx] Bt.ex1 (fun k => k = b10) 0 _ ((h24s.keep e6).keep e7) (by rw [Bt.enc_ex1_len]; decide) (fun j hj => by have := (((hv24.keep e6).keep e7)).bk_ge j hj; omega) (t3.keep e7) t5 (EntL.one0 _) (fun j hj => by have q1 : j = b10 := hj; omega) (Bt.DecRes.of_enc Bt.valid_ex1)) ?_
 rintro v_54 w8 ⟨rfl, e8⟩
 have z8 := e8.size
 refine O.nil ⟨(Ext.trans e7 e8), D.ty 28 rfl rfl rfl rfl rfl (Ext.trans e7 e8) ⟨_, rfl⟩ (fun _ hw_ _ hN => O.not rfl (O.cast (v' := .bool false) rfl (O.nil hN))) (D.tk 29 rfl rfl rfl rfl (Ext.trans e7 e8) pick_form (fun _ hw_ _ hN => O.pickF rfl (O.nil hN)) (D.mv 30 rfl (Ext.trans e7 e8) (D.ty 31 rfl rfl rfl rfl rfl (Ext.trans e7 e8) ⟨pure _, rfl⟩ (fun _ hw_ _ hN => O.mv (O.nil hN)) (D.oneYes (i := 32) rfl rfl rfl (by kernel_rfl) ?_))))⟩
 have t6 := (t3.keep e7).keep e8
 have t7 := ((hq17.keep e4).keep e5).keep e6
 refine O.call call20 (args3 rfl rfl rfl) (encodes_spec (.slice (some ⟨b17, 0, none⟩) 2 2) [ent0 Bt.kx, ent0 Bt.kx] Bt.ex2 (fun k => k = b17) (.slice none 0 0) [] (fun _ => False) 2 _ ((t7.keep e7).keep e8) (EntL.two0 _) (fun j hj => by have q1 : j = b17 := hj; omega) (Bt.big_ex Bt.ex2_all) t6 (fun h => by rw [Bt.valid_ex2] at h; cases h) (Sl.nil _ _ _) (.inr ⟨Bt.valid_ex2, rfl, rfl⟩)) ?_
 rintro v_59 w9 ⟨rfl, e9⟩
 have z9 := e9.size
 have t8 := Ext.trans (Ext.trans e7 e8) e9
 refine O.nil ⟨t8, D.ty 33 rfl rfl rfl rfl rfl t8 ⟨_, rfl⟩ (fun _ hw_ _ hN => O.not rfl (O.cast (v' := .bool false) rfl (O.nil hN))) (D.tk 34 rfl rfl rfl rfl t8 pick_form (fun _ hw_ _ hN => O.pickF rfl (O.nil hN)) (D.mv 35 rfl t8 (D.oneYes (i := 36) rfl rfl rfl (by kernel_rfl) (O.call call31 (args3 rfl rfl rfl) (decodes_spec (.slice none 0 0) [] (fun _ => False) (.slice none 0 0) [] [] (fun _ => False) 12 _ (Sl.nil _ _ _) (by simp) (fun _ h => h.elim) (t6.keep e9) (Sl.nil _ _ _) EntL.nil (fun _ h => h.elim) Bt.dec_nil) ?_))))⟩
 rintro v_63 w10 ⟨rfl, e10⟩
 have z10 := e10.size
 have t9 := Ext.trans t8 e10
 refine O.nil ⟨t9, D.ty 37 rfl rfl rfl rfl rfl t9 ⟨_, rfl⟩ (fun _ hw_ _ hN => O.not rfl (O.cast (v' := .bool false) rfl (O.nil hN))) (D.tk 38 rfl rfl rfl rfl t9 pick_form (fun _ hw_ _ hN => O.pickF rfl (O.nil hN)) (D.mv 39 rfl t9 (D.oneYes (i := 40) rfl rfl rfl (by kernel_rfl) (O.litn [.int .u8 0, .int .u8 0, .int .u8 0, .int .u8 0, .int .u8 0] U30 ti5 ts5 tz5 rfl (by decide) (by decide) rfl (by simp [Value.oneCell']) (fun b67 w11 hb67 hz67 e11 => ?_)))))⟩
 have z11 := e11.size
 have h67 := hz67.own
 have hl67 := h67.lt
 have t10 := Ext.trans t9 e11
 refine O.nil ⟨t10, ?_⟩
 have hq67 : Sl byteE w11 (fun k => k = b67) (.slice (some ⟨b67, 0, none⟩) 5 5) [0, 0, 0, 0, 0] := Sl.litG (G := byteF) (n := 5) h67 rfl (by unfold maxLen; omega)
 refine D.oneYes (i := 41) rfl rfl rfl (by kernel_rfl) ?_
 have t11 := (t6.keep e9).keep e10
 refine O.call call31 (args3 rfl rfl rfl) (decodes_spec _ [0, 0, 0, 0, 0] _ (.slice none 0 0) [] [] (fun _ => False) 12 _ hq67 (by simp) (fun j hj => by have q1 : j = b67 := hj; omega) (t11.keep e11) (Sl.nil _ _ _) EntL.nil (fun _ h => h.elim) Bt.dec_five) ?_
 rintro v_68 w12 ⟨rfl, e12⟩
 have z12 := e12.size
 have t12 := Ext.trans t10 e12
 refine O.nil ⟨t12, D.ty 42 rfl rfl rfl rfl rfl t12 ⟨_, rfl⟩ (fun _ hw_ _ hN => O.not rfl (O.cast (v' := .bool false) rfl (O.nil hN))) (D.tk 43 rfl rfl rfl rfl t12 pick_form (fun _ hw_ _ hN => O.pickF rfl (O.nil hN)) (K7 (C.condF rfl (C.skip (K6 (C.sr fun K8 => ?_))))))⟩
 have t13 := (t11.keep e11).keep e12
 refine O.call call26 (args1 rfl) (bsplit_spec (.slice none 0 0) [] [] (fun _ => False) _ (Sl.nil _ _ _) EntL.nil (fun _ h => h.elim) (fun x hx => by cases hx) t13 (fun x hx => by cases hx) (by simp)) ?_
 rintro v_72 w13 ⟨uv72, e9v72, bsv72, rfl, hv72, hRv72, e13⟩
 have z13 := e13.size
 have hq72 : e9v72 = 0 ∧ bsv72 = [] := by
  rcases hRv72 with ⟨_, h1, h2⟩ | ⟨h1, _⟩
  ·exact ⟨h1, by rw [h2]; exact rfl⟩
  ·exact absurd h1 (by decide +kernel)
 rw [hq72.2] at hv72
 refine O.mv (O.extract rfl rfl (O.extract rfl rfl (O.cast (v' := .int .i64 0) (congrArg (Value.int .i64) hq72.1) (O.asg (O.asg (K8 (C.sr fun K9 => O.mv ?_)))))))
 have t14 := (t5.keep e8).keep e9
 have t15 := (t14.keep e10).keep e11
 have t16 := (t15.keep e12).keep e13
 refine O.call call26 (args1 rfl) (bsplit_spec (.slice (some ⟨b10, 0, none⟩) 1 1) [ent0 Bt.kx] Bt.ex1 (fun k => k = b10) _ t16 (EntL.one0 _) (fun j hj => by have q1 : j = b10 := hj; omega) (Bt.big_ex Bt.ex1_all) (t13.keep e13) (fun x hx => by rw [Bt.ex1_all x hx]; exact Bt.ent_kx) (by decide)) ?_
 rintro v_77 w14 ⟨uv77, e9v77, bsv77, rfl, hv77, hRv77, e14⟩
 have z14 := e14.size
 have hq77 : e9v77 = 0 ∧ bsv77 = [Bt.enc Bt.ex1] := by
  rcases hRv77 with ⟨_, h1, h2⟩ | ⟨h1, _⟩
  ·exact ⟨h1, by rw [h2]; exact (by rw [Bt.split_ex1]; rfl)⟩
  ·exact absurd h1 (by decide +kernel)
 rw [hq77.2] at hv77
 refine O.mv (O.extract rfl rfl (O.extract rfl rfl (O.cast (v' := .int .i64 0) (congrArg (Value.int .i64) hq77.1) (O.asg (O.asg (K9 (C.sr fun K10 => O.mv (O.len U38 rfl (hv72.keep e14) (O.eqlI rfl rfl (O.cast (v' := .bool true) (congrArg Value.bool (by exact decide_eq_true rfl)) (O.mv (O.yes rfl rfl (O.mv (O.yes rfl rfl (O.eqlI rfl rfl (O.cast (v' := .bool true) rfl (O.pickT rfl (O.mv (O.yes rfl rfl (O.mv (O.yes rfl rfl (O.len U38 rfl hv77 (O.yes rfl rfl (O.eqlI rfl rfl (O.cast (v' := .bool true) (congrArg Value.bool (by exact decide_eq_true rfl)) (O.pickT rfl (O.mv (O.yes rfl rfl (O.mv (O.yes rfl rfl (O.eqlI rfl rfl ?_)))))))))))))))))))))))))))))))
 refine O.cast (v' := .bool true) rfl (O.pickT rfl (O.mv (O.yes rfl rfl (O.mv (O.yes rfl rfl (O.mv (O.yes rfl rfl ?_)))))))
 have t17 := (t13.keep e13).keep e14
 refine O.call call32 (args4 rfl rfl rfl rfl) (merges_spec (.slice (some ⟨b10, 0, none⟩) 1 1) [ent0 Bt.kx] Bt.ex1 (fun k => k = b10) (.slice none 0 0) [] [] (fun _ => False) (.slice (some ⟨b10, 0, none⟩) 1 1) [ent0 Bt.kx] Bt.ex1 (fun k => k = b10) 0 _ (t16.keep e14) (EntL.one0 _) (Sl.nil _ _ _) EntL.nil (t16.keep e14) (EntL.one0 _) (fun j hj => by have q1 : j = b10 := hj; omega) (fun _ h => h.elim) (fun j hj => by have q1 : j = b10 := hj; omega) (Bt.big_ex Bt.ex1_all) (fun x hx => by cases hx) (Bt.mid_ex Bt.ex1_all) (fun x hx => by cases hx) (by decide) t17 (.inl ⟨Bt.ordered_ex1, rfl, rfl, Bt.merge_ex1_nil.symm⟩)) ?_
 rintro v_99 w15 ⟨rfl, e15⟩
 have z15 := e15.size
 refine O.pickT rfl (O.mv (O.yes rfl rfl (O.mv (O.yes rfl rfl (O.mv (O.yes rfl rfl (O.mv (O.yes rfl rfl ?_))))))))
 have t18 := (t16.keep e14).keep e15
 refine O.call call32 (args4 rfl rfl rfl rfl) (merges_spec (.slice (some ⟨b10, 0, none⟩) 1 1) [ent0 Bt.kx] Bt.ex1 (fun k => k = b10) (.slice (some ⟨b10, 0, none⟩) 1 1) [ent0 Bt.kx] Bt.ex1 (fun k => k = b10) (.slice (some ⟨b10, 0, none⟩) 1 1) [ent0 Bt.kx] Bt.ex1 (fun k => k = b10) 0 _ t18 (EntL.one0 _) t18 (EntL.one0 _) t18 (EntL.one0 _) (fun j hj => by have q1 : j = b10 := hj; omega) (fun j hj => by have q1 : j = b10 := hj; omega) (fun j hj => by have q1 : j = b10 := hj; omega) (Bt.big_ex Bt.ex1_all) (Bt.big_ex Bt.ex1_all) (Bt.mid_ex Bt.ex1_all) (Bt.mid_ex Bt.ex1_all) (by decide) (t17.keep e15) (.inl ⟨Bt.ordered_ex1, Bt.ordered_ex1, rfl, Bt.merge_ex1.symm⟩)) ?_
 rintro v_105 w16 ⟨rfl, e16⟩
 have z16 := e16.size
 refine O.pickT rfl (O.mv (O.yes rfl rfl (O.mv (O.yes rfl rfl (O.mv (O.yes rfl rfl ?_))))))
 refine O.call call32 (args4 rfl rfl rfl rfl) (merges_spec (.slice (some ⟨b17, 0, none⟩) 2 2) [ent0 Bt.kx, ent0 Bt.kx] Bt.ex2 (fun k => k = b17) (.slice (some ⟨b10, 0, none⟩) 1 1) [ent0 Bt.kx] Bt.ex1 (fun k => k = b10) (.slice none 0 0) [] [] (fun _ => False) 2 _ ((((((((((t7.keep e7).keep e8).keep e9).keep e10).keep e11).keep e12).keep e13).keep e14).keep e15).keep e16) (EntL.two0 _) (t18.keep e16) (EntL.one0 _) (Sl.nil _ _ _) EntL.nil (fun j hj => by have q1 : j = b17 := hj; omega) (fun j hj => by have q1 : j = b10 := hj; omega) (fun _ h => h.elim) (Bt.big_ex Bt.ex2_all) (Bt.big_ex Bt.ex1_all) (Bt.mid_ex Bt.ex2_all) (Bt.mid_ex Bt.ex1_all) (by decide) ((t17.keep e15).keep e16) (.inr ⟨.inl Bt.ordered_ex2, rfl, rfl⟩)) ?_
 rintro v_110 w17 ⟨rfl, e17⟩
 have z17 := e17.size
 refine O.pickT rfl (O.asg (K10 (C.ret (Outs.one rfl rfl ?_))))
 exact ⟨rfl, (Ext.trans (Ext.trans (Ext.trans (Ext.trans (Ext.trans (Ext.trans (Ext.trans (Ext.trans (Ext.trans (Ext.trans (Ext.trans (Ext.trans (Ext.trans (Ext.trans (Ext.trans (Ext.trans e1 e2) e3) e4) e5) e6) e7) e8) e9) e10) e11) e12) e13) e14) e15) e16) e17)⟩
end Go.Proofs.YtpbcafkcfobngaaGreatDoor
end
section
namespace Go.Proofs.YtpbcafkcfobngaaGreatDoor
open Go.Pn Go.ChangeShapes Go.WideShapes Go.ChangeAt Go.RowKit
theorem pOwn : ownKnob Tryz.prog.godebug = none := by kernel_rfl
theorem pLaidOut : laidOutB Tryz.prog = true := by kernel_rfl
theorem opensDot (W : World) : Opens Tryz.prog W Dt.dotF.enc (fun _ => True) 112 :=
 (Opens.struct2 Tryz.underlying112 (Opens.int Tryz.underlying3 (by kernel_rfl)) (Opens.int Tryz.underlying3 (by kernel_rfl)) rfl rfl (by kernel_rfl)).imp rfl fun cs d h _ => by
   obtain ⟨a, b, rfl, ha, hb⟩ := h
   exact ⟨d, by rw [show a = [.int .i64 d.1] from ha, show b = [.int .i64 d.2] from hb]; rfl, trivial⟩
theorem opensItem (W : World) : Opens Tryz.prog W itemE (fun _ => True) 117 :=
 Opens.item (Opens.marks Tryz.underlying114 Tryz.underlying112 Tryz.underlying3 Tryz.underlying3 Tryz.underlying3 Tryz.underlying110 (by kernel_rfl) (by kernel_rfl) (by kernel_rfl) (by kernel_rfl) (by kernel_rfl) (by kernel_rfl) rfl rfl rfl rfl rfl) Tryz.underlying117 Tryz.underlying9 Tryz.underlying115 (by kernel_rfl) (by kernel_rfl) (by kernel_rfl) rfl rfl
theorem opensCart (W : World) : Opens Tryz.prog W cartE (fun _ => True) 47 :=
 (Opens.struct2 Tryz.underlying47 (Opens.struct2 Tryz.underlying44 ((opensDot W).slice Tryz.underlying42 (by kernel_rfl) (by decide)) ((opensDot W).slice Tryz.underlying41 (by kernel_rfl) (by decide)) rfl rfl (by kernel_rfl)) ((opensItem W).slice Tryz.underlying45 (by kernel_rfl) (by decide)) rfl rfl (by kernel_rfl)).imp rfl fun cs d h _ => ⟨d, h, trivial⟩
theorem opensEntry (W : World) : Opens Tryz.prog W entE (fun _ => True) 50 :=
 (Opens.struct2 Tryz.underlying50 (Opens.str Tryz.underlying9 (by kernel_rfl)) (opensCart W) rfl rfl (by kernel_rfl)).imp rfl fun cs d h _ => ⟨d, h, trivial⟩
set_option maxRecDepth 100000 in
theorem ents_of {W : World} {H : Type} {enc : TypeId × Value → H} {base : Nat} {v : Value} {d : DataW H} {p : List MemPlace} (hval : Value.okWide Tryz.prog W .any base 22 v) (h : DataW.Trod enc Tryz.prog W 0 (fun _ => true) true 22 v d p) :
 ∃ l : List EntT, Sl entE W (fun k => k < W.heap.size) v l := by
 obtain ⟨l, h1, _⟩ := arg_slice (opensEntry W) Tryz.underlying22 (by kernel_rfl) (by decide) hval h
 exact ⟨l, h1⟩
theorem mx_of {W : World} (h : W.ShapedOpen Tryz.prog) : Mx W := ⟨Tryz.laysM144.s1_3 W h⟩
def pFlat : DataW Unit → List Value
 | .agg l => l.flatMap fun
   | .lit (.int k n) => [Value.int k n]
   | .agg l2 => l2.map fun
     | .lit (.int k n) => Value.int k n
     | _ => .nilIface
   | _ => [.nilIface]
 | _ => []
def pPut (h : Array Obj) (g : Nat) (cs : List Value) : Array Obj := h.modify g fun
 | .cells _ t frozen => .cells cs.toArray t frozen
 | o => o
noncomputable def pWorld (os : Os) : World :=
 { World.holding Tryz.prog os ⟨#[], #[], []⟩ with heap := (pPut (pPut (World.holding Tryz.prog os ⟨#[], #[], []⟩).heap 2 (pFlat Rows.laid_unicode_utf8_acceptRanges)) 1 (pFlat Rows.laid_unicode_utf8_first)) }
set_option maxRecDepth 100000 in
theorem pMet (os : Os) (args : Array Value) : laidMet Tryz.prog Rows.batchEncodesRow.laid ((pWorld os).forCall (fun _ _ => 0) ⟨#[], args, []⟩).memory :=
 laidMet_of_run' 8 (by kernel_rfl) (by kernel_rfl)
end Go.Proofs.YtpbcafkcfobngaaGreatDoor
end
