/-
 The walks that read parts of a cart. Conditions: slices as they lie in memory.
-/
import Derived.Ground.Names2Prog
import Derived.Shelf.Spec.SlicesInsert
import Derived.Shelf.Spec.SlicesInsertGrow
import Derived.Test.YtpbcafkcfobngaaGreatDoorProg
import Derived.Test.YtpbcafkcfobngaaGreatDoorOutboxM5
set_option maxHeartbeats 16000000
section
namespace Go.Proofs.YtpbcafkcfobngaaGreatDoor
open Go.Pn Go.RowKit Go.Proofs _root_.Go.Proofs.Tryz
attribute [local irreducible] O C D
theorem Mx.keepM {M : Nat → Prop} {w w' : World} (h : Mx w) (e : Ext M w w') (hM : ¬ M 0) : Mx w' := by obtain ⟨m, hm⟩ := h.h; exact ⟨m, hm.keepM e hM⟩
theorem Mx.keepO {M : Nat → Prop} {w w' : World} (h : Mx w) (e : Ext M w w') (hM : ¬ M 0 := by intro h; (try dsimp only at h); omega) : Mx w' := h.keepM e hM
theorem Mx.lt {w : World} (h : Mx w) : 0 < w.heap.size := by obtain ⟨m, hm⟩ := h.h; exact hm.lt
theorem must_spec (e : Int) (w : World) :
 RetZ prog 266 #[.int .i64 (e)] w (fun v w' => v = .tuple #[] ∧ e = 0 ∧ Le w w') (fun ch w' => ch = [{ v := .iface 282 (.agg #[]), recovered := false }] ∧ e ≠ 0 ∧ Le w w') := by
 refine enterZ (args := [.int .i64 (e)]) (n := 6) func266 rfl rfl (leB rfl) (C.sr fun K1 => O.mv (O.neqI rfl rfl (K1 (C.condD rfl (fun c3 => ?_) (fun c3 => ?_)))))
 ·
  refine C.region (O.build (cells := #[]) rfl (by kernel_rfl) (O.mkI U282 rfl rfl (O.panics rfl ?_)))
  exact ⟨rfl, c3, (Le.refl _)⟩
 refine C.skip (Outs.none rfl ?_)
 exact ⟨rfl, by omega, (Le.refl _)⟩
theorem num_spec (b : Nat) (vr : Value) (l : List UInt8) (k : Nat) (F : Nat → Prop) (most : BitVec 64) (w : World) (ho : Own w b 234 [.bool true, vr, .int .i64 ((k : Int))]) (hl : Sl byteE w F vr l) (hk : k ≤ l.length) (hF : ∀ j, F j → j ≠ b ∧ j < w.heap.size) (hL : l.length ≤ 1000000) :
 RetZ prog 247 #[.pointer (some ⟨b, 0, none⟩), .int .u64 ((most).toNat : Int)] w (fun v w' => ∃ (n : BitVec 64) (k' : Nat), v = .int .u64 (n.toNat : Int) ∧ Own w' b 234 [.bool true, vr, .int .i64 ((k' : Int))] ∧ n.toNat ≤ most.toNat ∧ Cn.SegN n l k k' ∧ Ext (fun j => j = b) w w') (fun ch w' => ch = [{ v := .iface 282 (.agg #[]), recovered := false }] ∧ Cn.NumQ most.toNat l k ∧ Ext (fun j => j = b) w w') := by
 have _hF9 := hF
 have _hk9 := hk
 have hbl := ho.lt
 have hll := hl.le
 refine enterZ (args := [.pointer (some ⟨b, 0, none⟩), .int .u64 ((most).toNat : Int)]) (n := 16) func247 rfl rfl (leB rfl) (C.sr fun K1 => O.asg (K1 (C.sr fun K2 => O.mv (O.mv (O.call call129 (args2 rfl rfl) (rdNum_spec b vr l k F most _ ho hl hk (fun j hj => by have q1 := hF j hj; omega) hL) ?_)))))
 rintro v_10 w1 ⟨nv10, env10, knv10, rfl, hov10, hcv10, e1⟩
 have z1 := e1.size
 refine O.mv (O.extract rfl rfl (O.extract rfl rfl (O.asg (O.asg (K2 (C.sr fun K3 => O.mv (O.callZ call266 (args1 rfl) (must_spec _ _) (fun ch_ wz_ hz_ => ?_) ?_)))))))
 ·
  rcases hcv10 with ⟨q1, _⟩ | ⟨q1, q2, q3, q4⟩
  ·exact absurd q1 hz_.2.1
  ·exact ⟨hz_.1, q4, Ext.trans (Ext.nw (Ext.refl _ _) e1) (Le.to hz_.2.2)⟩
 rintro v_14 w2 ⟨rfl, hzv14, e2⟩
 have z2 := e2.size
 refine K3 (C.sr fun K4 => O.mv (O.asg (K4 (C.ret (Outs.one rfl rfl ?_)))))
 rcases hcv10 with ⟨q1, q2, q3⟩ | ⟨q1, _⟩
 ·exact ⟨nv10, knv10, rfl, (hov10.keep e2), q2, q3, (Ext.nw (Ext.nw (Ext.refl _ _) e1) e2)⟩
 ·exfalso; omega
theorem one_spec (b : Nat) (vr : Value) (l : List UInt8) (k : Nat) (F : Nat → Prop) (w : World) (ho : Own w b 234 [.bool true, vr, .int .i64 ((k : Int))]) (hl : Sl byteE w F vr l) (hk : k ≤ l.length) (hF : ∀ j, F j → j ≠ b ∧ j < w.heap.size) (hL : l.length ≤ 1000000) :
 RetZ prog 267 #[.pointer (some ⟨b, 0, none⟩)] w (fun v w' => ∃ (d : Dt.Dot) (k' : Nat), v = Dt.dv d ∧ Own w' b 234 [.bool true, vr, .int .i64 ((k' : Int))] ∧ Cn.dotQ d ∧ Cn.Seg (Cn.dotB d) l k k' ∧ Ext (fun j => j = b) w w') (fun ch w' => ch = [{ v := .iface 282 (.agg #[]), recovered := false }] ∧ Cn.No Cn.dotQ Cn.dotB l k ∧ Ext (fun j => j = b) w w') := by
 have _hF9 := hF
 have _hk9 := hk
 have hbl := ho.lt
 have hll := hl.le
 refine enterZ (args := [.pointer (some ⟨b, 0, none⟩)]) (n := 12) func267 rfl rfl (leB rfl) (C.sr fun K1 => O.alloc zeroValue112 (fun b2 w1 hb2 hz2 e1 => ?_))
 have z1 := e1.size
 have h2 := hz2.own
 have hl2 := h2.lt
 refine K1 (C.sr fun K2 => O.mv (O.callZ call247 (args2 rfl rfl) (num_spec b vr l k F 65535#64 _ (ho.keep e1) (hl.keep e1) hk (fun j hj => by have q1 := hF j hj; omega) hL) (fun ch_ wz_ hz_ => ?_) ?_))
 ·
  exact ⟨hz_.1, Cn.no_dot1 hz_.2.1, Ext.trans (Ext.nw (Ext.refl _ _) e1) hz_.2.2⟩
 rintro v_5 w2 ⟨nv5, knv5, rfl, hov5, hqv5, hsv5, e2⟩
 have z2 := e2.size
 refine O.asg (K2 (C.sr fun K3 => O.mv (O.convU64I U110 U3 rfl (O.mv (O.callZ call247 (args2 rfl rfl) (num_spec b vr l knv5 F 4294967295#64 _ hov5 ((hl.keep e1).keepA e2) hsv5.2.2 (fun j hj => by have q1 := hF j hj; omega) hL) (fun ch_ wz_ hz_ => ?_) ?_)))))
 ·
  exact ⟨hz_.1, Cn.no_dot2 hsv5 hqv5 hz_.2.1, Ext.trans (Ext.nw (Ext.nw (Ext.refl _ _) e1) e2) hz_.2.2⟩
 rintro v_9 w3 ⟨nv9, knv9, rfl, hov9, hqv9, hsv9, e3⟩
 have z3 := e3.size
 refine O.convU64I U110 U3 rfl (O.build (cells := #[.int .i64 nv5.toInt, .int .i64 nv9.toInt]) rfl (by kernel_rfl) (O.storeA (vs := [.int .i64 nv5.toInt, .int .i64 nv9.toInt]) Z112 rfl rfl rfl (by simp [Value.oneCell']) ((h2.keepO e2).keepO e3) (leB rfl) (fun w4 hs4 e4 z4 => K3 (C.ret (Outs.cellA rfl isAgg112 Z112 rfl hs4 rfl ?_)))))
 exact ⟨(nv5.toInt, nv9.toInt), knv9, rfl, (hov9.keepO e4), Cn.dotQ_mk hqv5 hqv9, Cn.seg_dot hsv5 hsv9, (Ext.nw (Ext.nw (Ext.nw (Ext.nw (Ext.refl _ _) e1) e2) e3) e4)⟩
theorem ddots_spec (b : Nat) (vr : Value) (l : List UInt8) (k : Nat) (F : Nat → Prop) (w : World) (ho : Own w b 234 [.bool true, vr, .int .i64 ((k : Int))]) (hl : Sl byteE w F vr l) (hk : k ≤ l.length) (hF : ∀ j, F j → j ≠ b ∧ j < w.heap.size) (hL : l.length ≤ 1000000) :
 RetZ prog 265 #[.pointer (some ⟨b, 0, none⟩)] w (fun v w' => ∃ (ds : List Dt.Dot) (k' : Nat), Own w' b 234 [.bool true, vr, .int .i64 ((k' : Int))] ∧ Fre Dt.dotF 112 w' (fun j => w.heap.size ≤ j ∧ j < w'.heap.size) v ds ∧ ds.length ≤ l.length ∧ Cn.manyQ Cn.dotQ ds ∧ Cn.Seg (Cn.manyB Cn.dotB ds) l k k' ∧ Ext (fun j => j = b) w w') (fun ch w' => ch = [{ v := .iface 282 (.agg #[]), recovered := false }] ∧ Cn.No (Cn.manyQ Cn.dotQ) (Cn.manyB Cn.dotB) l k ∧ Ext (fun j => j = b) w w') := by
 have _hF9 := hF
 have _hk9 := hk
 have hbl := ho.lt
 have hll := hl.le
 obtain ⟨ie112, ti112, ts112, tb112, tz112⟩ := inf112
 refine enterZ (args := [.pointer (some ⟨b, 0, none⟩)]) (n := 17) func265 rfl rfl (leB rfl) (C.sr fun K1 => O.asg (K1 (C.sr fun K2 => O.asg (K2 (C.sq fun K3 => C.sr fun K4 => O.mv (O.callZ call247 (args2 rfl rfl) (num_spec b vr l k F 18446744073709551615#64 _ ho hl hk (fun j hj => by have q1 := hF j hj; omega) hL) (fun ch_ wz_ hz_ => ?_) ?_))))))
 ·
  exact ⟨hz_.1, Cn.no_many1 (Cn.numA_of hz_.2.1 (by decide)) Cn.dotB_ge (by omega), Ext.trans (Ext.refl _ _) hz_.2.2⟩
 rintro v_6 w1 ⟨nv6, knv6, rfl, hov6, hqv6, hsv6, e1⟩
 have z1 := e1.size
 refine O.asg (K4 (C.bl fun K5 => C.loop0 (σ := List Dt.Dot × Value × Nat) (fun f0 w0 ⟨ds, vs, kc⟩ f wz => f 3 = vs ∧ f 4 = .int .u64 ((BitVec.ofNat 64 (nv6.toNat - ds.length)).toNat : Int) ∧ f 0 = f0 0 ∧ f 2 = f0 2 ∧ Ext (fun j => j = b) w wz ∧ Own wz b 234 [.bool true, vr, .int .i64 ((kc : Int))] ∧ OwnF Dt.dotF 112 w.heap.size wz vs ds ∧ ds.length ≤ nv6.toNat ∧ Cn.manyQ Cn.dotQ ds ∧ Cn.Seg (ds.flatMap Cn.dotB) l knv6 kc) (fun ⟨ds, vs, kc⟩ => nv6.toNat - ds.length) ([], .slice none 0 0, knv6) ?_ ?_))
 ·
  refine ⟨rfl, (Eq.trans rfl (congrArg (fun q : BitVec 64 => Value.int .u64 (q.toNat : Int)) (by simp))), rfl, rfl, (Ext.nw (Ext.refl _ _) e1), hov6, (OwnF.nil _ _ _ _), ?_⟩
  exact ⟨Nat.zero_le _, Cn.manyQ_nil, Cn.Seg.nil hsv6.2.2⟩
 rintro ⟨ds, vs, kc⟩ f_1 w2 ⟨s3_1, s4_1, s0_1, s2_1, e_1, r0_1, r1_1, ⟨hj, hQ, hS⟩⟩
 have z_1 := e_1.size
 have r1_1s := r1_1.sl
 have hln := Cn.seg_len Cn.dotB_ge hS
 have hNl := nv6.isLt
 refine C.sq fun K6 => C.sr fun K7 => O.mv (O.gtrU (m := 64) (b := 0#64) s4_1 rfl (K7 (C.condD rfl (fun c8 => ?_) (fun c8 => ?_))))
 ·
  have hj2 : ds.length < nv6.toNat := by have q := (Cn.pos_ofNat (m := nv6.toNat - ds.length) (by omega)).1 c8; omega
  refine C.skip (K6 (C.sq fun K8 => C.bl fun K9 => C.region (O.mv (O.mv (O.callZ call267 (args1 s0_1) (one_spec b vr l kc F _ r0_1 (hl.keepA e_1) hS.2.2 (fun j hj => by have q1 := hF j hj; omega) hL) (fun ch_ wz_ hz_ => ?_) ?_)))))
  ·
   exact ⟨hz_.1, Cn.no_many2 hsv6 Cn.pre_dotQ hQ hS hj2 hz_.2.1, Ext.trans (Ext.nw (Ext.refl _ _) e_1) hz_.2.2⟩
  rintro v_13 w3 ⟨dv13, knv13, rfl, hov13, hqv13, hsv13, e3⟩
  have z3 := e3.size
  refine O.litG (G := Dt.dotF) [dv13] U41 ti112 ts112 tz112 rfl (by decide) (by decide) rfl (fun b14 w4 hb14 hz14 e4 => ?_)
  have z4 := e4.size
  have h14 := hz14.own
  have hq14 := Sl.litG (n := 1) h14 rfl (by unfold maxLen; omega)
  have t0 := r1_1.keepM e3 (fun k hk h => by have := r1_1.bk_ge k hk; (try dsimp only at h); omega)
  refine O.appF (G := Dt.dotF) U41 ti112 tz112 ts112 rfl s3_1 rfl (t0.keep e4) hq14 (by rw [tb112]; simp; omega) (by unfold maxLen; simp; omega) (by omega) (fun v15 w5 h15 e5 => ?_)
  have e5m : Ext (fun j => w.heap.size ≤ j) w4 w5 := e5.mono (fun j _ hj => by have := (t0.keep e4).bk_ge j hj; omega)
  have z5 := e5.size
  have h15s := h15.sl
  refine O.asg (O.nil (K9 (K8 (C.region (O.mv (O.subU (m := 64) (b := 1#64) rfl rfl s4_1 rfl (O.asg (O.nil (⟨(ds ++ [dv13], v15, knv13), ⟨rfl, (Eq.trans rfl (congrArg (fun q : BitVec 64 => Value.int .u64 (q.toNat : Int)) (by rw [Cn.dec_ofNat (by omega) (by omega), List.length_append]; rfl))), s0_1, s2_1, (Ext.nw (Ext.nw (Ext.nw (Ext.nw (Ext.refl _ _) e_1) e3) e4) e5m), ((hov13.keep e4).keepM e5 (by intro h; have := (t0.keep e4).bk_ge _ h; omega)), h15, ?_⟩, by show nv6.toNat - (ds ++ [dv13]).length < nv6.toNat - ds.length; rw [List.length_append]; show nv6.toNat - (ds.length + 1) < _; omega⟩)))))))))
  exact ⟨by rw [List.length_append]; exact hj2, Cn.manyQ_snoc hQ hqv13, Cn.Seg.snoc hS hsv13⟩
 have hj3 : ds.length = nv6.toNat := by have q := mt (Cn.pos_ofNat (m := nv6.toNat - ds.length) (by omega)).2 c8; omega
 refine C.exit (K5 (K3 (C.sr fun K10 => O.mv (O.asg (K10 (C.ret (Outs.one rfl s3_1 ?_)))))))
 exact ⟨ds, kc, r0_1, (r1_1).fre (fun j hj => by have := (r1_1).bk_ge j hj; exact ⟨by omega, by omega⟩), by omega, hQ, Cn.seg_many hsv6 hS hj3, (Ext.nw (Ext.refl _ _) e_1)⟩
theorem dseen_spec (b : Nat) (vr : Value) (l : List UInt8) (k : Nat) (F : Nat → Prop) (w : World) (ho : Own w b 234 [.bool true, vr, .int .i64 ((k : Int))]) (hl : Sl byteE w F vr l) (hk : k ≤ l.length) (hF : ∀ j, F j → j ≠ b ∧ j < w.heap.size) (hL : l.length ≤ 1000000) :
 RetZ prog 246 #[.pointer (some ⟨b, 0, none⟩)] w (fun v w' => ∃ (v1 v2 : Value) (x : Cn.Ctx) (k' : Nat), v = .agg #[v1, v2] ∧ Own w' b 234 [.bool true, vr, .int .i64 ((k' : Int))] ∧ Fre Dt.dotF 112 w' (fun j => w.heap.size ≤ j ∧ j < w'.heap.size) v1 x.1 ∧ Fre Dt.dotF 112 w' (fun j => w.heap.size ≤ j ∧ j < w'.heap.size) v2 x.2 ∧ (x.1.length ≤ l.length ∧ x.2.length ≤ l.length) ∧ Cn.isCompact x = true ∧ Cn.Seg (Cn.ctxB x) l k k' ∧ Ext (fun j => j = b) w w') (fun ch w' => ch = [{ v := .iface 282 (.agg #[]), recovered := false }] ∧ Cn.No Cn.comp Cn.ctxB l k ∧ Ext (fun j => j = b) w w') := by
 have _hF9 := hF
 have _hk9 := hk
 have hbl := ho.lt
 have hll := hl.le
 refine enterZ (args := [.pointer (some ⟨b, 0, none⟩)]) (n := 16) func246 rfl rfl (leB rfl) (C.sr fun K1 => O.alloc zeroValue44 (fun b2 w1 hb2 hz2 e1 => ?_))
 have z1 := e1.size
 have h2 := hz2.own
 have hl2 := h2.lt
 refine K1 (C.sr fun K2 => O.mv (O.callZ call265 (args1 rfl) (ddots_spec b vr l k F _ (ho.keep e1) (hl.keep e1) hk (fun j hj => by have q1 := hF j hj; omega) hL) (fun ch_ wz_ hz_ => ?_) ?_))
 ·
  exact ⟨hz_.1, Cn.no_comp (Cn.no_ctx1 hz_.2.1), Ext.trans (Ext.nw (Ext.refl _ _) e1) hz_.2.2⟩
 rintro v_5 w2 ⟨dsv5, knv5, hov5, hlv5, hnv5, hqv5, hsv5, e2⟩
 have z2 := e2.size
 obtain ⟨p5, rfl⟩ := hlv5.slv
 have hls5 := hlv5.sl
 refine O.build (cells := #[slv p5, .slice none 0 0]) rfl (by kernel_rfl) (O.alloc zeroValue44 (fun b3 w3 hb3 hz3 e3 => ?_))
 have z3 := e3.size
 have h3 := hz3.own
 have hl3 := h3.lt
 refine O.storeA (vs := [slv p5, .slice none 0 0]) Z44 rfl rfl rfl (by simp [slv, Value.oneCell']) h3 (leB rfl) (fun w4 hs4 e4 z4 => K2 (C.sr fun K3 => O.mv (O.callZ call265 (args1 rfl) (ddots_spec b vr l knv5 F _ ((hov5.keep e3).keepO e4) ((((hl.keep e1).keepA e2).keep e3).keepA e4) hsv5.2.2 (fun j hj => by have q1 := hF j hj; omega) hL) (fun ch_ wz_ hz_ => ?_) ?_)))
 ·
  exact ⟨hz_.1, Cn.no_comp (Cn.no_ctx2 hsv5 hqv5 hz_.2.1), Ext.trans (Ext.nw (Ext.nw (Ext.nw (Ext.nw (Ext.refl _ _) e1) e2) e3) e4) hz_.2.2⟩
 rintro v_8 w5 ⟨dsv8, knv8, hov8, hlv8, hnv8, hqv8, hsv8, e5⟩
 have z5 := e5.size
 obtain ⟨p8, rfl⟩ := hlv8.slv
 have hls8 := hlv8.sl
 refine O.fa U44 rfl Z41 rfl (O.store Z41 rfl rfl rfl (hs4.keepO e5) (by simp) (fun w6 hs6 e6 z6 => ?_))
 try simp only [Nat.zero_add] at hs6
 refine K3 (C.sq fun K4 => C.sr fun K5 => O.loadOA isAgg44 Z44 rfl hs6 (leB rfl) (O.call call98 (args1 rfl) (isCompact_spec (slv p5) (slv p8) (dsv5, dsv8) (fun _ => True) _ ((((((hls5.keep e3).keepA e4).keepA e5).keepA e6)).weak fun _ _ => trivial) (((hls8.keepA e6)).weak fun _ _ => trivial)) ?_))
 rintro v_11 w7 ⟨rfl, e7⟩
 have z7 := e7.size
 refine O.not rfl (K5 (C.cond rfl (fun c12 => ?_) (fun c12 => ?_)))
 ·
  refine C.region (O.build (cells := #[]) rfl (by kernel_rfl) (O.mkI U282 rfl rfl (O.panics rfl ?_)))
  exact ⟨rfl, Cn.no_comp3 (Cn.seg_ctx hsv5 hsv8) ⟨hqv5, hqv8⟩ (by simpa using c12), (Ext.nw (Ext.nw (Ext.nw (Ext.nw (Ext.nw (Ext.nw (Ext.nw (Ext.refl _ _) e1) e2) e3) e4) e5) e6) e7)⟩
 refine C.skip (K4 (C.sr fun K6 => O.loadOA isAgg44 Z44 rfl (hs6.keep e7) (leB rfl) (O.storeA (vs := [slv p5, slv p8]) Z44 rfl rfl rfl (by simp [slv, Value.oneCell']) ((((((h2.keepO e2).keep e3).keepO e4).keepO e5).keepO e6).keep e7) (leB rfl) (fun w8 hs8 e8 z8 => K6 (C.ret (Outs.cellA rfl isAgg44 Z44 rfl hs8 rfl ?_))))))
 exact ⟨slv p5, slv p8, (dsv5, dsv8), knv8, rfl, (((hov8.keepO e6).keep e7).keepO e8), (((((((hlv5.keep e3).keepA e4).keepA e5).keepA e6).keep e7).keepA e8)).weakA, ((((hlv8.keepA e6).keep e7).keepA e8)).weakA, ⟨hnv5, hnv8⟩, by simpa using c12, Cn.seg_ctx hsv5 hsv8, (Ext.nw (Ext.nw (Ext.nw (Ext.nw (Ext.nw (Ext.nw (Ext.nw (Ext.nw (Ext.refl _ _) e1) e2) e3) e4) e5) e6) e7) e8)⟩
theorem ditem_spec (b : Nat) (vr : Value) (l : List UInt8) (k : Nat) (F : Nat → Prop) (w : World) (ho : Own w b 234 [.bool true, vr, .int .i64 ((k : Int))]) (hl : Sl byteE w F vr l) (hk : k ≤ l.length) (hF : ∀ j, F j → j ≠ b ∧ j < w.heap.size) (hL : l.length ≤ 1000000) :
 RetZ prog 248 #[.pointer (some ⟨b, 0, none⟩)] w (fun v w' => ∃ (s : List UInt8) (vm : Value) (ms : List MarkT) (k' : Nat), v = .agg #[str s, vm] ∧ Own w' b 234 [.bool true, vr, .int .i64 ((k' : Int))] ∧ Fre markF 114 w' (fun j => w.heap.size ≤ j ∧ j < w'.heap.size) vm ms ∧ ms.length ≤ l.length ∧ Cn.itemQ (s, ms) ∧ Cn.Seg (Cn.itemB (s, ms)) l k k' ∧ Ext (fun j => j = b) w w') (fun ch w' => ch = [{ v := .iface 282 (.agg #[]), recovered := false }] ∧ Cn.No Cn.itemQ Cn.itemB l k ∧ Ext (fun j => j = b) w w') := by
 have _hF9 := hF
 have _hk9 := hk
 have hbl := ho.lt
 have hll := hl.le
 obtain ⟨ie114, ti114, ts114, tb114, tz114⟩ := inf114
 refine enterZ (args := [.pointer (some ⟨b, 0, none⟩)]) (n := 40) func248 rfl rfl (leB rfl) (C.sr fun K1 => O.alloc zeroValue117 (fun b2 w1 hb2 hz2 e1 => ?_))
 have z1 := e1.size
 have h2 := hz2.own
 have hl2 := h2.lt
 refine K1 (C.sr fun K2 => O.mv (O.call call130 (args2 rfl rfl) (rdStr_spec b vr l k F 64 _ (ho.keep e1) (hl.keep e1) hk (fun j hj => by have q1 := hF j hj; omega) hL (by unfold InI; omega)) ?_))
 rintro v_10 w2 ⟨nv10, env10, knv10, rfl, hov10, hcv10, e2⟩
 have z2 := e2.size
 refine O.mv (O.extract rfl rfl (O.extract rfl rfl (O.asg (O.asg (K2 (C.sr fun K3 => O.mv (O.callZ call266 (args1 rfl) (must_spec _ _) (fun ch_ wz_ hz_ => ?_) ?_)))))))
 ·
  rcases hcv10 with ⟨q1, _⟩ | ⟨q1, q2, q4⟩
  ·exact absurd q1 hz_.2.1
  ·exact ⟨hz_.1, Cn.no_item1 q4, Ext.trans (Ext.nw (Ext.nw (Ext.refl _ _) e1) e2) (Le.to hz_.2.2)⟩
 rintro v_14 w3 ⟨rfl, hzv14, e3⟩
 have z3 := e3.size
 obtain ⟨q1, hnm, hsg10⟩ : env10 = 0 ∧ Cn.nameQ nv10 ∧ Cn.Seg (Cn.strB nv10) l k knv10 := by
  rcases hcv10 with ⟨q1, q2, q3⟩ | ⟨q1, _⟩
  ·exact ⟨q1, q2, q3⟩
  ·exfalso; omega
 refine K3 (C.sr fun K4 => O.mv (O.build (cells := #[str nv10, .slice none 0 0]) rfl (by kernel_rfl) (O.alloc zeroValue117 (fun b5 w4 hb5 hz5 e4 => ?_))))
 have z4 := e4.size
 have h5 := hz5.own
 have hl5 := h5.lt
 refine O.storeA (vs := [str nv10, .slice none 0 0]) Z117 rfl rfl rfl (ones2 rfl) h5 (leB rfl) (fun w5 hs5 e5 z5 => K4 (C.sq fun K5 => C.sr fun K6 => O.mv (O.callZ call247 (args2 rfl rfl) (num_spec b vr l knv10 F 18446744073709551615#64 _ (((hov10.keep e3).keep e4).keepO e5) (((((hl.keep e1).keepA e2).keep e3).keep e4).keepA e5) hsg10.2.2 (fun j hj => by have q1 := hF j hj; omega) hL) (fun ch_ wz_ hz_ => ?_) ?_)))
 ·
  exact ⟨hz_.1, Cn.no_item2 hsg10 hnm (Cn.no_many1 (Cn.numA_of hz_.2.1 (by decide)) Cn.markB_ge (by omega)), Ext.trans (Ext.nw (Ext.nw (Ext.nw (Ext.nw (Ext.nw (Ext.refl _ _) e1) e2) e3) e4) e5) hz_.2.2⟩
 rintro v_18 w6 ⟨nv18, knv18, rfl, hov18, hqv18, hsv18, e6⟩
 have z6 := e6.size
 refine O.asg (K6 (C.bl fun K7 => C.loop0 (σ := List MarkT × Value × Nat) (fun f0 w0 ⟨ms, vm, kc⟩ f wz => f 6 = .int .u64 ((BitVec.ofNat 64 (nv18.toNat - ms.length)).toNat : Int) ∧ f 0 = f0 0 ∧ f 2 = f0 2 ∧ f 5 = f0 5 ∧ Ext (fun j => j = b) w wz ∧ Own wz b 234 [.bool true, vr, .int .i64 ((kc : Int))] ∧ Own wz b2 117 [str [], .slice none 0 0] ∧ Own wz b5 117 [str nv10, vm] ∧ OwnF markF 114 (b5 + 1) wz vm ms ∧ ms.length ≤ nv18.toNat ∧ Cn.manyQ Cn.markQ ms ∧ Cn.Seg (ms.flatMap Cn.markB) l knv18 kc) (fun ⟨ms, vm, kc⟩ => nv18.toNat - ms.length) ([], .slice none 0 0, knv18) ?_ ?_))
 ·
  refine ⟨(Eq.trans rfl (congrArg (fun q : BitVec 64 => Value.int .u64 (q.toNat : Int)) (by simp))), rfl, rfl, rfl, (Ext.nw (Ext.nw (Ext.nw (Ext.nw (Ext.nw (Ext.nw (Ext.refl _ _) e1) e2) e3) e4) e5) e6), hov18, (((((h2.keepO e2).keep e3).keep e4).keepO e5).keepO e6), (hs5.keepO e6), (OwnF.nil _ _ _ _), ?_⟩
  exact ⟨Nat.zero_le _, Cn.manyQ_nil, Cn.Seg.nil hsv18.2.2⟩
 rintro ⟨ms, vm, kc⟩ f_1 w7 ⟨s6_1, s0_1, s2_1, s5_1, e_1, r0_1, r1_1, r2_1, r3_1, ⟨hj, hQ, hS⟩⟩
 have z_1 := e_1.size
 have r3_1s := r3_1.sl
 have hln := Cn.seg_len Cn.markB_ge hS
 have hNl := nv18.isLt
 have hvm1 := (r3_1).one
 have hbl5 := (r2_1).lt
 have hbl2 := (r1_1).lt
 refine C.sq fun K8 => C.sr fun K9 => O.mv (O.gtrU (m := 64) (b := 0#64) s6_1 rfl (K9 (C.condD rfl (fun c20 => ?_) (fun c20 => ?_))))
 ·
  have hj2 : ms.length < nv18.toNat := by have q := (Cn.pos_ofNat (m := nv18.toNat - ms.length) (by omega)).1 c20; omega
  refine C.skip (K8 (C.sq fun K10 => C.bl fun K11 => C.sr fun K12 => O.mv (O.callZ call267 (args1 s0_1) (one_spec b vr l kc F _ r0_1 (hl.keepA e_1) hS.2.2 (fun j hj => by have q1 := hF j hj; omega) hL) (fun ch_ wz_ hz_ => ?_) ?_)))
  ·
   exact ⟨hz_.1, Cn.no_item2 hsg10 hnm (Cn.no_many2 hsv18 Cn.pre_markQ hQ hS hj2 (Cn.no_mark1 hz_.2.1)), Ext.trans (Ext.nw (Ext.refl _ _) e_1) hz_.2.2⟩
  rintro v_24 w8 ⟨dv24, knv24, rfl, hov24, hqv24, hsv24, e8⟩
  have z8 := e8.size
  refine O.build (cells := #[.int .i64 dv24.1, .int .i64 dv24.2, .int .i64 0, .int .u64 0]) rfl (by kernel_rfl) (O.alloc zeroValue114 (fun b7 w9 hb7 hz7 e9 => ?_))
  have z9 := e9.size
  have h7 := hz7.own
  have hl7 := h7.lt
  refine O.storeA (vs := [.int .i64 dv24.1, .int .i64 dv24.2, .int .i64 0, .int .u64 0]) Z114 rfl rfl rfl (by simp [Value.oneCell']) h7 (leB rfl) (fun w10 hs10 e10 z10 => K12 (C.sr fun K13 => O.mv ?_))
  have t0 := ((hl.keepA e_1).keepA e8).keep e9
  refine O.callZ call247 (args2 s0_1 rfl) (num_spec b vr l knv24 F 2147483647#64 _ ((hov24.keep e9).keepO e10) (t0.keepA e10) hsv24.2.2 (fun j hj => by have q1 := hF j hj; omega) hL) (fun ch_ wz_ hz_ => ?_) ?_
  ·
   exact ⟨hz_.1, Cn.no_item2 hsg10 hnm (Cn.no_many2 hsv18 Cn.pre_markQ hQ hS hj2 (Cn.no_mark2 hsv24 hqv24 hz_.2.1)), Ext.trans (Ext.nw (Ext.nw (Ext.nw (Ext.nw (Ext.refl _ _) e_1) e8) e9) e10) hz_.2.2⟩
  rintro v_27 w11 ⟨nv27, knv27, rfl, hov27, hqv27, hsv27, e11⟩
  have z11 := e11.size
  refine O.convU64I U110 U3 rfl (O.fa U114 rfl Z3 rfl (O.store Z3 rfl rfl rfl (hs10.keepO e11) (by simp) (fun w12 hs12 e12 z12 => ?_)))
  try simp only [Nat.zero_add] at hs12
  refine K13 (C.sr fun K14 => O.mv (O.callZ call247 (args2 s0_1 rfl) (num_spec b vr l knv27 F 18446744073709551615#64 _ (hov27.keepO e12) (((t0.keepA e10).keepA e11).keepA e12) hsv27.2.2 (fun j hj => by have q1 := hF j hj; omega) hL) (fun ch_ wz_ hz_ => ?_) ?_))
  ·
   exact ⟨hz_.1, Cn.no_item2 hsg10 hnm (Cn.no_many2 hsv18 Cn.pre_markQ hQ hS hj2 (Cn.no_mark3 hsv24 hqv24 hsv27 hqv27 (Cn.numA_of hz_.2.1 (by decide)))), Ext.trans (Ext.nw (Ext.nw (Ext.nw (Ext.nw (Ext.nw (Ext.nw (Ext.refl _ _) e_1) e8) e9) e10) e11) e12) hz_.2.2⟩
  rintro v_31 w13 ⟨nv31, knv31, rfl, hov31, hqv31, hsv31, e13⟩
  have z13 := e13.size
  refine O.fa U114 rfl Z110 rfl (O.store Z110 rfl rfl rfl (hs12.keepO e13) (by simp) (fun w14 hs14 e14 z14 => ?_))
  try simp only [Nat.zero_add] at hs14
  refine K14 (C.region (O.fa U117 rfl Z115 s5_1 (O.loadO isAgg115 rfl (((((((r2_1.keepO e8).keep e9).keepO e10).keepO e11).keepO e12).keepO e13).keepO e14) rfl (O.loadOA isAgg114 Z114 rfl hs14 (leB rfl) (O.cast (v' := mv (dv24, nv27.toInt, nv31)) rfl (O.litG (G := markF) [(dv24, nv27.toInt, nv31)] U115 ti114 ts114 tz114 rfl (by decide) (by decide) rfl (fun b36 w15 hb36 hz36 e15 => ?_)))))))
  have z15 := e15.size
  have h36 := hz36.own
  have hq36 := Sl.litG (n := 1) h36 rfl (by unfold maxLen; omega)
  have t1 := r3_1.keepM e8 (fun k hk h => by have := r3_1.bk_ge k hk; (try dsimp only at h); omega)
  have t2 := (t1.keep e9).keepM e10 (fun k hk h => by have := r3_1.bk_ge k hk; (try dsimp only at h); omega)
  have t3 := t2.keepM e11 (fun k hk h => by have := r3_1.bk_ge k hk; (try dsimp only at h); omega)
  have t4 := t3.keepM e12 (fun k hk h => by have := r3_1.bk_ge k hk; (try dsimp only at h); omega)
  have t5 := t4.keepM e13 (fun k hk h => by have := r3_1.bk_ge k hk; (try dsimp only at h); omega)
  have t6 := t5.keepM e14 (fun k hk h => by have := r3_1.bk_ge k hk; (try dsimp only at h); omega)
  refine O.appF (G := markF) U115 ti114 tz114 ts114 rfl rfl rfl (t6.keep e15) hq36 (by rw [tb114]; simp; omega) (by unfold maxLen; simp; omega) (by omega) (fun v37 w16 h37 e16 => ?_)
  have e16m : Ext (fun j => w.heap.size ≤ j) w15 w16 := e16.mono (fun j _ hj => by have := (t6.keep e15).bk_ge j hj; omega)
  have z16 := e16.size
  have h37s := h37.sl
  refine O.fa U117 rfl Z115 s5_1 (O.store Z115 rfl rfl h37.one (((((((((r2_1.keepO e8).keep e9).keepO e10).keepO e11).keepO e12).keepO e13).keepO e14).keep e15).keepM e16 (by intro h; have := (t6.keep e15).bk_ge _ h; omega)) (by simp) (fun w17 hs17 e17 z17 => ?_))
  try simp only [Nat.zero_add] at hs17
  refine O.nil (K11 (K10 (C.region (O.mv (O.subU (m := 64) (b := 1#64) rfl rfl s6_1 rfl (O.asg (O.nil ?_)))))))
  refine ⟨(ms ++ [(dv24, nv27.toInt, nv31)], v37, knv31), ⟨(Eq.trans rfl (congrArg (fun q : BitVec 64 => Value.int .u64 (q.toNat : Int)) (by rw [Cn.dec_ofNat (by omega) (by omega), List.length_append]; rfl))), s0_1, s2_1, s5_1, (Ext.nw (Ext.nw (Ext.nw (Ext.nw (Ext.nw (Ext.nw (Ext.nw (Ext.nw (Ext.nw (Ext.nw (Ext.nw (Ext.refl _ _) e_1) e8) e9) e10) e11) e12) e13) e14) e15) e16m) e17), ((((hov31.keepO e14).keep e15).keepM e16 (by intro h; have := (t6.keep e15).bk_ge _ h; omega)).keepO e17), ((((((((((r1_1.keepO e8).keep e9).keepO e10).keepO e11).keepO e12).keepO e13).keepO e14).keep e15).keepM e16 (by intro h; have := (t6.keep e15).bk_ge _ h; omega)).keepO e17), hs17, (h37.keepM e17 (fun k hk h => by have := h37.bk_ge k hk; (try dsimp only at h); omega)), ?_⟩, by show nv18.toNat - (ms ++ [_]).length < nv18.toNat - ms.length; rw [List.length_append]; show nv18.toNat - (ms.length + 1) < _; omega⟩
  exact ⟨by rw [List.length_append]; exact hj2, Cn.manyQ_snoc hQ (Cn.markQ_mk hqv24 hqv27), Cn.Seg.snoc hS (Cn.seg_mark hsv24 hsv27 hsv31)⟩
 have hj3 : ms.length = nv18.toNat := by have q := mt (Cn.pos_ofNat (m := nv18.toNat - ms.length) (by omega)).2 c20; omega
 refine C.exit (K7 (K5 (C.sr fun K15 => O.loadOA isAgg117 Z117 s5_1 r2_1 (leB rfl) (O.storeA (vs := [str nv10, vm]) Z117 rfl s2_1 rfl (ones2 hvm1) r1_1 (leB rfl) (fun w18 hs18 e18 z18 => K15 (C.ret (Outs.cellA rfl isAgg117 Z117 s2_1 hs18 rfl ?_)))))))
 have t7 := r3_1.keepM e18 (fun k hk h => by have := r3_1.bk_ge k hk; (try dsimp only at h); omega)
 exact ⟨nv10, vm, ms, kc, rfl, (r0_1.keepO e18), (t7).fre (fun j hj => by have := (t7).bk_ge j hj; exact ⟨by omega, by omega⟩), by omega, Cn.itemQ_mk hnm hQ, Cn.seg_item hsg10 (Cn.seg_many hsv18 hS hj3), (Ext.nw (Ext.nw (Ext.refl _ _) e_1) e18)⟩
theorem dwhole_spec (b : Nat) (vr : Value) (l : List UInt8) (k : Nat) (F : Nat → Prop) (w : World) (ho : Own w b 234 [.bool true, vr, .int .i64 ((k : Int))]) (hl : Sl byteE w F vr l) (hk : k ≤ l.length) (hF : ∀ j, F j → j ≠ b ∧ j < w.heap.size) (hL : l.length ≤ 1000000) (mx : Mx w) (hgb : b ≠ 0) :
 RetZ prog 195 #[.pointer (some ⟨b, 0, none⟩)] w (fun v w' => ∃ (v1 v2 v3 : Value) (c : Cn.Cart) (k' : Nat), v = .agg #[v1, v2, v3] ∧ Own w' b 234 [.bool true, vr, .int .i64 ((k' : Int))] ∧ Fre Dt.dotF 112 w' (fun j => w.heap.size ≤ j ∧ j < w'.heap.size) v1 c.1.1 ∧ Fre Dt.dotF 112 w' (fun j => w.heap.size ≤ j ∧ j < w'.heap.size) v2 c.1.2 ∧ SlI 117 114 w' (fun j => w.heap.size ≤ j ∧ j < w'.heap.size) v3 c.2 ∧ Cn.big c ∧ Cn.valid c = true ∧ Cn.Seg (Cn.bytes c) l k k' ∧ Ext (fun j => j = b) w w') (fun ch w' => ch = [{ v := .iface 282 (.agg #[]), recovered := false }] ∧ Cn.No Cn.val Cn.bytes l k ∧ Ext (fun j => j = b) w w') := by
 have _hF9 := hF
 have _hk9 := hk
 have hbl := ho.lt
 have hll := hl.le
 obtain ⟨ie117, ti117, ts117, tb117, tz117⟩ := inf117
 have hgl := mx.lt
 refine enterZ (args := [.pointer (some ⟨b, 0, none⟩)]) (n := 27) func195 rfl rfl (leB rfl) (C.sr fun K1 => O.alloc zeroValue47 (fun b2 w1 hb2 hz2 e1 => ?_))
 have z1 := e1.size
 have h2 := hz2.own
 have hl2 := h2.lt
 refine K1 (C.sr fun K2 => O.mv (O.callZ call246 (args1 rfl) (dseen_spec b vr l k F _ (ho.keep e1) (hl.keep e1) hk (fun j hj => by have q1 := hF j hj; omega) hL) (fun ch_ wz_ hz_ => ?_) ?_))
 ·
  exact ⟨hz_.1, Cn.no_val (Cn.no_cart1 hz_.2.1), Ext.trans (Ext.nw (Ext.refl _ _) e1) hz_.2.2⟩
 rintro v_6 w2 ⟨vav6, vbv6, xv6, knv6, rfl, hov6, hxv6, hyv6, hnv6, hcv6, hsv6, e2⟩
 have z2 := e2.size
 obtain ⟨p6, rfl⟩ := hxv6.slv
 obtain ⟨q6, rfl⟩ := hyv6.slv
 have hxs6 := hxv6.sl
 have hys6 := hyv6.sl
 refine O.build (cells := #[slv p6, slv q6, .slice none 0 0]) rfl (by kernel_rfl) (O.alloc zeroValue47 (fun b3 w3 hb3 hz3 e3 => ?_))
 have z3 := e3.size
 have h3 := hz3.own
 have hl3 := h3.lt
 refine O.storeA (vs := [slv p6, slv q6, .slice none 0 0]) Z47 rfl rfl rfl (by simp [slv, Value.oneCell']) h3 (leB rfl) (fun w4 hs4 e4 z4 => K2 (C.sq fun K3 => C.sr fun K4 => O.mv (O.callZ call247 (args2 rfl rfl) (num_spec b vr l knv6 F 18446744073709551615#64 _ ((hov6.keep e3).keepO e4) ((((hl.keep e1).keepA e2).keep e3).keepA e4) hsv6.2.2 (fun j hj => by have q1 := hF j hj; omega) hL) (fun ch_ wz_ hz_ => ?_) ?_)))
 ·
  exact ⟨hz_.1, Cn.no_val (Cn.no_cart2 hsv6 hcv6 (Cn.no_many1 (Cn.numA_of hz_.2.1 (by decide)) Cn.itemB_ge (by omega))), Ext.trans (Ext.nw (Ext.nw (Ext.nw (Ext.nw (Ext.refl _ _) e1) e2) e3) e4) hz_.2.2⟩
 rintro v_9 w5 ⟨nv9, knv9, rfl, hov9, hqv9, hsv9, e5⟩
 have z5 := e5.size
 refine O.asg (K4 (C.bl fun K5 => ?_))
 refine C.loop0 (σ := List ItemT × List (List UInt8 × (Option Addr × Nat × Nat)) × Value × Nat) (fun f0 w0 ⟨its, raw, o, kc⟩ f wz => f 4 = .int .u64 ((BitVec.ofNat 64 (nv9.toNat - its.length)).toNat : Int) ∧ f 0 = f0 0 ∧ f 2 = f0 2 ∧ f 3 = f0 3 ∧ Ext (fun j => j = b) w wz ∧ Own wz b 234 [.bool true, vr, .int .i64 ((kc : Int))] ∧ Own wz b2 47 [.slice none 0 0, .slice none 0 0, .slice none 0 0] ∧ Own wz b3 47 [slv p6, slv q6, o] ∧ OwnF itemF 117 (b3 + 1) wz o raw ∧ ItemsF 114 wz (fun j => b3 < j ∧ j < wz.heap.size ∧ ¬ bk o j) raw its ∧ Sl Dt.dotF.enc wz (fun j => b2 < j ∧ j < b3) (slv p6) xv6.1 ∧ Sl Dt.dotF.enc wz (fun j => b2 < j ∧ j < b3) (slv q6) xv6.2 ∧ Fre Dt.dotF 112 wz (fun j => b2 < j ∧ j < b3) (slv p6) xv6.1 ∧ Fre Dt.dotF 112 wz (fun j => b2 < j ∧ j < b3) (slv q6) xv6.2 ∧ its.length ≤ nv9.toNat ∧ Cn.manyQ Cn.itemQ its ∧ (∀ x ∈ its, x.2.length ≤ 1000000) ∧ Cn.Seg (its.flatMap Cn.itemB) l knv9 kc) (fun ⟨its, raw, o, kc⟩ => nv9.toNat - its.length) ([], [], .slice none 0 0, knv9) ?_ ?_
 ·
  refine ⟨(Eq.trans rfl (congrArg (fun q : BitVec 64 => Value.int .u64 (q.toNat : Int)) (by simp))), rfl, rfl, rfl, (Ext.nw (Ext.nw (Ext.nw (Ext.nw (Ext.nw (Ext.refl _ _) e1) e2) e3) e4) e5), hov9, ((((h2.keepO e2).keep e3).keepO e4).keepO e5), (hs4.keepO e5), (OwnF.nil _ _ _ _), ItemsF.nil, (((((hxs6.keep e3).keepA e4).keepA e5)).weakA), (((((hys6.keep e3).keepA e4).keepA e5)).weakA), (((((hxv6.keep e3).keepA e4).keepA e5)).weakA), (((((hyv6.keep e3).keepA e4).keepA e5)).weakA), ?_⟩
  exact ⟨Nat.zero_le _, Cn.manyQ_nil, Cn.manyQ_nil, Cn.Seg.nil hsv9.2.2⟩
 rintro ⟨its, raw, o, kc⟩ f_1 w6 ⟨s4_1, s0_1, s2_1, s3_1, e_1, r0_1, r1_1, r2_1, r3_1, r4_1, r5_1, r6_1, r7_1, r8_1, ⟨hj, hQ, hI, hS⟩⟩
 have z_1 := e_1.size
 have r3_1s := r3_1.sl
 obtain ⟨wL, hwL⟩ : ∃ x, x = w6 := ⟨_, rfl⟩
 have hzL : wL.heap.size = w6.heap.size := by rw [hwL]
 have hln := Cn.seg_len Cn.itemB_ge hS
 have hNl := nv9.isLt
 have ho1 := (r3_1).one
 have hbl3 := (r2_1).lt
 have hbl2 := (r1_1).lt
 have hit := r4_1
 have hitl := hit.1
 have hob := (r3_1).bk_ge
 refine C.sq fun K6 => C.sr fun K7 => O.mv (O.gtrU (m := 64) (b := 0#64) s4_1 rfl (K7 (C.condD rfl (fun c11 => ?_) (fun c11 => ?_))))
 ·
  have hj2 : its.length < nv9.toNat := by have q := (Cn.pos_ofNat (m := nv9.toNat - its.length) (by omega)).1 c11; omega
  refine C.skip (K6 (C.sq fun K8 => C.bl fun K9 => C.drawB (wB := (bare w6)) (by kernel_rfl) fun w7 e7 => ?_))
  have z7 := e7.size
  refine D.t 0 rfl (Ext.bare (Ext.nt (Ext.refl (fun _ => True) _) e7)) (fun _ _ _ hN => O.fa U47 rfl Z45 s3_1 (O.nil hN)) (D.mv 2 rfl (Ext.bare (Ext.nt (Ext.refl (fun _ => True) _) e7)) (D.many [1, 3] (by kernel_rfl) (by decide) ⟨?_, ?_, trivial⟩))
  ·
   refine D.stepU rfl rfl (O.loadO isAgg45 rfl (r2_1.keep e7) rfl (O.nil ⟨(Ext.bare (Ext.nt (Ext.refl (fun _ => True) _) e7)), D.on 3 rfl rfl (O.callZ call248 (args1 s0_1) (ditem_spec b vr l kc F _ (r0_1.keep e7) ((hl.keepA e_1).keep e7) hS.2.2 (fun j hj => by have q1 := hF j hj; omega) hL) (fun ch_ wz_ hz_ => ?_) ?_)⟩))
   ·
    exact ⟨hz_.1, Cn.no_val (Cn.no_cart2 hsv6 hcv6 (Cn.no_many2 hsv9 Cn.pre_itemQ hQ hS hj2 hz_.2.1)), Ext.trans (Ext.nw (Ext.nw (Ext.refl _ _) e_1) e7) hz_.2.2⟩
   rintro v_17 w8 ⟨sv17, vmv17, msv17, knv17, rfl, hov17, hmv17, hnv17, hqv17, hsv17, e8⟩
   have z8 := e8.size
   refine O.nil ⟨(Ext.bare (Ext.nt (Ext.nt (Ext.refl (fun _ => True) _) e7) e8)), ?_⟩
   obtain ⟨p17, rfl⟩ := hmv17.slv
   refine D.on 4 rfl rfl (O.litG (G := itemF) [(sv17, p17)] U45 ti117 ts117 tz117 rfl (by decide) (by decide) rfl (fun b18 w9 hb18 hz18 e9 => ?_))
   have z9 := e9.size
   have h18 := hz18.own
   have hq18 := Sl.litG (n := 1) h18 rfl (by unfold maxLen; omega)
   refine O.nil ⟨(Ext.bare (Ext.nt (Ext.nt (Ext.nt (Ext.refl (fun _ => True) _) e7) e8) e9)), D.on 5 rfl rfl ?_⟩
   have t0 := (r3_1.keep e7).keepM e8 (fun k hk h => by have := r3_1.bk_ge k hk; (try dsimp only at h); omega)
   refine O.appW (G := itemF) U45 ti117 tz117 ts117 rfl rfl rfl (t0.keep e9) hq18 (by rw [tb117, hit.1]; simp; omega) (by unfold maxLen; rw [hit.1]; simp; omega) (by omega) (fun v19 w10 h19 e10 hw19 => ?_)
   have e10m : Ext (fun j => w.heap.size ≤ j) w9 w10 := e10.mono (fun j _ hj => by have := (t0.keep e9).bk_ge j hj; omega)
   have z10 := e10.size
   have h19s := h19.sl
   refine O.nil ⟨(Ext.bare (Ext.nt (Ext.nt (Ext.nt (Ext.nt (Ext.refl (fun _ => True) _) e7) e8) e9) e10)), ?_⟩
   have hit19 : ItemsF 114 w10 (fun j => b3 < j ∧ j < w10.heap.size ∧ ¬ bk v19 j) (raw ++ [(sv17, p17)]) (its ++ [(sv17, msv17)]) := ((((((r4_1.keep e7).keepA e8).keep e9).keepM e10 (fun j hj h => hj.2.2 h))).weak (fun j hj => ⟨hj.1, by have := hj.2.1; omega, fun hq => by
    rcases hw19 j hq with q | q
    ·exact hj.2.2 q
    ·have := hj.2.1; omega⟩)).snoc (x := (sv17, msv17)) rfl ((((hmv17.keep e9).keepM e10 (by intro j hj h; have q2 := hob j h; (try dsimp only at hj); omega))).weak (by
 intro j hj
 (try dsimp only at hj)
 refine ⟨by omega, by omega, fun hq => ?_⟩
 rcases hw19 j hq with q | q
 ·have := hob j q; omega
 ·omega))
   refine D.t 6 rfl (Ext.bare (Ext.nt (Ext.nt (Ext.nt (Ext.nt (Ext.refl (fun _ => True) _) e7) e8) e9) e10)) (fun _ _ _ hN => O.fa U47 rfl Z45 s3_1 (O.nil hN)) (D.on 7 rfl rfl (O.store Z45 rfl rfl h19.one ((((r2_1.keep e7).keepO e8).keep e9).keepM e10 (by intro h; have := (t0.keep e9).bk_ge _ h; omega)) (by simp) (fun w11 hs11 e11 z11 => ?_)))
   try simp only [Nat.zero_add] at hs11
   refine O.nil ⟨(Ext.bare (Ext.nt (Ext.nt (Ext.nt (Ext.nt (Ext.nt (Ext.refl (fun _ => True) _) e7) e8) e9) e10) e11)), D.dn (K9 (K8 (C.region (O.mv (O.subU (m := 64) (b := 1#64) rfl rfl s4_1 rfl (O.asg (O.nil ?_)))))))⟩
   refine ⟨(its ++ [(sv17, msv17)], raw ++ [(sv17, p17)], v19, knv17), ⟨(Eq.trans rfl (congrArg (fun q : BitVec 64 => Value.int .u64 (q.toNat : Int)) (by rw [Cn.dec_ofNat (by omega) (by omega), List.length_append]; rfl))), s0_1, s2_1, s3_1, (Ext.nw (Ext.nw (Ext.nw (Ext.nw (Ext.nw (Ext.nw (Ext.refl _ _) e_1) e7) e8) e9) e10m) e11), (((hov17.keep e9).keepM e10 (by intro h; have := (t0.keep e9).bk_ge _ h; omega)).keepO e11), (((((r1_1.keep e7).keepO e8).keep e9).keepM e10 (by intro h; have := (t0.keep e9).bk_ge _ h; omega)).keepO e11), hs11, (h19.keepM e11 (fun k hk h => by have := h19.bk_ge k hk; (try dsimp only at h); omega)), (((hit19.keepA e11)).weak (fun j hj => ⟨hj.1, by have := hj.2.1; omega, hj.2.2⟩)), (((((r5_1.keep e7).keepA e8).keep e9).keepM e10 (by intro j hj h; have q2 := (t0.keep e9).bk_ge j h; first | (have q1 := hF j hj; omega) | ((try dsimp only at hj); omega))).keepA e11), (((((r6_1.keep e7).keepA e8).keep e9).keepM e10 (by intro j hj h; have q2 := (t0.keep e9).bk_ge j h; first | (have q1 := hF j hj; omega) | ((try dsimp only at hj); omega))).keepA e11), (((((r7_1.keep e7).keepA e8).keep e9).keepM e10 (by intro j hj h; have q2 := (t0.keep e9).bk_ge j h; first | (have q1 := hF j hj; omega) | ((try dsimp only at hj); omega))).keepA e11), (((((r8_1.keep e7).keepA e8).keep e9).keepM e10 (by intro j hj h; have q2 := (t0.keep e9).bk_ge j h; first | (have q1 := hF j hj; omega) | ((try dsimp only at hj); omega))).keepA e11), ?_⟩, by show nv9.toNat - (its ++ [_]).length < nv9.toNat - its.length; rw [List.length_append]; show nv9.toNat - (its.length + 1) < _; omega⟩
   exact ⟨by rw [List.length_append]; exact hj2, Cn.manyQ_snoc hQ hqv17, Cn.manyQ_snoc hI (by show msv17.length ≤ 1000000; omega), Cn.Seg.snoc hS hsv17⟩
  refine D.stepU rfl rfl (O.callZ call248 (args1 s0_1) (ditem_spec b vr l kc F _ (r0_1.keep e7) ((hl.keepA e_1).keep e7) hS.2.2 (fun j hj => by have q1 := hF j hj; omega) hL) (fun ch_ wz_ hz_ => ?_) ?_)
  ·
   exact ⟨hz_.1, Cn.no_val (Cn.no_cart2 hsv6 hcv6 (Cn.no_many2 hsv9 Cn.pre_itemQ hQ hS hj2 hz_.2.1)), Ext.trans (Ext.nw (Ext.nw (Ext.refl _ _) e_1) e7) hz_.2.2⟩
  rintro v_17 w12 ⟨sv17, vmv17, msv17, knv17, rfl, hov17, hmv17, hnv17, hqv17, hsv17, e12⟩
  have z12 := e12.size
  refine O.nil ⟨(Ext.bare (Ext.nt (Ext.nt (Ext.refl (fun _ => True) _) e7) e12)), ?_⟩
  obtain ⟨p17, rfl⟩ := hmv17.slv
  refine D.many [1, 4] (by kernel_rfl) (by decide) ⟨?_, ?_, trivial⟩
  ·
   refine D.stepU rfl rfl (O.loadO isAgg45 rfl ((r2_1.keep e7).keepO e12) rfl (O.nil ⟨(Ext.bare (Ext.nt (Ext.nt (Ext.refl (fun _ => True) _) e7) e12)), D.on 4 rfl rfl (O.litG (G := itemF) [(sv17, p17)] U45 ti117 ts117 tz117 rfl (by decide) (by decide) rfl (fun b18 w13 hb18 hz18 e13 => ?_))⟩))
   have z13 := e13.size
   have h18 := hz18.own
   have hq18 := Sl.litG (n := 1) h18 rfl (by unfold maxLen; omega)
   refine O.nil ⟨(Ext.bare (Ext.nt (Ext.nt (Ext.nt (Ext.refl (fun _ => True) _) e7) e12) e13)), D.on 5 rfl rfl ?_⟩
   have t1 := (r3_1.keep e7).keepM e12 (fun k hk h => by have := r3_1.bk_ge k hk; (try dsimp only at h); omega)
   refine O.appW (G := itemF) U45 ti117 tz117 ts117 rfl rfl rfl (t1.keep e13) hq18 (by rw [tb117, hit.1]; simp; omega) (by unfold maxLen; rw [hit.1]; simp; omega) (by omega) (fun v19 w14 h19 e14 hw19 => ?_)
   have e14m : Ext (fun j => w.heap.size ≤ j) w13 w14 := e14.mono (fun j _ hj => by have := (t1.keep e13).bk_ge j hj; omega)
   have z14 := e14.size
   have h19s := h19.sl
   refine O.nil ⟨(Ext.bare (Ext.nt (Ext.nt (Ext.nt (Ext.nt (Ext.refl (fun _ => True) _) e7) e12) e13) e14)), ?_⟩
   have hit19 : ItemsF 114 w14 (fun j => b3 < j ∧ j < w14.heap.size ∧ ¬ bk v19 j) (raw ++ [(sv17, p17)]) (its ++ [(sv17, msv17)]) := ((((((r4_1.keep e7).keepA e12).keep e13).keepM e14 (fun j hj h => hj.2.2 h))).weak (fun j hj => ⟨hj.1, by have := hj.2.1; omega, fun hq => by
    rcases hw19 j hq with q | q
    ·exact hj.2.2 q
    ·have := hj.2.1; omega⟩)).snoc (x := (sv17, msv17)) rfl ((((hmv17.keep e13).keepM e14 (by intro j hj h; have q2 := hob j h; (try dsimp only at hj); omega))).weak (by
 intro j hj
 (try dsimp only at hj)
 refine ⟨by omega, by omega, fun hq => ?_⟩
 rcases hw19 j hq with q | q
 ·have := hob j q; omega
 ·omega))
   refine D.t 6 rfl (Ext.bare (Ext.nt (Ext.nt (Ext.nt (Ext.nt (Ext.refl (fun _ => True) _) e7) e12) e13) e14)) (fun _ _ _ hN => O.fa U47 rfl Z45 s3_1 (O.nil hN)) (D.on 7 rfl rfl (O.store Z45 rfl rfl h19.one ((((r2_1.keep e7).keepO e12).keep e13).keepM e14 (by intro h; have := (t1.keep e13).bk_ge _ h; omega)) (by simp) (fun w15 hs15 e15 z15 => ?_)))
   try simp only [Nat.zero_add] at hs15
   refine O.nil ⟨(Ext.bare (Ext.nt (Ext.nt (Ext.nt (Ext.nt (Ext.nt (Ext.refl (fun _ => True) _) e7) e12) e13) e14) e15)), D.dn (K9 (K8 (C.region (O.mv (O.subU (m := 64) (b := 1#64) rfl rfl s4_1 rfl (O.asg (O.nil ?_)))))))⟩
   refine ⟨(its ++ [(sv17, msv17)], raw ++ [(sv17, p17)], v19, knv17), ⟨(Eq.trans rfl (congrArg (fun q : BitVec 64 => Value.int .u64 (q.toNat : Int)) (by rw [Cn.dec_ofNat (by omega) (by omega), List.length_append]; rfl))), s0_1, s2_1, s3_1, (Ext.nw (Ext.nw (Ext.nw (Ext.nw (Ext.nw (Ext.nw (Ext.refl _ _) e_1) e7) e12) e13) e14m) e15), (((hov17.keep e13).keepM e14 (by intro h; have := (t1.keep e13).bk_ge _ h; omega)).keepO e15), (((((r1_1.keep e7).keepO e12).keep e13).keepM e14 (by intro h; have := (t1.keep e13).bk_ge _ h; omega)).keepO e15), hs15, (h19.keepM e15 (fun k hk h => by have := h19.bk_ge k hk; (try dsimp only at h); omega)), (((hit19.keepA e15)).weak (fun j hj => ⟨hj.1, by have := hj.2.1; omega, hj.2.2⟩)), (((((r5_1.keep e7).keepA e12).keep e13).keepM e14 (by intro j hj h; have q2 := (t1.keep e13).bk_ge j h; first | (have q1 := hF j hj; omega) | ((try dsimp only at hj); omega))).keepA e15), (((((r6_1.keep e7).keepA e12).keep e13).keepM e14 (by intro j hj h; have q2 := (t1.keep e13).bk_ge j h; first | (have q1 := hF j hj; omega) | ((try dsimp only at hj); omega))).keepA e15), (((((r7_1.keep e7).keepA e12).keep e13).keepM e14 (by intro j hj h; have q2 := (t1.keep e13).bk_ge j h; first | (have q1 := hF j hj; omega) | ((try dsimp only at hj); omega))).keepA e15), (((((r8_1.keep e7).keepA e12).keep e13).keepM e14 (by intro j hj h; have q2 := (t1.keep e13).bk_ge j h; first | (have q1 := hF j hj; omega) | ((try dsimp only at hj); omega))).keepA e15), ?_⟩, by show nv9.toNat - (its ++ [_]).length < nv9.toNat - its.length; rw [List.length_append]; show nv9.toNat - (its.length + 1) < _; omega⟩
   exact ⟨by rw [List.length_append]; exact hj2, Cn.manyQ_snoc hQ hqv17, Cn.manyQ_snoc hI (by show msv17.length ≤ 1000000; omega), Cn.Seg.snoc hS hsv17⟩
  refine D.stepU rfl rfl (O.litG (G := itemF) [(sv17, p17)] U45 ti117 ts117 tz117 rfl (by decide) (by decide) rfl (fun b18 w16 hb18 hz18 e16 => ?_))
  have z16 := e16.size
  have h18 := hz18.own
  have hq18 := Sl.litG (n := 1) h18 rfl (by unfold maxLen; omega)
  refine O.nil ⟨(Ext.bare (Ext.nt (Ext.nt (Ext.nt (Ext.refl (fun _ => True) _) e7) e12) e16)), D.on 1 rfl rfl ?_⟩
  have t2 := ((r2_1.keep e7).keepO e12).keep e16
  refine O.loadO isAgg45 rfl t2 rfl (O.nil ⟨(Ext.bare (Ext.nt (Ext.nt (Ext.nt (Ext.refl (fun _ => True) _) e7) e12) e16)), D.on 5 rfl rfl ?_⟩)
  have t3 := (r3_1.keep e7).keepM e12 (fun k hk h => by have := r3_1.bk_ge k hk; (try dsimp only at h); omega)
  refine O.appW (G := itemF) U45 ti117 tz117 ts117 rfl rfl rfl (t3.keep e16) hq18 (by rw [tb117, hit.1]; simp; omega) (by unfold maxLen; rw [hit.1]; simp; omega) (by omega) (fun v19 w17 h19 e17 hw19 => ?_)
  have e17m : Ext (fun j => w.heap.size ≤ j) w16 w17 := e17.mono (fun j _ hj => by have := (t3.keep e16).bk_ge j hj; omega)
  have z17 := e17.size
  have h19s := h19.sl
  refine O.nil ⟨(Ext.bare (Ext.nt (Ext.nt (Ext.nt (Ext.nt (Ext.refl (fun _ => True) _) e7) e12) e16) e17)), ?_⟩
  have hit19 : ItemsF 114 w17 (fun j => b3 < j ∧ j < w17.heap.size ∧ ¬ bk v19 j) (raw ++ [(sv17, p17)]) (its ++ [(sv17, msv17)]) := ((((((r4_1.keep e7).keepA e12).keep e16).keepM e17 (fun j hj h => hj.2.2 h))).weak (fun j hj => ⟨hj.1, by have := hj.2.1; omega, fun hq => by
   rcases hw19 j hq with q | q
   ·exact hj.2.2 q
   ·have := hj.2.1; omega⟩)).snoc (x := (sv17, msv17)) rfl ((((hmv17.keep e16).keepM e17 (by intro j hj h; have q2 := hob j h; (try dsimp only at hj); omega))).weak (by
 intro j hj
 (try dsimp only at hj)
 refine ⟨by omega, by omega, fun hq => ?_⟩
 rcases hw19 j hq with q | q
 ·have := hob j q; omega
 ·omega))
  refine D.t 6 rfl (Ext.bare (Ext.nt (Ext.nt (Ext.nt (Ext.nt (Ext.refl (fun _ => True) _) e7) e12) e16) e17)) (fun _ _ _ hN => O.fa U47 rfl Z45 s3_1 (O.nil hN)) (D.on 7 rfl rfl (O.store Z45 rfl rfl h19.one (t2.keepM e17 (by intro h; have := (t3.keep e16).bk_ge _ h; omega)) (by simp) (fun w18 hs18 e18 z18 => ?_)))
  try simp only [Nat.zero_add] at hs18
  refine O.nil ⟨(Ext.bare (Ext.nt (Ext.nt (Ext.nt (Ext.nt (Ext.nt (Ext.refl (fun _ => True) _) e7) e12) e16) e17) e18)), D.dn (K9 (K8 (C.region (O.mv (O.subU (m := 64) (b := 1#64) rfl rfl s4_1 rfl (O.asg (O.nil ?_)))))))⟩
  refine ⟨(its ++ [(sv17, msv17)], raw ++ [(sv17, p17)], v19, knv17), ⟨(Eq.trans rfl (congrArg (fun q : BitVec 64 => Value.int .u64 (q.toNat : Int)) (by rw [Cn.dec_ofNat (by omega) (by omega), List.length_append]; rfl))), s0_1, s2_1, s3_1, (Ext.nw (Ext.nw (Ext.nw (Ext.nw (Ext.nw (Ext.nw (Ext.refl _ _) e_1) e7) e12) e16) e17m) e18), (((hov17.keep e16).keepM e17 (by intro h; have := (t3.keep e16).bk_ge _ h; omega)).keepO e18), (((((r1_1.keep e7).keepO e12).keep e16).keepM e17 (by intro h; have := (t3.keep e16).bk_ge _ h; omega)).keepO e18), hs18, (h19.keepM e18 (fun k hk h => by have := h19.bk_ge k hk; (try dsimp only at h); omega)), (((hit19.keepA e18)).weak (fun j hj => ⟨hj.1, by have := hj.2.1; omega, hj.2.2⟩)), (((((r5_1.keep e7).keepA e12).keep e16).keepM e17 (by intro j hj h; have q2 := (t3.keep e16).bk_ge j h; first | (have q1 := hF j hj; omega) | ((try dsimp only at hj); omega))).keepA e18), (((((r6_1.keep e7).keepA e12).keep e16).keepM e17 (by intro j hj h; have q2 := (t3.keep e16).bk_ge j h; first | (have q1 := hF j hj; omega) | ((try dsimp only at hj); omega))).keepA e18), (((((r7_1.keep e7).keepA e12).keep e16).keepM e17 (by intro j hj h; have q2 := (t3.keep e16).bk_ge j h; first | (have q1 := hF j hj; omega) | ((try dsimp only at hj); omega))).keepA e18), (((((r8_1.keep e7).keepA e12).keep e16).keepM e17 (by intro j hj h; have q2 := (t3.keep e16).bk_ge j h; first | (have q1 := hF j hj; omega) | ((try dsimp only at hj); omega))).keepA e18), ?_⟩, by show nv9.toNat - (its ++ [_]).length < nv9.toNat - its.length; rw [List.length_append]; show nv9.toNat - (its.length + 1) < _; omega⟩
  exact ⟨by rw [List.length_append]; exact hj2, Cn.manyQ_snoc hQ hqv17, Cn.manyQ_snoc hI (by show msv17.length ≤ 1000000; omega), Cn.Seg.snoc hS hsv17⟩
 have hj3 : its.length = nv9.toNat := by have q := mt (Cn.pos_ofNat (m := nv9.toNat - its.length) (by omega)).2 c11; omega
 obtain ⟨wq, hwq⟩ : ∃ x, x = w6 := ⟨_, rfl⟩
 have hzq : wq.heap.size = w6.heap.size := by rw [hwq]
 have hsa1 : Sl Dt.dotF.enc w6 (fun j => j < wq.heap.size) (slv p6) xv6.1 := (r5_1).weak (by intro j hj; have q := hj.2; show j < wq.heap.size; omega)
 have hsa2 : Sl Dt.dotF.enc w6 (fun j => j < wq.heap.size) (slv q6) xv6.2 := (r6_1).weak (by intro j hj; have q := hj.2; show j < wq.heap.size; omega)
 have hsi : Sl itemE w6 (fun j => b3 < j ∧ j < wq.heap.size) o its := (hit.weak (by intro j hj; have q1 := hj.1; have q := hj.2.1; show b3 < j ∧ j < wq.heap.size; omega)).items.sl ((r3_1).sl.weak (by intro j hj; have q := hob j hj; show b3 < j ∧ j < wq.heap.size; omega))
 have hsa3 : Sl itemE w6 (fun j => j < wq.heap.size) o its := hsi.weak fun j hj => hj.2
 have hsI : SlI 117 114 w6 (fun j => b3 < j ∧ j < wq.heap.size) o its := ⟨raw, (r3_1).fre (by intro j hj; have q := hob j hj; show b3 < j ∧ j < wq.heap.size; omega), hit.weak (by intro j hj; have q1 := hj.1; have q := hj.2.1; show b3 < j ∧ j < wq.heap.size; omega)⟩
 refine C.exit (K5 (K3 (C.sq fun K10 => C.sr fun K11 => O.loadOA isAgg47 Z47 s3_1 r2_1 (leB rfl) (O.call call61 (args1 rfl) (cartValid_spec (slv p6) (slv q6) o (xv6, its) (fun j => j < wq.heap.size) _ hsa1 hsa2 hsa3 (fun j hj => by have hj : j < wq.heap.size := hj; omega) (by show its.length ≤ 1000000; omega) (fun x hx => ⟨by have := (hQ x hx).1; omega, hI x hx⟩) (mx.keepM e_1 (fun h => hgb h.symm))) ?_))))
 rintro v_22 w19 ⟨rfl, e19⟩
 have z19 := e19.size
 refine O.not rfl (K11 (C.cond rfl (fun c23 => ?_) (fun c23 => ?_)))
 ·
  refine C.region (O.build (cells := #[]) rfl (by kernel_rfl) (O.mkI U282 rfl rfl (O.panics rfl ?_)))
  exact ⟨rfl, Cn.no_val3 (Cn.seg_cart hsv6 (Cn.seg_many hsv9 hS hj3)) ⟨hcv6, hQ⟩ (by simpa using c23), (Ext.nw (Ext.nw (Ext.refl _ _) e_1) e19)⟩
 refine C.skip (K10 (C.sr fun K12 => O.loadOA isAgg47 Z47 s3_1 (r2_1.keep e19) (leB rfl) (O.storeA (vs := [slv p6, slv q6, o]) Z47 rfl s2_1 rfl (by have q9 := ho1; intro u hu; simp only [List.mem_cons, List.not_mem_nil, or_false] at hu; rcases hu with rfl | rfl | rfl <;> first | rfl | exact q9) (r1_1.keep e19) (leB rfl) (fun w20 hs20 e20 z20 => K12 (C.ret (Outs.cellA rfl isAgg47 Z47 s2_1 hs20 rfl ?_))))))
 exact ⟨slv p6, slv q6, o, (xv6, its), kc, rfl, ((r0_1.keep e19).keepO e20), (((r7_1.keep e19).keepA e20)).weakA, (((r8_1.keep e19).keepA e20)).weakA, (((hsI.keep e19).keepA e20)).weakA, ⟨by have := hnv6.1; show xv6.1.length ≤ 1000000; omega, by have := hnv6.2; show xv6.2.length ≤ 1000000; omega, by show its.length ≤ 1000000; omega, fun x hx => ⟨by have := (hQ x hx).1; omega, hI x hx⟩⟩, by simpa using c23, Cn.seg_cart hsv6 (Cn.seg_many hsv9 hS hj3), (Ext.nw (Ext.nw (Ext.nw (Ext.refl _ _) e_1) e19) e20)⟩
theorem caught_idle (v : Value) (w : World) : CallsD prog 194 #[v] .returning w fun e u' w' => (∃ q, e = .returned q) ∧ settle u' = .returning ∧ w' = w := by
 refine (callsD_recover (S := fun w' => w' = w) (u' := .returning) (rv := .nilIface) (args := [v]) (n := Tryz.f194.ntmps) func194 rfl rfl (leB rfl) rfl (fun c₀ cs hu => ?_) ?_).mono fun e u2 w' h => ⟨h.1, by rw [h.2.1]; rfl, h.2.2⟩
 ·simp [recoverD, hu]
 refine C.block fun K1 hK1 => C.sr fun K2 => O.eqlN0 rfl underlying20 (K2 (C.condT rfl (C.region (O.asg (O.nil ?_)))))
 exact hK1 _ _ rfl
theorem caught_wrong (b : Nat) (x : Int) (w : World) (ho : Own w b 28 [.int .i64 x]) : CallsD prog 194 #[.pointer (some ⟨b, 0, none⟩)] (.panicking [{ v := .iface 282 (.agg #[]), recovered := false }]) w fun e u' w' => (∃ q, e = .returned q) ∧ settle u' = .returning ∧ (Own w' b 28 [.int .i64 12] ∧ Ext (fun j => j = b) w w') := by
 have hbl := ho.lt
 refine (callsD_recover (S := fun w' => Own w' b 28 [.int .i64 12] ∧ Ext (fun j => j = b) w w') (u' := .panicking [{ v := .iface 282 (.agg #[]), recovered := true }]) (rv := .iface 282 (.agg #[])) (args := [.pointer (some ⟨b, 0, none⟩)]) (n := Tryz.f194.ntmps) func194 rfl rfl (leB rfl) rfl (fun c₀ cs hu => ?_) ?_).mono fun e u2 w' h => ⟨h.1, by rw [h.2.1]; rfl, h.2.2⟩
 ·simp [recoverD, hu]
 refine C.block fun K1 hK1 => C.sr fun K2 => O.eqlN1 rfl rfl underlying20 (K2 (C.condF rfl (C.sr fun K3 => O.holds U282 rfl rfl (O.extract rfl rfl (O.extract rfl rfl (K3 (C.condT rfl (C.sr fun K4 => O.alloc zeroValue282 (fun b3 w1 hb3 hz3 e1 => ?_)))))))))
 have z1 := e1.size
 refine O.storeA (vs := []) sizeOf282 rfl rfl rfl (by simp) hz3.own (Nat.zero_le _) (fun w2 hs2 e2 z2 => K4 (C.region (O.mv (O.nilChk rfl (O.store sizeOf28 rfl rfl rfl ((ho.keep e1).keepO e2) (by simp) (fun w3 hs3 e3 z3 => O.nil (hK1 _ _ ⟨hs3, ?_⟩)))))))
 exact Ext.trans (Ext.new (Le.to e1) e2 (by intro i hi h; (try dsimp only at h); omega)) e3
theorem prefix_spec (v0 : Value) (l : List UInt8) (F : Nat → Prop) (w : World) (hl : Sl byteE w F v0 l) (hL : l.length ≤ 1000000) (hF : ∀ j, F j → j < w.heap.size) (mx : Mx w) :
 Ret prog 131 #[v0] w (fun v w' => ∃ (v1 v2 v3 : Value) (c : Cn.Cart) (k' : Nat) (e : Int), v = .tuple #[.agg #[v1, v2, v3], .int .i64 (k' : Int), .int .i64 e] ∧ Fre Dt.dotF 112 w' (fun j => w.heap.size ≤ j ∧ j < w'.heap.size) v1 c.1.1 ∧ Fre Dt.dotF 112 w' (fun j => w.heap.size ≤ j ∧ j < w'.heap.size) v2 c.1.2 ∧ SlI 117 114 w' (fun j => w.heap.size ≤ j ∧ j < w'.heap.size) v3 c.2 ∧ Cn.big c ∧ Cn.Pref l c k' e ∧ Le w w') := by
 have hgl := mx.lt
 have hll := hl.le
 have _hF9 := hF
 refine enterD (args := [v0]) (n := 14) (ks := [2, 3, 4]) func131 rfl rfl (leB rfl) rfl (C.region (O.alloc zeroValue47 (fun b2 w1 hb2 hz2 e1 => ?_)))
 have z1 := e1.size
 have h2 := hz2.own
 have hl2 := h2.lt
 refine O.asg (O.alloc zeroValue28 (fun b4 w2 hb4 hz4 e2 => ?_))
 have z2 := e2.size
 have h4 := hz4.own
 have hl4 := h4.lt
 refine O.nil (⟨.pointer (some ⟨b4, 0, none⟩), (fun ch w' => ch = [{ v := .iface 282 (.agg #[]), recovered := false }] ∧ Cn.No Cn.val Cn.bytes l 0 ∧ Le w2 w'), rfl, ?_, ?_⟩)
 ·
  refine CD.seqK fun K1 hK1 => CD.region (by kernel_rfl) rfl (O.mv (O.call call128 (args1 rfl) (rdNew_spec _ l _ _ ((hl.keep e1).keep e2) hL) ?_))
  rintro v_8 w3 ⟨brv8, vrv8, rfl, hov8, hlv8, hbv8, hb2v8, e3⟩
  have z3 := e3.size
  refine O.asg (O.nil (hK1 _ _ (CD.seqK fun K2 hK2 => CD.region (by kernel_rfl) rfl (O.mv (O.callZ call195 (args1 rfl) (dwhole_spec brv8 vrv8 l 0 _ _ hov8 hlv8 (Nat.zero_le _) (fun j hj => by have hj1 := hj.1; have hj2 := hj.2; exact ⟨by omega, by omega⟩) hL (((mx.keep e1).keep e2).keep e3) (by omega)) (fun ch_ wz_ hz_ => ?_) ?_)))))
  ·
   exact ⟨hz_.1, hz_.2.1, Ext.new e3 hz_.2.2 (by intro i hi h; (try dsimp only at h); omega)⟩
  rintro v_10 w4 ⟨vav10, vbv10, vcv10, cv10, knv10, rfl, hov10, hxv10, hyv10, hzv10, hgv10, hcv10, hsv10, e4⟩
  have z4 := e4.size
  obtain ⟨p1, rfl⟩ := hxv10.slv
  obtain ⟨p2, rfl⟩ := hyv10.slv
  obtain ⟨p3, rfl⟩ := hzv10.sl.slv
  refine O.alloc zeroValue47 (fun b6 w5 hb6 hz6 e5 => ?_)
  have z5 := e5.size
  have h6 := hz6.own
  have hl6 := h6.lt
  refine O.storeA (vs := [slv p1, slv p2, slv p3]) Z47 rfl rfl rfl (by simp [slv, Value.oneCell']) h6 (leB rfl) (fun w6 hs6 e6 z6 => O.nil (hK2 _ _ (CD.seqK fun K3 hK3 => CD.drawB (wB := (bare w6)) (by kernel_rfl) fun w7 e7 => ?_)))
  have z7 := e7.size
  refine D.mv 1 rfl (Ext.bare (Ext.nt (Ext.refl (fun _ => True) _) e7)) (D.many [0, 2] (by kernel_rfl) (by decide) ⟨?_, ?_, trivial⟩)
  ·
   refine D.stepU rfl rfl (O.loadOA isAgg47 Z47 rfl (hs6.keep e7) (leB rfl) (O.nil ⟨(Ext.bare (Ext.nt (Ext.refl (fun _ => True) _) e7)), D.on 2 rfl rfl (O.call call132 (args1 rfl) (rdAt_spec brv8 vrv8 l knv10 _ _ (((hov10.keep e5).keepO e6).keep e7) ((((hlv8.keepM e4 (by intro k hk h; (try dsimp only at hk); (try dsimp only at h); omega)).keep e5).keepM e6 (by intro k hk h; (try dsimp only at hk); (try dsimp only at h); omega)).keep e7) (hsv10.2.2) (fun j hj => by have hj1 := hj.1; have hj2 := hj.2; exact ⟨by omega, by omega⟩)) ?_)⟩))
   rintro v_13 w8 ⟨rfl, hw_⟩
   replace hw_ := hw_.symm
   subst hw_
   refine O.nil ⟨(Ext.bare (Ext.nt (Ext.refl (fun _ => True) _) e7)), D.on 3 rfl rfl (O.storeA (vs := [slv p1, slv p2, slv p3]) Z47 rfl rfl rfl (by simp [slv, Value.oneCell']) ((((((h2.keep e2).keep e3).keepO e4).keep e5).keepO e6).keep e7) (leB rfl) (fun w8 hs8 e8 z8 => O.nil ⟨(Ext.bare (Ext.nt (Ext.nt (Ext.refl (fun _ => True) _) e7) e8)), D.as 4 rfl (Ext.bare (Ext.nt (Ext.nt (Ext.refl (fun _ => True) _) e7) e8)) (D.on 5 rfl rfl (O.store sizeOf28 rfl rfl rfl ((((((h4.keep e3).keepO e4).keep e5).keepO e6).keep e7).keepO e8) (by decide) (fun w9 hs9 e9 z9 => ?_)))⟩))⟩
   (try simp only [Int.toNat_natCast] at hs9); (try simp only [Nat.zero_add] at hs9); (try simp only [Nat.mul_one] at hs9)
   refine O.nil ⟨(Ext.bare (Ext.nt (Ext.nt (Ext.nt (Ext.refl (fun _ => True) _) e7) e8) e9)), D.dn (hK3 _ _ (CD.ret (leaves1 (by simp) call194 (caught_idle _ _) ?_)))⟩
   rintro _ rfl
   refine ⟨_, res_ctc (s := 3) rfl (getD_Fr _ _ 2) (getD_Fr _ _ 3) (getD_Fr _ _ 4) isAgg47 Z47 (hs8.keepO e9) rfl isAgg28 hs9, ?_⟩
   exact ⟨slv p1, slv p2, slv p3, cv10, knv10, 0, rfl, ((((((hxv10.keep e5).keepA e6).keep e7).keepA e8).keepA e9)).weakA, ((((((hyv10.keep e5).keepA e6).keep e7).keepA e8).keepA e9)).weakA, ((((((hzv10.keep e5).keepA e6).keep e7).keepA e8).keepA e9)).weakA, hgv10, .inl ⟨rfl, hcv10, hsv10⟩, (Ext.nr (Ext.nr (Ext.trans (Ext.nr (Ext.trans (Ext.nr (Ext.trans (Ext.trans e1 e2) e3) e4) e5) e6) e7) e8) e9)⟩
  refine D.stepU rfl rfl (O.call call132 (args1 rfl) (rdAt_spec brv8 vrv8 l knv10 _ _ (((hov10.keep e5).keepO e6).keep e7) ((((hlv8.keepM e4 (by intro k hk h; (try dsimp only at hk); (try dsimp only at h); omega)).keep e5).keepM e6 (by intro k hk h; (try dsimp only at hk); (try dsimp only at h); omega)).keep e7) (hsv10.2.2) (fun j hj => by have hj1 := hj.1; have hj2 := hj.2; exact ⟨by omega, by omega⟩)) ?_)
  rintro v_13 w10 ⟨rfl, hw_⟩
  replace hw_ := hw_.symm
  subst hw_
  refine O.nil ⟨(Ext.bare (Ext.nt (Ext.refl (fun _ => True) _) e7)), D.on 0 rfl rfl (O.loadOA isAgg47 Z47 rfl (hs6.keep e7) (leB rfl) (O.nil ⟨(Ext.bare (Ext.nt (Ext.refl (fun _ => True) _) e7)), D.on 3 rfl rfl (O.storeA (vs := [slv p1, slv p2, slv p3]) Z47 rfl rfl rfl (by simp [slv, Value.oneCell']) ((((((h2.keep e2).keep e3).keepO e4).keep e5).keepO e6).keep e7) (leB rfl) (fun w10 hs10 e10 z10 => O.nil ⟨(Ext.bare (Ext.nt (Ext.nt (Ext.refl (fun _ => True) _) e7) e10)), D.as 4 rfl (Ext.bare (Ext.nt (Ext.nt (Ext.refl (fun _ => True) _) e7) e10)) (D.on 5 rfl rfl ?_)⟩))⟩))⟩
  refine O.store sizeOf28 rfl rfl rfl ((((((h4.keep e3).keepO e4).keep e5).keepO e6).keep e7).keepO e10) (by decide) (fun w11 hs11 e11 z11 => ?_)
  (try simp only [Int.toNat_natCast] at hs11); (try simp only [Nat.zero_add] at hs11); (try simp only [Nat.mul_one] at hs11)
  refine O.nil ⟨(Ext.bare (Ext.nt (Ext.nt (Ext.nt (Ext.refl (fun _ => True) _) e7) e10) e11)), D.dn (hK3 _ _ (CD.ret (leaves1 (by simp) call194 (caught_idle _ _) ?_)))⟩
  rintro _ rfl
  refine ⟨_, res_ctc (s := 3) rfl (getD_Fr _ _ 2) (getD_Fr _ _ 3) (getD_Fr _ _ 4) isAgg47 Z47 (hs10.keepO e11) rfl isAgg28 hs11, ?_⟩
  exact ⟨slv p1, slv p2, slv p3, cv10, knv10, 0, rfl, ((((((hxv10.keep e5).keepA e6).keep e7).keepA e10).keepA e11)).weakA, ((((((hyv10.keep e5).keepA e6).keep e7).keepA e10).keepA e11)).weakA, ((((((hzv10.keep e5).keepA e6).keep e7).keepA e10).keepA e11)).weakA, hgv10, .inl ⟨rfl, hcv10, hsv10⟩, (Ext.nr (Ext.nr (Ext.trans (Ext.nr (Ext.trans (Ext.nr (Ext.trans (Ext.trans e1 e2) e3) e4) e5) e6) e7) e10) e11)⟩
 rintro a ch wz hh ⟨rfl, hno, ez⟩
 refine leaves1 (by simp) call194 (caught_wrong b4 0 wz ((h4).keep ez)) ?_
 rintro w9 ⟨ho9, e9⟩
 have h2l := (((h2.keep e2)).keep ez).lt
 refine ⟨_, res_ctc (s := 3) rfl (hh 2 (by decide)) (hh 3 (by decide)) (hh 4 (by decide)) isAgg47 Z47 ((((h2.keep e2)).keep ez).keepO e9) rfl isAgg28 ho9, ?_⟩
 exact ⟨_, _, _, Cn.nil0, 0, 12, rfl, Fre.nil _ _ _ _, Fre.nil _ _ _ _, SlI.nil _ _ _ _, Cn.big_nil0, .inr ⟨rfl, rfl, rfl, hno⟩, Ext.new (Ext.trans (Ext.trans e1 e2) ez) e9 (by intro i hi h; (try dsimp only at h); omega)⟩
theorem inf50 : ∃ ie, prog.info? 50 = some ie ∧ ie.size = 4 ∧ ie.bytes = 88 ∧ ie.zero = some (.agg #[.string ⟨#[]⟩, .slice none 0 0, .slice none 0 0, .slice none 0 0]) := by
 have h : (prog.info? 50).isSome = true := by kernel_rfl
 exact ⟨(prog.info? 50).get h, (Option.some_get h).symm, by kernel_rfl, by kernel_rfl, by kernel_rfl⟩
theorem rdTake_spec (b : Nat) (vr : Value) (l : List UInt8) (k : Nat) (F : Nat → Prop) (n : Nat) (w : World) (ho : Own w b 234 [.bool true, vr, .int .i64 ((k : Int))]) (hl : Sl byteE w F vr l) (hk : k ≤ l.length) (hF : ∀ j, F j → j ≠ b ∧ j < w.heap.size) (hL : l.length ≤ 1000000) (hn : n ≤ 1000000) :
 Ret prog 133 #[.pointer (some ⟨b, 0, none⟩), .int .i64 ((n : Int))] w (fun v w' => ∃ (vb : Value) (e : Int) (k' : Nat), v = .tuple #[vb, .int .i64 e] ∧ Own w' b 234 [.bool true, vr, .int .i64 ((k' : Int))] ∧ ((e = 0 ∧ n ≤ l.length - k ∧ k' = k + n) ∨ (e = 4 ∧ l.length - k < n ∧ k' = k)) ∧ Ext (fun j => j = b) w w') := by
 have _hF9 := hF
 have _hk9 := hk
 have hbl := ho.lt
 have hll := hl.le
 refine enT [.pointer (some ⟨b, 0, none⟩), .int .i64 ((n : Int))] 18 func133 rfl rfl (C.sr fun K1 => O.asg (O.asg (K1 (C.sq fun K2 => C.bl fun K3 => C.sr fun K4 => O.mv (O.call call188 (args1 rfl) (zero_spec b vr l _ F _ ho hl (by omega) (fun j hj => by have q1 := hF j hj; omega)) ?_)))))
 rintro v_8 w1 ⟨rfl, hw_⟩
 replace hw_ := hw_.symm
 subst hw_
 refine O.asg (K4 (C.condF rfl (C.sr fun K5 => O.mv (O.lssI rfl rfl (O.cast (v' := .bool false) (congrArg Value.bool (by exact decide_eq_false (by omega))) (O.asg (K5 (C.condF rfl (C.skip (K3 (K2 (C.sr fun K6 => O.mv (O.mv (O.convIU (m' := 64) U3 U110 rfl rfl rfl (O.call call193 (args2 rfl rfl) (rtake_spec b vr l k F (BitVec.ofInt 64 (n : Int)) _ ho hl hk (fun j hj => by have q1 := hF j hj; omega) hL) ?_)))))))))))))))
 rintro v_15 w1 ⟨vbv15, sv15, env15, knv15, rfl, hov15, hbv15, hcv15, e1⟩
 have z1 := e1.size
 refine O.extract rfl rfl (O.extract rfl rfl (O.asg (O.asg (K6 (C.ret (Outs.two rfl rfl rfl ?_))))))
 have hnn : (BitVec.ofInt 64 (n : Int)).toNat = n := by rw [BitVec.toNat_ofInt]; omega
 rw [hnn] at hcv15
 exact ⟨_, _, _, rfl, hov15, hcv15.imp (fun q => ⟨q.1, q.2.1, q.2.2.1⟩) id, (Ext.nw (Ext.refl _ _) e1)⟩
theorem entries_spec (v0 : Value) (p : List UInt8) (F : Nat → Prop) (w : World) (hl : Sl byteE w F v0 p) (hL : p.length ≤ 1000000) (hF : ∀ j, F j → j < w.heap.size) (mx : Mx w) :
 Ret prog 85 #[v0] w (fun v w' => ∃ (u : Value) (es : List EntT) (ok : Bool), v = .tuple #[u, .bool ok] ∧ SlE 50 112 117 114 w' w.heap.size w'.heap.size u es ∧ Bt.Big es ∧ Bt.EntRes p es ok ∧ Le w w') := by
 have hgl := mx.lt
 have hll := hl.le
 have _hF9 := hF
 obtain ⟨ie50, ti50, ts50, tb50, tz50⟩ := inf50
 refine enT [v0] 61 func85 rfl rfl (C.sr fun K1 => O.asg (O.asg (K1 (C.sr fun K2 => O.mv (O.call call128 (args1 rfl) (rdNew_spec _ p _ _ hl hL) ?_)))))
 rintro v_13 w1 ⟨brv13, vrv13, rfl, hov13, hlv13, hbv13, hb2v13, e1⟩
 have z1 := e1.size
 refine O.asg (K2 (C.sr fun K3 => O.mv (O.call call129 (args2 rfl rfl) (rdNum_spec brv13 vrv13 p 0 _ 1024#64 _ hov13 hlv13 (Nat.zero_le _) (fun j hj => by have hj1 := hj.1; have hj2 := hj.2; exact ⟨by omega, by omega⟩) hL) ?_)))
 rintro v_16 w2 ⟨nv16, env16, knv16, rfl, hov16, hcv16, e2⟩
 have z2 := e2.size
 refine O.mv (O.extract rfl rfl (O.extract rfl rfl (O.asg (O.asg (K3 (C.sq fun K4 => C.sr fun K5 => O.mv (O.neqI rfl rfl (K5 (C.condD rfl (fun c20 => ?_) (fun c20 => ?_))))))))))
 ·
  have hno : Bt.EntRes p [] false := by
   rcases hcv16 with ⟨q, _⟩ | ⟨_, _, _, q⟩
   ·exact absurd q c20
   ·exact Bt.res_num q
  refine C.sr fun K6 => O.asg (O.asg (K6 (C.ret (Outs.two rfl rfl rfl ?_))))
  exact ⟨_, [], false, rfl, SlE.nil _ _ _ _ _ (by omega), (fun x hx => by cases hx), hno, (Ext.nr e1 e2)⟩
 have sp1_ : nv16.toNat ≤ 1024 ∧ Cn.SegN nv16 p 0 knv16 := by
  rcases hcv16 with ⟨_, q, q2⟩ | ⟨q, _⟩
  ·exact ⟨q, q2⟩
  ·exfalso; omega
 obtain ⟨hn16, hs16⟩ := sp1_
 have sp2_ : ∃ n, n = w2.heap.size := ⟨_, rfl⟩
 obtain ⟨n9, hn9⟩ := sp2_
 have hog0 : OG entF 50 w2 (.slice none 0 0) 0 [] := OG.nil (by omega)
 have hen0 : EntsD 112 117 114 w2 (fun j => j ≠ 0) n9 n9 [] [] := EntsD.nil (Nat.le_refl _)
 refine C.skip (K4 (C.sr fun K7 => O.asg (K7 (C.sq fun K8 => C.sr fun K9 => O.mv (O.mv (K9 (C.bl fun K10 => ?_)))))))
 refine C.loop0 (σ := Value × Nat × List EntR × List EntT × Nat × Nat) (fun f0 w0 ⟨o, gl, raw, es, kc, hz⟩ f wz => f 7 = o ∧ f 22 = .int .u64 ((BitVec.ofNat 64 es.length).toNat : Int) ∧ f 0 = f0 0 ∧ f 4 = f0 4 ∧ f 21 = f0 21 ∧ Le w wz ∧ Own wz brv13 234 [.bool true, vrv13, .int .i64 ((kc : Int))] ∧ Sl byteE wz (fun j => w.heap.size ≤ j ∧ j < brv13) vrv13 p ∧ OG entF 50 wz o gl raw ∧ EntsD 112 117 114 wz (fun j => j ≠ gl) n9 hz raw es ∧ (∀ j, bk o j → n9 ≤ j) ∧ (gl = 0 ∨ n9 ≤ gl) ∧ (n9 ≤ hz ∧ hz ≤ wz.heap.size ∧ n9 ≤ wz.heap.size) ∧ es.length ≤ nv16.toNat ∧ kc ≤ p.length ∧ Bt.Big es ∧ Cn.manyQ Bt.okQ es ∧ Cn.Seg (es.flatMap Bt.entB) p knv16 kc) (fun ⟨o, gl, raw, es, kc, hz⟩ => nv16.toNat - es.length) (.slice none 0 0, 0, [], [], knv16, n9) ?_ ?_
 ·
  refine ⟨rfl, rfl, rfl, rfl, rfl, (Ext.nr e1 e2), hov16, (hlv13.keepA e2), hog0, hen0, ?_⟩
  exact ⟨fun _ h => h.elim, .inl rfl, by omega, Nat.zero_le _, hs16.2.2, (fun x hx => by cases hx), Cn.manyQ_nil, Cn.Seg.nil hs16.2.2⟩
 rintro ⟨o, gl, raw, es, kc, hz⟩ f_1 w3 ⟨s7_1, s22_1, s0_1, s4_1, s21_1, e_1, r0_1, r1_1, r2_1, r3_1, ⟨hob, hgl2, hhz, hjn, hkc, hBs, hQ, hS⟩⟩
 have z_1 := e_1.size
 have hen := r3_1
 have hrl := hen.1
 have hgl := (r2_1).2.2
 have hogu := (r2_1).2.1
 have sp3_ : ∃ n, n = w3.heap.size := ⟨_, rfl⟩
 obtain ⟨w0_, hw0_⟩ := sp3_
 refine C.sr fun K11 => O.lssU (m := 64) s22_1 s21_1 (K11 (C.sq fun K12 => C.condD rfl (fun c23 => ?_) (fun c23 => ?_)))
 ·
  have hj2 : es.length < nv16.toNat := (Bt.lt_of_ofNat (by omega)).1 c23
  refine C.skip (K12 (C.sq fun K13 => C.bl fun K14 => C.sr fun K15 => O.mv (O.call call130 (args2 s4_1 rfl) (rdStr_spec brv13 vrv13 p kc _ 64 _ r0_1 r1_1 hkc (fun j hj => by have hj1 := hj.1; have hj2 := hj.2; exact ⟨by omega, by omega⟩) hL (by unfold InI; omega)) ?_)))
  rintro v_26 w4 ⟨nv26, env26, knv26, rfl, hov26, hcv26, e4⟩
  have z4 := e4.size
  refine O.mv (O.extract rfl rfl (O.extract rfl rfl (O.asg (O.asg (K15 (C.sq fun K16 => C.sr fun K17 => O.mv (O.neqI rfl rfl (K17 (C.condD rfl (fun c30 => ?_) (fun c30 => ?_))))))))))
  ·
   have hno : Bt.EntRes p [] false := by
    rcases hcv26 with ⟨q, _⟩ | ⟨_, _, q⟩
    ·exact absurd q c30
    ·exact Bt.res_ent hs16 hS hQ hj2 (Bt.no_okQ1 q)
   refine C.sr fun K18 => O.asg (O.asg (K18 (C.ret (Outs.two rfl rfl rfl ?_))))
   exact ⟨_, [], false, rfl, SlE.nil _ _ _ _ _ (by omega), (fun x hx => by cases hx), hno, (Ext.nr e_1 e4)⟩
  have sp4_ : (nv26.length : Int) ≤ 64 ∧ Cn.Seg (Cn.strB nv26) p kc knv26 := by
   rcases hcv26 with ⟨_, q, q2⟩ | ⟨q, _⟩
   ·exact ⟨q, q2⟩
   ·exfalso; omega
  obtain ⟨hq26, hs26⟩ := sp4_
  have hk26 : knv26 ≤ p.length := hs26.2.2
  refine C.skip (K16 (C.sr fun K19 => O.mv (O.mv (O.call call132 (args1 s4_1) (rdAt_spec brv13 vrv13 p knv26 _ _ hov26 (r1_1.keepA e4) hk26 (fun j hj => by have hj1 := hj.1; have hj2 := hj.2; exact ⟨by omega, by omega⟩)) ?_))))
  rintro v_34 w5 ⟨rfl, hw_⟩
  replace hw_ := hw_.symm
  subst hw_
  have hb35 := Sl.sub (P := prog) (knv26) (p.length) U30 Z5 (by rfl) ((hl.keep e_1).keepA e4) hk26 (Nat.le_refl _)
  obtain ⟨v35, hs35, hr35⟩ := hb35
  refine O.subR s0_1 hr35 (.inr ⟨_, _, rfl, rfl⟩) (.inl ⟨rfl, rfl⟩) ?_
  rw [List.take_length] at hs35
  refine O.call call131 (args1 rfl) (prefix_spec _ (p.drop knv26) _ _ hs35 (by rw [List.length_drop]; omega) (fun j hj => by have q1 := hF j hj; omega) ((mx.keep e_1).keepO e4)) ?_
  rintro v_36 w5 ⟨vav36, vbv36, vcv36, cv36, knv36, env36, rfl, hxv36, hyv36, hzv36, hgv36, hpv36, e5⟩
  have z5 := e5.size
  have sp5_ := hxv36.slv
  obtain ⟨p1, sp5_⟩ := sp5_
  subst sp5_
  have sp6_ := hyv36.slv
  obtain ⟨p2, sp6_⟩ := sp6_
  subst sp6_
  have sp7_ := hzv36.sl.slv
  obtain ⟨p3, sp7_⟩ := sp7_
  subst sp7_
  have sp8_ : ∃ n, n = w5.heap.size := ⟨_, rfl⟩
  obtain ⟨wa, hwa⟩ := sp8_
  have hca36 : CartF 112 117 114 w5 (fun j => w0_ ≤ j ∧ j < wa) ((p1, p2), p3) cv36 := ⟨hxv36.weakA, hyv36.weakA, hzv36.weakA⟩
  refine O.mv (O.extract rfl rfl (O.extract rfl rfl (O.extract rfl rfl (O.alloc zeroValue47 (fun b10 w6 hb10 hz10 e6 => ?_)))))
  have z6 := e6.size
  have h10 := hz10.own
  have hl10 := h10.lt
  refine O.storeA (vs := [slv p1, slv p2, slv p3]) Z47 rfl rfl rfl (by intro u hu; simp only [List.mem_cons, List.not_mem_nil, or_false] at hu; rcases hu with rfl | rfl | rfl <;> rfl) h10 (leB rfl) (fun w7 hs7 e7 z7 => O.asg (O.asg (K19 (C.sq fun K20 => C.sr fun K21 => O.mv (O.neqI rfl rfl (K21 (C.condD rfl (fun c41 => ?_) (fun c41 => ?_))))))))
  ·
   have hno : Bt.EntRes p [] false := by
    rcases hpv36 with ⟨q, _⟩ | ⟨_, _, _, q⟩
    ·exact absurd q c41
    ·exact Bt.res_ent hs16 hS hQ hj2 (Bt.no_okQ2 hs26 hq26 (Bt.no_drop q))
   refine C.sr fun K22 => O.asg (O.asg (K22 (C.ret (Outs.two rfl rfl rfl ?_))))
   exact ⟨_, [], false, rfl, SlE.nil _ _ _ _ _ (by omega), (fun x hx => by cases hx), hno, (Ext.nr (Ext.trans (Ext.trans (Ext.nr e_1 e4) e5) e6) e7)⟩
  have sp9_ : Cn.valid cv36 = true ∧ Cn.Seg (Cn.bytes cv36) p knv26 (knv26 + knv36) := by
   rcases hpv36 with ⟨_, q, q2⟩ | ⟨q, _⟩
   ·exact ⟨q, Bt.seg_drop q2 hk26⟩
   ·exfalso; omega
  obtain ⟨hv36, hs36⟩ := sp9_
  have hk36b := hs36.2.2
  have hk36 : knv36 ≤ 1000000 := by omega
  refine C.skip (K20 (C.sq fun K23 => C.sr fun K24 => O.mv (O.mv ?_)))
  have t0 := ((r1_1.keepA e4).keep e5).keep e6
  refine O.call call133 (args2 s4_1 rfl) (rdTake_spec brv13 vrv13 p knv26 _ knv36 _ (((hov26.keep e5).keep e6).keepO e7) (t0.keepA e7) hk26 (fun j hj => by have hj1 := hj.1; have hj2 := hj.2; exact ⟨by omega, by omega⟩) hL hk36) ?_
  rintro v_45 w8 ⟨vbv45, env45, knv45, rfl, hov45, hcv45, e8⟩
  have z8 := e8.size
  refine O.mv (O.extract rfl rfl (O.extract rfl rfl (O.asg (K24 (C.sr fun K25 => O.mv (O.neqI rfl rfl (K25 (C.condD rfl (fun c49 => ?_) (fun c49 => ?_)))))))))
  ·
   exfalso
   rcases hcv45 with ⟨q, _⟩ | ⟨_, q, _⟩
   ·exact c49 q
   ·omega
  have hkn : knv45 = knv26 + knv36 := by
   rcases hcv45 with ⟨_, _, q⟩ | ⟨q, _⟩
   ·exact q
   ·exfalso; omega
  refine C.skip (K23 (C.region (O.mv (O.mv (O.loadOA isAgg47 Z47 rfl (hs7.keepO e8) (leB rfl) (O.build (cells := #[str nv26, slv p1, slv p2, slv p3]) rfl (by kernel_rfl) (O.litG (G := entF) [(nv26, (p1, p2), p3)] U22 ti50 ts50 tz50 rfl (by decide) (by decide) rfl (fun b54 w9 hb54 hz54 e9 => ?_))))))))
  have z9 := e9.size
  have h54 := hz54.own
  have hq54 := Sl.litG (n := 1) h54 rfl (by unfold maxLen; omega)
  have t1 := ((r2_1.keepA e4).keep e5).keep e6
  have t2 := ((t1.keepA e7).keepA e8).keep e9
  refine O.appG (G := entF) U22 ti50 tz50 ts50 rfl s7_1 rfl t2 hq54 (by rw [tb50]; simp; omega) (by unfold maxLen; simp; omega) (fun v55 gg55 w10 h55 hg55 e10 hw55 => ?_)
  have e10m := e10.mono (M' := fun k => k = _) (fun k _ hk => t2.2.1 k hk)
  have z10 := e10.size
  have hgl55 := h55.2.2
  have hgg := h55.2.2
  have hob55 : ∀ k, bk v55 k → n9 ≤ k := fun k hk => by
   rcases hw55 k hk with q | q
   ·exact hob k q
   ·omega
  have hg55 : n9 ≤ gg55 := hob55 _ (h55.bk (by simp))
  have hgg55 := (hw55 _ (h55.bk (by simp))).imp (hogu _) id
  refine O.asg (O.nil (K14 (K13 (C.region (O.addU (m := 64) (b := 1#64) rfl rfl s22_1 rfl (O.mv (O.nil ?_)))))))
  refine ⟨(_, _, _, es ++ [(nv26, cv36)], _, _), ⟨rfl, (Eq.trans rfl (congrArg (fun q : BitVec 64 => Value.int .u64 (q.toNat : Int)) (by rw [Bt.ofNat_succ, List.length_append]; rfl))), s0_1, s4_1, s21_1, (Ext.new (Ext.trans (Ext.nr (Ext.nr (Ext.trans (Ext.trans (Ext.nr e_1 e4) e5) e6) e7) e8) e9) e10 (by intro i hi h; have := hob i h; omega)), ((hov45.keep e9).keepM e10 (fun h => by have := hob _ h; have := hogu _ h; omega)), ((((t0.keepA e7).keepA e8).keep e9).keepM e10 (by intro j hj h; have q2 := hob j h; have q3 := hogu j h; first | (have q1 := hF j hj; omega) | ((try dsimp only at hj); omega))), h55, ((((((((((r3_1.keepM e4 (by intro k hG h1 h2 h; (try dsimp only at h); omega)).keep e5).keep e6).keepA e7).keepM e8 (by intro k hG h1 h2 h; (try dsimp only at h); omega)).keep e9).keepM e10 (by intro k hG h1 h2 h; exact hG (hogu k h)))).weak (fun j h1 h2 h3 => by (try dsimp only); omega)).snoc (x := (nv26, cv36)) (hi' := wa) (by omega) rfl (((((((hca36.keep e6).keepA e7).keepA e8).keep e9).keepM e10 (by intro j hj h; have q2 := hob j h; have q3 := hogu j h; first | (have q1 := hF j hj; omega) | ((try dsimp only at hj); omega)))).weakA)), ?_⟩, by show nv16.toNat - (es ++ [_]).length < nv16.toNat - es.length; rw [List.length_append]; show nv16.toNat - (es.length + 1) < _; omega⟩
  exact ⟨hob55, .inr hg55, by omega, by rw [List.length_append]; exact hj2, by omega, Bt.Big.snoc hBs ⟨by show nv26.length ≤ 1000000; omega, hgv36⟩, Cn.manyQ_snoc hQ ⟨hq26, hv36⟩, by rw [hkn]; exact hS.snoc (Bt.seg_ent hs26 hs36)⟩
 have hj3 : es.length = nv16.toNat := by have q := mt (Bt.lt_of_ofNat (j := es.length) (by omega)).2 c23; omega
 refine C.exit (K10 (K8 (C.sr fun K26 => O.mv (O.mv (O.call call134 (args1 s4_1) (rdLeft_spec brv13 vrv13 p kc _ _ r0_1 r1_1 hkc (fun j hj => by have hj1 := hj.1; have hj2 := hj.2; exact ⟨by omega, by omega⟩)) ?_)))))
 rintro v_59 w11 ⟨rfl, e11⟩
 have z11 := e11.size
 refine O.eqlI rfl rfl (O.asg (O.asg (K26 (C.ret (Outs.two rfl s7_1 rfl ?_)))))
 first
 | exact ⟨_, [], false, rfl, SlE.nil _ _ _ _ _ (by omega), (fun x hx => by cases hx), hno, (Ext.trans e_1 e11)⟩
 | (refine ⟨o, es, _, rfl, ⟨raw, ((r2_1.keep e11)).1.fre (fun j hj => ?_), (((r3_1.keep e11)).weak (fun k _ _ hG hb => hG (hogu k hb))).wide (by omega) (by omega)⟩, hBs, Bt.res_end hs16 hS hQ hj3 hn16, (Ext.trans e_1 e11)⟩
    have := hob j hj
    have := hogu j hj
    (try dsimp only)
    omega)
theorem bdecode_spec (v0 : Value) (p : List UInt8) (F : Nat → Prop) (w : World) (hl : Sl byteE w F v0 p) (hL : p.length ≤ 1000000) (hF : ∀ j, F j → j < w.heap.size) (mx : Mx w) :
 Ret prog 37 #[v0] w (fun v w' => ∃ (u : Value) (es : List EntT) (e : Int), v = .tuple #[u, .int .i64 e] ∧ SlE 50 112 117 114 w' w.heap.size w'.heap.size u es ∧ Bt.Big es ∧ Bt.DecRes p es e ∧ Le w w') := by
 have hgl := mx.lt
 have hll := hl.le
 have _hF9 := hF
 refine enT [v0] 55 func37 rfl rfl (C.sr fun K1 => O.asg (O.asg (K1 (C.sr fun K2 => O.mv (O.len U30 rfl hl (O.subI rfl rfl (by unfold InI; omega) (O.asg (K2 (C.sq fun K3 => C.sr fun K4 => O.mv (O.lssI rfl rfl (O.mv (O.splitD (x := .tmp 15) rfl (fun c15 => ?_) (fun c15 => ?_)))))))))))))
 ·
  have hno : Bt.DecRes p [] 12 := Bt.dec_short (by omega)
  refine O.no rfl (noB (isT rfl c15) rfl) (O.no rfl (noB (isT rfl c15) rfl) (O.no rfl (noB (isT rfl c15) rfl) (O.pickT (isT rfl c15) (K4 (C.condT rfl (C.sr fun K5 => O.asg (O.asg (K5 (C.ret (Outs.two rfl rfl rfl ?_))))))))))
  exact ⟨_, [], 12, rfl, SlE.nil _ _ _ _ _ (by omega), (fun x hx => by cases hx), hno, (Le.refl _)⟩
 have hn4 : 4 ≤ p.length := by omega
 have sp1_ : ∃ q, q = p.drop (p.length - 4) := ⟨_, rfl⟩
 obtain ⟨q, hq⟩ := sp1_
 have hq4 : q.length = 4 := by rw [hq, List.length_drop]; omega
 refine O.yes rfl (isF rfl c15) (O.mv (O.yes rfl (isF rfl c15) (O.len U30 rfl hl (O.yes rfl (isF rfl c15) (O.gtrI rfl rfl (O.cast (v' := .bool false) (congrArg Value.bool (by exact decide_eq_false (by omega))) (O.pickF (isF rfl c15) (K4 (C.condF rfl (C.skip (K3 (C.sr fun K6 => O.asg (K6 (C.sq fun K7 => C.sr fun K8 => O.mv (O.mv ?_)))))))))))))))
 have hb22 := Sl.sub (P := prog) ((p.length - 4)) (p.length) U30 Z5 (by rfl) hl (by omega) (Nat.le_refl _)
 obtain ⟨v22, hs22, hr22⟩ := hb22
 refine O.subR rfl hr22 (.inr ⟨_, _, rfl, (Eq.trans rfl (i64_eq (show (p.length : Int) - 4 = ((p.length - 4 : Nat) : Int) by omega)))⟩) (.inl ⟨rfl, rfl⟩) ?_
 rw [List.take_length, ← hq] at hs22
 refine O.len U30 rfl hs22 (O.mv (K8 (C.bl fun K9 => C.loop0 (σ := Nat) (fun f0 w0 k f w => f 24 = .int .i64 ((k : Int)) ∧ f 5 = .int .u32 ((Bt.sumU (q.take k)).toNat : Int) ∧ f 0 = f0 0 ∧ f 2 = f0 2 ∧ f 3 = f0 3 ∧ f 4 = f0 4 ∧ f 22 = f0 22 ∧ f 23 = f0 23 ∧ Le w0 w ∧ k ≤ q.length) (fun k => q.length - k) 0 ?_ ?_)))
 ·
  refine ⟨rfl, rfl, rfl, rfl, rfl, rfl, rfl, rfl, Le.refl _, ?_⟩
  exact Nat.zero_le _
 rintro k f_1 w1 ⟨s24_1, s5_1, s0_1, s2_1, s3_1, s4_1, s22_1, s23_1, e_1, hk⟩
 have z_1 := e_1.size
 refine C.sr fun K10 => O.lssI s24_1 s23_1 (K10 (C.sq fun K11 => C.condD rfl (fun c25 => ?_) (fun c25 => ?_)))
 ·
  have hk2 : k < q.length := by omega
  refine C.skip (K11 (C.sq fun K12 => C.bl fun K13 => C.sr fun K14 => O.idx U30 Z5 rfl s22_1 (hs22.keep e_1) s24_1 (by omega) (fun a26 h26 => O.loadB isAgg5 rfl h26 ?_)))
  have sp2_ : ∃ y : UInt8, y = q[k] := ⟨_, rfl⟩
  obtain ⟨y, hy⟩ := sp2_
  refine O.cast (v' := .int .u8 (y.toBitVec.toNat : Int)) (by rw [hy]; rfl) (O.asg (K14 (C.region (O.mv (O.shlU (m := 32) (c := 8) rfl rfl s5_1 rfl (O.mv (O.convUU (m := 8) (m' := 32) U5 U34 rfl rfl rfl (O.orU (m := 32) rfl rfl rfl rfl (O.asg (O.nil (K13 (K12 (C.region (O.addI s24_1 rfl (by unfold InI; omega) (O.mv (O.nil (⟨(k + 1), ⟨rfl, (Eq.trans rfl (congrArg (fun q : BitVec 32 => Value.int .u32 (q.toNat : Int)) (by rw [List.take_succ_eq_append_getElem hk2, Bt.sumU_snoc, ← hy]))), s0_1, s2_1, s3_1, s4_1, s22_1, s23_1, e_1, ?_⟩, by first | omega | (simp only []; omega)⟩)))))))))))))))))
  omega
 have hk3 : q.take k = q := List.take_of_length_le (by omega)
 refine C.exit (K9 (K7 (C.sq fun K15 => C.sr fun K16 => O.mv (O.mv (O.mv ?_)))))
 have hb37 := Sl.sub (P := prog) (0) ((p.length - 4)) U30 Z5 (by rfl) (hl.keep e_1) (Nat.zero_le _) (by omega)
 obtain ⟨v37, hs37, hr37⟩ := hb37
 refine O.subR s0_1 hr37 (.inl ⟨rfl, rfl⟩) (.inr ⟨_, _, rfl, (Eq.trans s4_1 (i64_eq (show (p.length : Int) - 4 = ((p.length - 4 : Nat) : Int) by omega)))⟩) ?_
 rw [List.drop_zero] at hs37
 refine O.call call25 (args1 rfl) (csum_spec _ _ _ _ hs37) ?_
 rintro v_38 w2 ⟨rfl, e2⟩
 have z2 := e2.size
 refine O.neqU (m := 32) s5_1 rfl (K16 (C.condD rfl (fun c39 => ?_) (fun c39 => ?_)))
 ·
  rw [hk3, hq] at c39
  have hno : Bt.DecRes p [] 12 := Bt.dec_ne hn4 c39
  refine C.sr fun K17 => O.asg (O.asg (K17 (C.ret (Outs.two rfl rfl rfl ?_))))
  exact ⟨_, [], 12, rfl, SlE.nil _ _ _ _ _ (by omega), (fun x hx => by cases hx), hno, (Ext.trans e_1 e2)⟩
 rw [hk3, hq] at c39
 have hp9 : p = Bt.end4 (p.take (p.length - 4)) := (Bt.sum_iff hn4).1 (Decidable.of_not_not c39)
 refine C.skip (K15 (C.sr fun K18 => O.mv (O.mv ?_)))
 have hb43 := Sl.sub (P := prog) (0) ((p.length - 4)) U30 Z5 (by rfl) ((hl.keep e_1).keep e2) (Nat.zero_le _) (by omega)
 obtain ⟨v43, hs43, hr43⟩ := hb43
 refine O.subR s0_1 hr43 (.inl ⟨rfl, rfl⟩) (.inr ⟨_, _, rfl, (Eq.trans s4_1 (i64_eq (show (p.length : Int) - 4 = ((p.length - 4 : Nat) : Int) by omega)))⟩) ?_
 rw [List.drop_zero] at hs43
 refine O.call call85 (args1 rfl) (entries_spec _ (p.take (p.length - 4)) F _ hs43 (by rw [List.length_take]; omega) (fun j hj => by have q1 := hF j hj; omega) ((mx.keep e_1).keep e2)) ?_
 rintro v_44 w3 ⟨uv44, esv44, okv44, rfl, hv44, hBv44, hRv44, e3⟩
 have z3 := e3.size
 have sp3_ := hv44.raws
 obtain ⟨raw44, hra44, hea44⟩ := sp3_
 refine O.mv (O.extract rfl rfl (O.extract rfl rfl (O.asg (O.asg (K18 (C.sq fun K19 => C.sr fun K20 => O.mv (O.not rfl (O.mv (O.split (x := .tmp 49) rfl (fun c49 => ?_) (fun c49 => ?_))))))))))
 ·
  have hno : Bt.DecRes p [] 12 := Bt.dec_fin1 hp9 hRv44 (by rw [show okv44 = false by simpa using c49]; rfl)
  refine O.no rfl (noB (isT' rfl c49) rfl) (O.no rfl (noB (isT' rfl c49) rfl) (O.no rfl (noB (isT' rfl c49) rfl) (O.pickT (isT' rfl c49) (K20 (C.condT rfl (C.sr fun K21 => O.asg (O.asg (K21 (C.ret (Outs.two rfl rfl rfl ?_))))))))))
  exact ⟨_, [], 12, rfl, SlE.nil _ _ _ _ _ (by omega), (fun x hx => by cases hx), hno, (Ext.trans (Ext.trans e_1 e2) e3)⟩
 refine O.yes rfl (isF' rfl c49) (O.mv (O.yes rfl (isF' rfl c49) (O.call call18 (args1 rfl) (bvalid_spec uv44 raw44 esv44 _ _ hra44 hea44 (fun j hj => by have q := hj.2; omega) hBv44 (((mx.keep e_1).keep e2).keep e3)) ?_)))
 rintro v_51 w4 ⟨rfl, e4⟩
 have z4 := e4.size
 refine O.yes rfl (isF' rfl c49) (O.not rfl (O.pickF (isF' rfl c49) (K20 (C.cond rfl (fun c53 => ?_) (fun c53 => ?_)))))
 ·
  have hno : Bt.DecRes p [] 12 := Bt.dec_fin1 hp9 hRv44 (by rw [show Bt.valid esv44 = false by simpa using c53, Bool.and_false])
  refine C.sr fun K22 => O.asg (O.asg (K22 (C.ret (Outs.two rfl rfl rfl ?_))))
  exact ⟨_, [], 12, rfl, SlE.nil _ _ _ _ _ (by omega), (fun x hx => by cases hx), hno, (Ext.trans (Ext.trans (Ext.trans e_1 e2) e3) e4)⟩
 have hyes : Bt.DecRes p esv44 0 := Bt.dec_fin2 hp9 hRv44 (by rw [show Bt.valid esv44 = true by simpa using c53, show okv44 = true by simpa using c49]; rfl)
 refine C.skip (K19 (C.sr fun K23 => O.mv (O.asg (O.asg (K23 (C.ret (Outs.two rfl rfl rfl ?_)))))))
 first
 | exact ⟨_, [], 12, rfl, SlE.nil _ _ _ _ _ (by omega), (fun x hx => by cases hx), hno, (Ext.trans (Ext.trans (Ext.trans e_1 e2) e3) e4)⟩
 | exact ⟨uv44, esv44, 0, rfl, ((hv44.keep e4)).wide (by omega) (by omega), hBv44, hyes, (Ext.trans (Ext.trans (Ext.trans e_1 e2) e3) e4)⟩
theorem nsize_spec (n : BitVec 64) (w : World) :
 Ret prog 66 #[.int .u64 ((n).toNat : Int)] w (fun v w' => v = .int .i64 ((Cn.num n.toNat).length : Int) ∧ Le w w') := by
 refine enT [.int .u64 ((n).toNat : Int)] 6 func66 rfl rfl (C.sr fun K1 => O.asg (K1 (C.sr fun K2 => O.mv (O.call call106 (args1 rfl) (number_spec n _) ?_))))
 rintro v_4 w1 ⟨e1, h4⟩
 have z1 := e1.size
 have h4s := h4.sl
 refine O.len U30 rfl h4s (O.asg (K2 (C.ret (Outs.one rfl rfl ?_))))
 exact ⟨rfl, e1⟩
theorem bsplit_spec (v0 : Value) (raw : List EntR) (l : List EntT) (F : Nat → Prop) (w : World) (hr : Sl entF.enc w F v0 raw) (he : EntL w F raw l) (hF : ∀ k, F k → k < w.heap.size) (hB : Bt.Big l) (mx : Mx w) (hE : ∀ x ∈ l, (Bt.entB x).length ≤ 8000000) (hn : l.length ≤ 1000000) :
 Ret prog 26 #[v0] w (fun v w' => ∃ (u : Value) (e : Int) (bs : List (List UInt8)), v = .tuple #[u, .int .i64 e] ∧ Sl (sliE byteE) w' (fun j => w.heap.size ≤ j ∧ j < w'.heap.size) u bs ∧ ((Bt.ordered l = true ∧ e = 0 ∧ bs = (Bt.split l).map Bt.enc) ∨ (Bt.ordered l = false ∧ e = 2 ∧ bs = [])) ∧ Le w w') := by
 obtain ⟨ie30, ti30, ts30, tb30, tz30⟩ := inf30
 have hl := he.1
 have hrl := hr.le
 have hgl9 := mx.lt
 refine enT [v0] 104 func26 rfl rfl (C.sr fun K1 => O.asg (O.asg (K1 (C.sq fun K2 => C.sr fun K3 => O.mv (O.call call59 (args1 rfl) (ordered_spec v0 raw l F _ hr he hF hB mx) ?_)))))
 rintro v_17 w1 ⟨rfl, e1⟩
 have z1 := e1.size
 refine O.not rfl (K3 (C.cond rfl (fun c18 => ?_) (fun c18 => ?_)))
 ·
  have hno : Bt.ordered l = false := by simpa using c18
  refine C.sr fun K4 => O.asg (O.asg (K4 (C.ret (Outs.two rfl rfl rfl ?_))))
  exact ⟨_, _, [], rfl, Sl.nil _ _ _, .inr ⟨hno, rfl, rfl⟩, e1⟩
 have hO : Bt.Ord l := Bt.ord_iff.1 (by simpa using c18)
 refine C.skip (K2 (C.sr fun K5 => O.asg (K5 (C.sr fun K6 => O.asg (O.asg (K6 (C.sq fun K7 => C.sr fun K8 => O.mv (O.len U22 rfl (hr.keep e1) ?_))))))))
 have hog0 : OG slF 30 w1 (.slice none 0 0) 0 [] := OG.nil (by omega)
 have hbs0 : SlsL byteE w1 (fun j => w.heap.size ≤ j ∧ j < 0 ∧ j ≠ 0) [] (([] : List (List Bt.Ent)).map Bt.enc) := SlsL.nil
 refine O.mv (K8 (C.bl fun K9 => ?_))
 refine C.loop0 (σ := Nat × Nat × Value × Nat × List Raw × List (List Bt.Ent) × Nat) (fun f0 w0 ⟨k, fr, o, gl, ro, done, hi⟩ f wz => f 21 = .int .i64 ((k : Int)) ∧ f 4 = o ∧ f 5 = .int .i64 ((fr : Int)) ∧ f 6 = .int .i64 (((((l.take k).drop fr).flatMap Bt.entB).length : Int)) ∧ f 0 = f0 0 ∧ f 19 = f0 19 ∧ f 20 = f0 20 ∧ Le w wz ∧ OG slF 30 wz o gl ro ∧ SlsL byteE wz (fun j => w.heap.size ≤ j ∧ j < hi ∧ j ≠ gl) ro (done.map Bt.enc) ∧ (k ≤ l.length ∧ fr ≤ k ∧ (0 < k → fr < k)) ∧ Bt.Done l done ((l.take k).drop fr) (l.drop k) ∧ (∀ j, bk o j → w.heap.size ≤ j) ∧ hi ≤ wz.heap.size ∧ done.length ≤ k) (fun ⟨k, fr, o, gl, ro, done, hi⟩ => l.length - k) (0, 0, .slice none 0 0, 0, [], [], 0) ?_ ?_
 ·
  refine ⟨rfl, rfl, rfl, rfl, rfl, rfl, rfl, e1, hog0, hbs0, ?_⟩
  exact ⟨⟨Nat.zero_le _, Nat.le_refl _, fun h => absurd h (Nat.lt_irrefl _)⟩, Bt.Done.start l, fun _ h => h.elim, by omega, Nat.le_refl _⟩
 rintro ⟨k, fr, o, gl, ro, done, hi⟩ f_1 w2 ⟨s21_1, s4_1, s5_1, s6_1, s0_1, s19_1, s20_1, e_1, r0_1, r1_1, ⟨⟨hk, hfk, hfk2⟩, hD, hob, hhi, hdn⟩⟩
 have z_1 := e_1.size
 have hogl := (r0_1).2.2
 have hogu := (r0_1).2.1
 have hbsl := (r1_1).1
 rw [List.length_map] at hbsl
 have hfb := Cn.flatMap_le (f := Bt.entB) (b := 8000000) (l := (l.take k).drop fr) (fun x hx => hE x (List.take_subset _ _ (List.drop_subset _ _ hx)))
 have hcl : (((l.take k).drop fr)).length = k - fr := Bt.cur_len hk
 refine C.sr fun K10 => O.lssI s21_1 s20_1 (K10 (C.sq fun K11 => C.condD rfl (fun c22 => ?_) (fun c22 => ?_)))
 ·
  have hk2 : k < l.length := by omega
  refine C.skip (K11 (C.sq fun K12 => C.bl fun K13 => C.sr fun K14 => O.mv (O.idx U22 Z50 rfl s19_1 (hr.keep e_1) s21_1 (by omega) (fun a24 h24 => O.loadG (G := entF) isAgg50 Z50 rfl h24 ?_))))
  have hk9r : k < raw.length := by have q9 := ((he.keep e_1)).1; omega
  have hk8r : k < l.length := by have q9 := ((he.keep e_1)).1; omega
  have sp1_ : ∃ q : EntR, q = raw[k] := ⟨_, rfl⟩
  obtain ⟨r, hrr⟩ := sp1_
  have sp2_ : ∃ q : EntT, q = l[k] := ⟨_, rfl⟩
  obtain ⟨x, hxr⟩ := sp2_
  have t0 := ((he.keep e_1)).2 k hk9r hk8r
  have hkxr : r.1 = x.1 := by rw [hrr, hxr]; exact t0.1
  have hca : CartAt w2 F r.2 x.2 := by rw [hrr, hxr]; exact t0.2
  have hmxr : x ∈ l := by rw [hxr]; exact List.getElem_mem _
  have hbr := hB x hmxr
  refine O.cast (v' := .agg #[str r.1, slv r.2.1.1, slv r.2.1.2, slv r.2.2]) (by rw [hrr]; rfl) ?_
  have hvx := Bt.ord_cart hO hmxr
  have hel2 := Bt.entB_len x
  have hex := hE x hmxr
  have hrl1 : r.1.length = x.1.length := by rw [hkxr]
  have hcs := Bt.cur_size hk2 hfk
  have hcs0 := Bt.cur_size0 hk2
  have hfi := Bt.fits_iff hk2 hfk
  rw [← hxr] at hcs hcs0 hfi
  refine O.alloc zeroValue50 (fun b8 w3 hb8 hz8 e3 => ?_)
  have z3 := e3.size
  have h8 := hz8.own
  have hl8 := h8.lt
  refine O.asg (O.storeA (vs := [str r.1, slv r.2.1.1, slv r.2.1.2, slv r.2.2]) Z50 rfl rfl rfl (by intro u hu; simp only [List.mem_cons, List.not_mem_nil, or_false] at hu; rcases hu with rfl | rfl | rfl | rfl <;> rfl) h8 (leB rfl) (fun w4 hs4 e4 z4 => K14 (C.sr fun K15 => O.fa U50 rfl Z47 rfl (O.loadOA isAgg47 Z47 rfl hs4 (leB rfl) ?_))))
  have t1 := Ext.trans e_1 e3
  have t2 := (hca.keep e3).keepA e4
  refine O.call call65 (args1 rfl) (size_spec (slv r.2.1.1) (slv r.2.1.2) (slv r.2.2) x.2 F _ (t2).1 (t2).2.1 (t2).2.2 (fun j hj => by have q1 := hF j hj; omega) hbr.2.2.2.1 hbr.2.2.2.2 hbr.2.1 hbr.2.2.1 (mx.keep (Ext.nr t1 e4))) ?_
  rintro v_29 w5 ⟨rfl, e5⟩
  have z5 := e5.size
  refine O.mv (O.extract rfl rfl (O.cast (v' := .int .i64 ((Cn.bytes x.2).length : Int)) (show Value.int IntKind.i64 (if Cn.valid x.2 = true then ((Cn.bytes x.2).length : Int) else 0) = _ by rw [if_pos hvx]) (O.extract rfl rfl (O.asg (O.asg (K15 (C.sd fun K16 w6 e6 z6 => D.mv 0 rfl (Le.refl _) (D.t 1 rfl (Le.refl _) (fun _ _ _ hN => O.fa U50 rfl Z9 rfl (O.nil hN)) (D.t 2 rfl (Le.refl _) (fun _ hw_ _ hN => O.loadO isAgg9 rfl (((hs4.keep e5).keep e6).keep hw_) rfl (O.nil hN)) (D.tk 3 rfl rfl rfl rfl (Le.refl _) len_form (fun _ hw_ _ hN => O.lenS U9 rfl (O.nil hN)) ?_))))))))))
  refine D.t 4 rfl (Le.refl _) (fun _ _ _ hN => O.convIU (m' := 64) U3 U110 rfl rfl rfl (O.nil hN)) (D.t 6 rfl (Le.refl _) (fun _ _ _ hN => O.fa U50 rfl Z9 rfl (O.nil hN)) (D.t 7 rfl (Le.refl _) (fun _ hw_ _ hN => O.loadO isAgg9 rfl (((hs4.keep e5).keep e6).keep hw_) rfl (O.nil hN)) (D.tk 8 rfl rfl rfl rfl (Le.refl _) len_form (fun _ hw_ _ hN => O.lenS U9 rfl (O.nil hN)) (D.on 5 rfl rfl (O.call call66 (args1 rfl) (nsize_spec _ _) ?_)))))
  rintro v_37 w7 ⟨rfl, e7⟩
  have z7 := e7.size
  refine O.nil ⟨e7, D.cast (v' := .int .i64 ((Cn.num x.1.length).length : Int)) (congrArg (fun n : Nat => Value.int .i64 ((Cn.num n).length : Int)) (show (BitVec.ofInt 64 ((r.1.length : Nat) : Int)).toNat = x.1.length by rw [Cn.u_def, Cn.u_nat (by omega), hkxr])) (D.t 9 rfl e7 (fun _ _ _ hN => O.addI rfl rfl (by unfold InI; omega) (O.nil hN)) (D.t 10 rfl e7 (fun _ _ _ hN => O.addI rfl rfl (by unfold InI; omega) (O.nil hN)) (D.cast (v' := .int .i64 ((Bt.entB x).length : Int)) (congrArg (Value.int .i64) (show ((Cn.bytes x.2).length : Int) + (((Cn.num x.1.length).length : Int) + (r.1.length : Int)) = ((Bt.entB x).length : Int) by omega)) (D.as 11 rfl e7 (K16 (C.sr fun K17 => ?_))))))⟩
  refine O.mv (O.mv (O.subI s21_1 s5_1 (by unfold InI; omega) (O.addI rfl rfl (by unfold InI; omega) (O.cast (v' := .int .i64 ((k - fr + 1 : Nat) : Int)) (congrArg (Value.int .i64) (by omega)) (O.asg (K17 (C.sq fun K18 => C.sr fun K19 => O.mv (O.mv (O.gtrI s21_1 s5_1 (O.mv (O.splitD (x := .tmp 50) rfl (fun c50 => ?_) (fun c50 => ?_))))))))))))
  ·
   refine O.yes rfl (isT rfl c50) (O.mv (O.yes rfl (isT rfl c50) (O.gtrI rfl rfl (O.yes rfl (isT rfl c50) (O.mv (O.splitD (x := .tmp 53) rfl (fun c53 => ?_) (fun c53 => ?_)))))))
   ·
    have hnf : ¬ Bt.fits ((l.take (k + 1)).drop fr) := fun q => by have := (hfi.1 q).1; omega
    have hmem := hD.flush hk2 (by omega) hnf
    refine O.no rfl (noB (isT rfl c53) rfl) (O.no rfl (noB (isT rfl c53) rfl) (O.no rfl (noB (isT rfl c53) rfl) (O.no rfl (noB (isT rfl c53) rfl) (O.no rfl (noB (isT rfl c53) rfl) (O.no rfl (noB (isT rfl c53) rfl) (O.no rfl (noB (isT rfl c53) rfl) (O.no rfl (noB (isT rfl c53) rfl) (O.no rfl (noB (isT rfl c53) rfl) (O.yes rfl (isT rfl c50) (O.pickT (isT rfl c53) (O.pickT (isT rfl c50) (K19 (C.condT rfl (C.sr fun K20 => O.mv (O.mv (O.mv ?_))))))))))))))))
    have t3 := Ext.trans (Ext.nr t1 e4) e5
    have t4 := Ext.trans (Ext.trans t3 e6) e7
    have hb69 := Sl.sub (P := prog) (fr) (k) U22 Z50 (by rfl) (hr.keep t4) (by omega) (by omega)
    obtain ⟨v69, hs69, hr69⟩ := hb69
    refine O.subR s0_1 hr69 (.inr ⟨_, _, rfl, s5_1⟩) (.inr ⟨_, _, rfl, s21_1⟩) ?_
    have hsb69 := ((he.keep t4)).sub fr k
    refine O.call call36 (args1 rfl) (bencode_spec v69 ((raw.take k).drop fr) ((l.take k).drop fr) F _ hs69 hsb69 (fun j hj => by have q1 := hF j hj; omega) (hB.sub (fun x hx => (List.take_subset _ _ (List.drop_subset _ _ hx)))) (mx.keep t4) (fun hv => by have := Bt.split_len hE hmem; omega)) ?_
    rintro v_70 w8 ⟨rv70, rfl, hv70, e8⟩
    have z8 := e8.size
    have hvc := Bt.split_valid hO hmem
    rw [if_pos hvc] at hv70
    have h70s := hv70.sl
    have h70b := hv70.bk_ge
    have h70v := h70s.slv
    obtain ⟨q70, h70v⟩ := h70v
    subst h70v
    refine O.mv (O.extract rfl rfl (O.extract rfl rfl (O.asg (O.asg (K20 (C.sq fun K21 => C.sr fun K22 => O.mv (O.neqI rfl rfl (O.cast (v' := .bool false) (congrArg Value.bool (by simp [hvc])) (K22 (C.condF rfl (C.skip (K21 (C.sr fun K23 => O.mv (O.mv (O.lit1 U38 ti30 ts30 tz30 rfl rfl (fun b78 w9 hb78 hz78 e9 => ?_))))))))))))))))
    have z9 := e9.size
    have h78 := hz78.own
    have hl78 := h78.lt
    have hq78 : Sl slF.enc w9 (fun j => j = b78) (.slice (some ⟨b78, 0, none⟩) 1 1) [q70] := Sl.litG (G := slF) (n := 1) h78 rfl (by unfold maxLen; omega)
    have t5 := ((r0_1.keep e3).keepA e4).keep e5
    have t6 := ((t5.keep e6).keep e7).keep e8
    refine O.appG (G := slF) U38 ti30 tz30 ts30 rfl s4_1 rfl (t6.keep e9) hq78 (by rw [tb30]; simp; omega) (by unfold maxLen; simp; omega) (fun v79 gg79 w10 h79 hg79 e10 hw79 => ?_)
    have e10m := e10.mono (M' := fun k => k = _) (fun k _ hk => (t6.keep e9).2.1 k hk)
    have z10 := e10.size
    have hgl79 := h79.2.2
    have hob79 : ∀ j, bk v79 j → w.heap.size ≤ j := fun j hj => by
     rcases hw79 j hj with q | q
     ·exact hob j q
     ·omega
    have hg79 : w.heap.size ≤ gg79 := hob79 _ (h79.bk (by simp))
    have hgg79 := (hw79 _ (h79.bk (by simp))).imp (hogu _) id
    have sp3_ : ∃ n, n = w10.heap.size := ⟨_, rfl⟩
    obtain ⟨hi79, hhi79⟩ := sp3_
    have hbs79 : SlsL byteE w10 (fun j => w.heap.size ≤ j ∧ j < hi79 ∧ j ≠ gg79) (ro ++ [q70]) ((done ++ [((l.take k).drop fr)]).map Bt.enc) := by
     rw [List.map_append]
     exact ((((((((((r1_1.keep e3).keepA e4).keep e5).keep e6).keep e7).keep e8).keep e9).keepM e10 (by intro j hj h; exact hj.2.2 (hogu j h)))).weakA).snoc ((((h70s.keep e9).keepM e10 (by intro j hj h; have q1 := h70b j hj; have q3 := hogu j h; omega))).weak (fun j hj => by have := h70b j hj; (try dsimp only); omega))
    refine O.asg (K23 (C.region (O.mv (O.asg (O.asg (O.nil (K18 (C.region (O.mv (O.mv (O.addI rfl rfl (by unfold InI; omega) (O.asg (O.nil (K13 (K12 (C.region (O.addI s21_1 rfl (by unfold InI; omega) (O.mv (O.nil (⟨(k + 1, k, v79, gg79, ro ++ [q70], done ++ [((l.take k).drop fr)], hi79), ⟨rfl, rfl, s21_1, (Eq.trans rfl (i64_eq (by omega))), s0_1, s19_1, s20_1, (Ext.new (Ext.trans (Ext.trans t4 e8) e9) e10 (by intro i hi h; have := hob i h; omega)), h79, hbs79, ?_⟩, by first | omega | (simp only []; omega)⟩))))))))))))))))))))
    first
    | exact ⟨⟨by omega, by omega, fun _ => by omega⟩, hD.nextYes hk2 hfk hyf, hob, by omega, by omega⟩
    | exact ⟨⟨by omega, by omega, fun _ => by omega⟩, hD.nextNo hk2 (by omega) hnf, hob79, by omega, by rw [List.length_append, List.length_singleton]; omega⟩
   refine O.yes rfl (isF rfl c53) (O.mv (O.yes rfl (isF rfl c53) (O.convIU (m' := 64) U3 U110 rfl rfl rfl (O.yes rfl (isF rfl c53) (O.call call66 (args1 rfl) (nsize_spec _ _) ?_)))))
   rintro v_56 w11 ⟨rfl, e11⟩
   have z11 := e11.size
   have hnl56 := Cn.num_u (BitVec.ofInt 64 ((k - fr + 1 : Nat) : Int))
   refine O.yes rfl (isF rfl c53) (O.mv (O.yes rfl (isF rfl c53) (O.addI rfl s6_1 (by unfold InI; omega) (O.yes rfl (isF rfl c53) (O.mv (O.yes rfl (isF rfl c53) (O.addI rfl rfl (by unfold InI; omega) (O.yes rfl (isF rfl c53) (O.addI rfl rfl (by unfold InI; omega) (O.yes rfl (isF rfl c53) (O.gtrI rfl rfl (O.yes rfl (isT rfl c50) (O.pickF (isF rfl c53) (O.pickT (isT rfl c50) (K19 (C.condD rfl (fun c64 => ?_) (fun c64 => ?_)))))))))))))))))
   ·
    rw [Cn.u_def, Cn.u_nat (by omega)] at c64
    have hnf : ¬ Bt.fits ((l.take (k + 1)).drop fr) := fun q => by have := (hfi.1 q).2; omega
    have hmem := hD.flush hk2 (by omega) hnf
    refine C.sr fun K24 => O.mv (O.mv (O.mv ?_))
    have t7 := Ext.trans (Ext.nr t1 e4) e5
    have t8 := Ext.trans (Ext.trans t7 e6) e7
    have t9 := Ext.trans t8 e11
    have hb69 := Sl.sub (P := prog) (fr) (k) U22 Z50 (by rfl) (hr.keep t9) (by omega) (by omega)
    obtain ⟨v69, hs69, hr69⟩ := hb69
    refine O.subR s0_1 hr69 (.inr ⟨_, _, rfl, s5_1⟩) (.inr ⟨_, _, rfl, s21_1⟩) ?_
    have hsb69 := ((he.keep t9)).sub fr k
    refine O.call call36 (args1 rfl) (bencode_spec v69 ((raw.take k).drop fr) ((l.take k).drop fr) F _ hs69 hsb69 (fun j hj => by have q1 := hF j hj; omega) (hB.sub (fun x hx => (List.take_subset _ _ (List.drop_subset _ _ hx)))) (mx.keep t9) (fun hv => by have := Bt.split_len hE hmem; omega)) ?_
    rintro v_70 w12 ⟨rv70, rfl, hv70, e12⟩
    have z12 := e12.size
    have hvc := Bt.split_valid hO hmem
    rw [if_pos hvc] at hv70
    have h70s := hv70.sl
    have h70b := hv70.bk_ge
    have h70v := h70s.slv
    obtain ⟨q70, h70v⟩ := h70v
    subst h70v
    refine O.mv (O.extract rfl rfl (O.extract rfl rfl (O.asg (O.asg (K24 (C.sq fun K25 => C.sr fun K26 => O.mv (O.neqI rfl rfl (O.cast (v' := .bool false) (congrArg Value.bool (by simp [hvc])) (K26 (C.condF rfl (C.skip (K25 (C.sr fun K27 => O.mv (O.mv (O.lit1 U38 ti30 ts30 tz30 rfl rfl (fun b78 w13 hb78 hz78 e13 => ?_))))))))))))))))
    have z13 := e13.size
    have h78 := hz78.own
    have hl78 := h78.lt
    have hq78 : Sl slF.enc w13 (fun j => j = b78) (.slice (some ⟨b78, 0, none⟩) 1 1) [q70] := Sl.litG (G := slF) (n := 1) h78 rfl (by unfold maxLen; omega)
    have t10 := ((r0_1.keep e3).keepA e4).keep e5
    have t11 := ((t10.keep e6).keep e7).keep e11
    refine O.appG (G := slF) U38 ti30 tz30 ts30 rfl s4_1 rfl ((t11.keep e12).keep e13) hq78 (by rw [tb30]; simp; omega) (by unfold maxLen; simp; omega) (fun v79 gg79 w14 h79 hg79 e14 hw79 => ?_)
    have e14m := e14.mono (M' := fun k => k = _) (fun k _ hk => ((t11.keep e12).keep e13).2.1 k hk)
    have z14 := e14.size
    have hgl79 := h79.2.2
    have hob79 : ∀ j, bk v79 j → w.heap.size ≤ j := fun j hj => by
     rcases hw79 j hj with q | q
     ·exact hob j q
     ·omega
    have hg79 : w.heap.size ≤ gg79 := hob79 _ (h79.bk (by simp))
    have hgg79 := (hw79 _ (h79.bk (by simp))).imp (hogu _) id
    have sp4_ : ∃ n, n = w14.heap.size := ⟨_, rfl⟩
    obtain ⟨hi79, hhi79⟩ := sp4_
    have hbs79 : SlsL byteE w14 (fun j => w.heap.size ≤ j ∧ j < hi79 ∧ j ≠ gg79) (ro ++ [q70]) ((done ++ [((l.take k).drop fr)]).map Bt.enc) := by
     rw [List.map_append]
     exact (((((((((((r1_1.keep e3).keepA e4).keep e5).keep e6).keep e7).keep e11).keep e12).keep e13).keepM e14 (by intro j hj h; exact hj.2.2 (hogu j h)))).weakA).snoc ((((h70s.keep e13).keepM e14 (by intro j hj h; have q1 := h70b j hj; have q3 := hogu j h; omega))).weak (fun j hj => by have := h70b j hj; (try dsimp only); omega))
    refine O.asg (K27 (C.region (O.mv (O.asg (O.asg (O.nil (K18 (C.region (O.mv (O.mv (O.addI rfl rfl (by unfold InI; omega) (O.asg (O.nil (K13 (K12 (C.region (O.addI s21_1 rfl (by unfold InI; omega) (O.mv (O.nil (⟨(k + 1, k, v79, gg79, ro ++ [q70], done ++ [((l.take k).drop fr)], hi79), ⟨rfl, rfl, s21_1, (Eq.trans rfl (i64_eq (by omega))), s0_1, s19_1, s20_1, (Ext.new (Ext.trans (Ext.trans t9 e12) e13) e14 (by intro i hi h; have := hob i h; omega)), h79, hbs79, ?_⟩, by first | omega | (simp only []; omega)⟩))))))))))))))))))))
    first
    | exact ⟨⟨by omega, by omega, fun _ => by omega⟩, hD.nextYes hk2 hfk hyf, hob, by omega, by omega⟩
    | exact ⟨⟨by omega, by omega, fun _ => by omega⟩, hD.nextNo hk2 (by omega) hnf, hob79, by omega, by rw [List.length_append, List.length_singleton]; omega⟩
   rw [Cn.u_def, Cn.u_nat (by omega)] at c64
   have hyf : fr = k ∨ Bt.fits ((l.take (k + 1)).drop fr) := .inr (hfi.2 ⟨by omega, by omega⟩)
   refine C.skip (K18 (C.region (O.mv (O.mv (O.addI s6_1 rfl (by unfold InI; omega) (O.asg (O.nil (K13 (K12 (C.region (O.addI s21_1 rfl (by unfold InI; omega) (O.mv (O.nil (⟨(k + 1, fr, o, gl, ro, done, hi), ⟨rfl, s4_1, s5_1, (Eq.trans rfl (i64_eq (by omega))), s0_1, s19_1, s20_1, (Ext.trans (Ext.trans (Ext.trans (Ext.trans (Ext.nr t1 e4) e5) e6) e7) e11), ((((((r0_1.keep e3).keepA e4).keep e5).keep e6).keep e7).keep e11), ((((((r1_1.keep e3).keepA e4).keep e5).keep e6).keep e7).keep e11), ?_⟩, by first | omega | (simp only []; omega)⟩))))))))))))))
   exact ⟨⟨by omega, by omega, fun _ => by omega⟩, hD.nextYes hk2 hfk hyf, hob, by omega, by omega⟩
  have hyf : fr = k ∨ Bt.fits ((l.take (k + 1)).drop fr) := .inl (by omega)
  refine O.no rfl (noB (isF rfl c50) rfl) (O.no rfl (noB (isF rfl c50) rfl) (O.no rfl (noB (isF rfl c50) rfl) (O.no rfl (noU rfl) (O.no rfl (noU rfl) (O.no rfl (noU rfl) (O.no rfl (noU rfl) (O.no rfl (noU rfl) (O.no rfl (noU rfl) (O.no rfl (noU rfl) (O.no rfl (noU rfl) (O.no rfl (noU rfl) (O.no rfl (noB (isF rfl c50) rfl) (O.pickF (isF rfl c50) (K19 (C.condF rfl (C.skip (K18 (C.region (O.mv (O.mv (O.addI s6_1 rfl (by unfold InI; omega) (O.asg (O.nil (K13 (K12 (C.region (O.addI s21_1 rfl (by unfold InI; omega) (O.mv (O.nil ?_)))))))))))))))))))))))))))))
  refine ⟨(k + 1, fr, o, gl, ro, done, hi), ⟨rfl, s4_1, s5_1, (Eq.trans rfl (i64_eq (by omega))), s0_1, s19_1, s20_1, (Ext.trans (Ext.trans (Ext.trans (Ext.nr t1 e4) e5) e6) e7), (((((r0_1.keep e3).keepA e4).keep e5).keep e6).keep e7), (((((r1_1.keep e3).keepA e4).keep e5).keep e6).keep e7), ?_⟩, by first | omega | (simp only []; omega)⟩
  exact ⟨⟨by omega, by omega, fun _ => by omega⟩, hD.nextYes hk2 hfk hyf, hob, by omega, by omega⟩
 have hk3 : k = l.length := by omega
 refine C.exit (K9 (K7 (C.sq fun K28 => C.sr fun K29 => O.mv (O.mv (O.len U22 s0_1 (hr.keep e_1) (O.lssI s5_1 rfl (K29 (C.condD rfl (fun c88 => ?_) (fun c88 => ?_)))))))))
 ·
  have sp5_ := hD.last hk3 (by omega)
  obtain ⟨hsp, hmem⟩ := sp5_
  refine C.sr fun K30 => O.mv (O.mv ?_)
  have hb92 := Sl.sub (P := prog) (fr) (raw.length) U22 Z50 (by rfl) (hr.keep e_1) (by omega) (Nat.le_refl _)
  obtain ⟨v92, hs92, hr92⟩ := hb92
  refine O.subR s0_1 hr92 (.inr ⟨_, _, rfl, s5_1⟩) (.inl ⟨rfl, rfl⟩) ?_
  rw [List.take_length] at hs92
  have hsb92 := ((he.keep e_1)).drop fr
  refine O.call call36 (args1 rfl) (bencode_spec v92 (raw.drop fr) (l.drop fr) F _ hs92 hsb92 (fun j hj => by have q1 := hF j hj; omega) (hB.sub (fun x hx => (List.drop_subset _ _ hx))) (mx.keep e_1) (fun hv => by have := Bt.split_len hE hmem; omega)) ?_
  rintro v_93 w15 ⟨rv93, rfl, hv93, e15⟩
  have z15 := e15.size
  have hvc := Bt.split_valid hO hmem
  rw [if_pos hvc] at hv93
  have h93s := hv93.sl
  have h93b := hv93.bk_ge
  have h93v := h93s.slv
  obtain ⟨q93, h93v⟩ := h93v
  subst h93v
  refine O.mv (O.extract rfl rfl (O.extract rfl rfl (O.asg (O.asg (K30 (C.sq fun K31 => C.sr fun K32 => O.mv (O.neqI rfl rfl (O.cast (v' := .bool false) (congrArg Value.bool (by simp [hvc])) (K32 (C.condF rfl (C.skip (K31 (C.region (O.mv (O.mv (O.lit1 U38 ti30 ts30 tz30 rfl rfl (fun b101 w16 hb101 hz101 e16 => ?_)))))))))))))))))
  have z16 := e16.size
  have h101 := hz101.own
  have hl101 := h101.lt
  have hq101 : Sl slF.enc w16 (fun j => j = b101) (.slice (some ⟨b101, 0, none⟩) 1 1) [q93] := Sl.litG (G := slF) (n := 1) h101 rfl (by unfold maxLen; omega)
  refine O.appG (G := slF) U38 ti30 tz30 ts30 rfl s4_1 rfl ((r0_1.keep e15).keep e16) hq101 (by rw [tb30]; simp; omega) (by unfold maxLen; simp; omega) (fun v102 gg102 w17 h102 hg102 e17 hw102 => ?_)
  have e17m := e17.mono (M' := fun k => k = _) (fun k _ hk => ((r0_1.keep e15).keep e16).2.1 k hk)
  have z17 := e17.size
  have hgl102 := h102.2.2
  have hob102 : ∀ j, bk v102 j → w.heap.size ≤ j := fun j hj => by
   rcases hw102 j hj with q | q
   ·exact hob j q
   ·omega
  have hg102 : w.heap.size ≤ gg102 := hob102 _ (h102.bk (by simp))
  have hgg102 := (hw102 _ (h102.bk (by simp))).imp (hogu _) id
  have sp6_ : ∃ n, n = w17.heap.size := ⟨_, rfl⟩
  obtain ⟨hi102, hhi102⟩ := sp6_
  have hbs102 : SlsL byteE w17 (fun j => w.heap.size ≤ j ∧ j < hi102 ∧ j ≠ gg102) (ro ++ [q93]) ((done ++ [(l.drop fr)]).map Bt.enc) := by
   rw [List.map_append]
   exact (((((r1_1.keep e15).keep e16).keepM e17 (by intro j hj h; exact hj.2.2 (hogu j h)))).weakA).snoc ((((h93s.keep e16).keepM e17 (by intro j hj h; have q1 := h93b j hj; have q3 := hogu j h; omega))).weak (fun j hj => by have := h93b j hj; (try dsimp only); omega))
  refine O.asg (O.nil (K28 (C.sr fun K33 => O.mv (O.asg (O.asg (K33 (C.ret (Outs.two rfl rfl rfl ?_))))))))
  first
  | exact ⟨_, _, [], rfl, Sl.nil _ _ _, .inr ⟨hno, rfl, rfl⟩, (Ext.new (Ext.trans (Ext.trans e_1 e15) e16) e17 (by intro i hi h; have := hob i h; omega))⟩
  | (refine ⟨_, 0, (Bt.split l).map Bt.enc, rfl, ?_, .inl ⟨Bt.ord_iff.2 hO, rfl, rfl⟩, (Ext.new (Ext.trans (Ext.trans e_1 e15) e16) e17 (by intro i hi h; have := hob i h; omega))⟩
     rw [hsp]
     have hbk9 := (h102).1.bk_ge
     refine ((hbs102).weakA).sl ((h102).1.sl.weak (fun j hj => ⟨?_, (hbk9 j hj).2⟩))
     exact hob102 j hj)
 have hsp := hD.none hk3 (by omega)
 refine C.skip (K28 (C.sr fun K34 => O.mv (O.asg (O.asg (K34 (C.ret (Outs.two rfl s4_1 rfl ?_)))))))
 first
 | exact ⟨_, _, [], rfl, Sl.nil _ _ _, .inr ⟨hno, rfl, rfl⟩, e_1⟩
 | (refine ⟨_, 0, (Bt.split l).map Bt.enc, rfl, ?_, .inl ⟨Bt.ord_iff.2 hO, rfl, rfl⟩, e_1⟩
    rw [hsp]
    have hbk9 := (r0_1).1.bk_ge
    refine ((r1_1).weakA).sl ((r0_1).1.sl.weak (fun j hj => ⟨?_, (hbk9 j hj).2⟩))
    first
    | exact hob102 j hj
    | exact hob j hj)
theorem clipN_spec (w : World) :
 Ret prog 78 #[.slice none 0 0] w (fun v w' => v = .slice none 0 0 ∧ w' = w) := by
 refine enT [.slice none 0 0] 9 func78 rfl rfl (C.sr fun K1 => O.asg (K1 (C.sr fun K2 => O.mv (O.mv (O.len U22 rfl (Sl.nil entF.enc w (fun _ => False)) (O.mv (O.len U22 rfl (Sl.nil entF.enc w (fun _ => False)) (O.clipNil U22 Z50 rfl rfl rfl (O.asg (K2 (C.ret (Outs.one rfl rfl ?_))))))))))))
 exact ⟨rfl, rfl⟩
theorem clipS_spec (g n cap : Nat) (xs : List EntR) (w : World) (hs : Sl entF.enc w (fun k => k = g) (.slice (some ⟨g, 0, none⟩) n cap) xs) (hl : xs.length = n) (hc : n ≤ cap) :
 Ret prog 78 #[.slice (some ⟨g, 0, none⟩) n cap] w (fun v w' => v = .slice (some ⟨g, 0, none⟩) n n ∧ w' = w) := by
 refine enT [.slice (some ⟨g, 0, none⟩) n cap] 9 func78 rfl rfl (C.sr fun K1 => O.asg (K1 (C.sr fun K2 => O.mv (O.mv (O.len U22 rfl hs (O.cast (v' := .int .i64 (n : Int)) (by rw [hl]) (O.mv (O.len U22 rfl hs (O.cast (v' := .int .i64 (n : Int)) (by rw [hl]) (O.clip U22 Z50 rfl rfl rfl hc (O.asg (K2 (C.ret (Outs.one rfl rfl ?_))))))))))))))
 exact ⟨rfl, rfl⟩
theorem clip_spec (v0 : Value) (raw : List EntR) (ty : TypeId) (w : World) (h : OwnF entF ty 0 w v0 raw) : Ret prog 78 #[v0] w (fun v w' => Clip v0 v ∧ w' = w) := by
 rcases h.1.2 with ⟨rfl, _⟩ | ⟨g, cap, cur, rfl, hb, hg, hn, hc, _⟩
 ·refine (clipN_spec w).mono ?_
  rintro v w' ⟨rfl, rfl⟩
  exact ⟨.inl rfl, rfl⟩
 ·refine (clipS_spec g raw.length cap raw w h.sl rfl hn).mono ?_
  rintro v w' ⟨rfl, rfl⟩
  exact ⟨.inr ⟨g, _, cap, rfl, rfl⟩, rfl⟩
theorem cons_ent {W : World} {F : Nat → Prop} {va : Value} {ra : List EntR} {la : List EntT} (hs : Sl entF.enc W F va ra) (he : EntL W F ra la) (hp : 0 < ra.length) (ho : Bt.Ord la) (hm : Bt.Mid 20000 la) :
 ∃ (r : EntR) (ra2 : List EntR) (x : EntT) (la2 : List EntT), ra = r :: ra2 ∧ la = x :: la2 ∧ Sl entF.enc W F va (r :: ra2) ∧ EntL W F (r :: ra2) (x :: la2) ∧ CartAt W F r.2 x.2 ∧ r.1 = x.1 ∧ (Bt.Ord (x :: la2) ∧ Bt.Ord la2) ∧ (Bt.Mid 20000 (x :: la2) ∧ Bt.Mid 20000 la2) ∧ Jn.GoodC x.2 ∧ Cn.big x.2 ∧ la.length = la2.length + 1 := by
 have hl := he.1
 match ra, la, hp, hl with
 | r :: ra2, x :: la2, _, _ => exact ⟨r, ra2, x, la2, rfl, rfl, hs, he, he.head.2, he.head.1, ⟨ho, ho.tail⟩, ⟨hm, hm.sub (fun z hz => List.mem_cons_of_mem _ hz)⟩, (ho.ok x List.mem_cons_self).2, hm.big (by omega) (x := x) List.mem_cons_self, rfl⟩
theorem bmerge_spec (v0 : Value) (raw : List EntR) (l : List EntT) (F : Nat → Prop) (v1 : Value) (raw2 : List EntR) (l2 : List EntT) (F2 : Nat → Prop) (w : World) (hr : Sl entF.enc w F v0 raw) (he : EntL w F raw l) (hr2 : Sl entF.enc w F2 v1 raw2) (he2 : EntL w F2 raw2 l2) (hF : ∀ k, F k → k < w.heap.size) (hF2 : ∀ k, F2 k → k < w.heap.size) (hB : Bt.Big l) (hB2 : Bt.Big l2) (hM : Bt.Mid 20000 l) (hM2 : Bt.Mid 20000 l2) (hn : l.length + l2.length ≤ 1000000) (mx : Mx w) :
 Ret prog 34 #[v0, v1] w (fun v w' => ∃ (u : Value) (e : Int) (es : List EntT) (u' : Value), v = .tuple #[u, .int .i64 e] ∧ Clip u' u ∧ SlE 50 112 117 114 w' w.heap.size w'.heap.size u' es ∧ ((Bt.ordered l = true ∧ Bt.ordered l2 = true ∧ e = 0 ∧ es = Bt.merge l l2) ∨ ((Bt.ordered l = false ∨ Bt.ordered l2 = false) ∧ e = 2 ∧ es = [])) ∧ Le w w') := by
 obtain ⟨ie50, ti50, ts50, tb50, tz50⟩ := inf50
 have hl := he.1
 have hl2 := he2.1
 have hgl9 := mx.lt
 have _hF9 := hF
 have _hF8 := hF2
 refine enT [v0, v1] 100 func34 rfl rfl (C.sr fun K1 => O.asg (O.asg (K1 (C.scope (C.sq fun K2 => C.sr fun K3 => O.mv (O.call call59 (args1 rfl) (ordered_spec v0 raw l F _ hr he (fun j hj => by have q1 := hF j hj; omega) hB mx) ?_))))))
 rintro v_12 w1 ⟨rfl, e1⟩
 have z1 := e1.size
 refine O.not rfl (O.mv (O.split (x := .tmp 14) rfl (fun c14 => ?_) (fun c14 => ?_)))
 ·
  have hno : Bt.ordered l = false ∨ Bt.ordered l2 = false := .inl (by simpa using c14)
  refine O.no rfl (noB (isT' rfl c14) rfl) (O.no rfl (noB (isT' rfl c14) rfl) (O.no rfl (noB (isT' rfl c14) rfl) (O.pickT (isT' rfl c14) (K3 (C.condT rfl (C.sr fun K4 => O.asg (O.asg (K4 (C.ret (Outs.two rfl rfl rfl ?_))))))))))
  exact ⟨_, 2, [], _, rfl, .inl rfl, SlE.nil _ _ _ _ _ (by omega), .inr ⟨hno, rfl, rfl⟩, e1⟩
 refine O.yes rfl (isF' rfl c14) (O.mv (O.yes rfl (isF' rfl c14) (O.call call59 (args1 rfl) (ordered_spec v1 raw2 l2 F2 _ (hr2.keep e1) (he2.keep e1) (fun j hj => by have q1 := hF2 j hj; omega) hB2 (mx.keep e1)) ?_)))
 rintro v_16 w2 ⟨rfl, e2⟩
 have z2 := e2.size
 refine O.yes rfl (isF' rfl c14) (O.not rfl (O.pickF (isF' rfl c14) (K3 (C.cond rfl (fun c18 => ?_) (fun c18 => ?_)))))
 ·
  have hno : Bt.ordered l = false ∨ Bt.ordered l2 = false := .inr (by simpa using c18)
  refine C.sr fun K5 => O.asg (O.asg (K5 (C.ret (Outs.two rfl rfl rfl ?_))))
  exact ⟨_, 2, [], _, rfl, .inl rfl, SlE.nil _ _ _ _ _ (by omega), .inr ⟨hno, rfl, rfl⟩, (Ext.trans e1 e2)⟩
 have hO1 : Bt.ordered l = true := by simpa using c14
 have hO2 : Bt.ordered l2 = true := by simpa using c18
 have sp1_ : ∃ n, n = w2.heap.size := ⟨_, rfl⟩
 obtain ⟨n9, hn9⟩ := sp1_
 refine C.skip (K2 (C.sr fun K6 => O.asg (K6 (C.sq fun K7 => C.label (K7 (C.sq fun K8 => C.bl fun K9 => ?_))))))
 refine C.loop0 (σ := Value × Value × List EntR × List EntR × List EntT × List EntT × Value × Nat × List EntR × List EntT × Nat) (fun f0 w0 ⟨va, vb, ra, rb, la, lb, o, gl, raw3, done, hz⟩ f wz => f 0 = va ∧ f 1 = vb ∧ f 6 = o ∧ Le w wz ∧ Sl entF.enc wz F va ra ∧ EntL wz F ra la ∧ Sl entF.enc wz F2 vb rb ∧ EntL wz F2 rb lb ∧ OG entF 50 wz o gl raw3 ∧ EntsD 112 117 114 wz (fun j => j ≠ gl) n9 hz raw3 done ∧ Bt.merge l l2 = done ++ Bt.merge la lb ∧ (Bt.Ord la ∧ Bt.Ord lb) ∧ (Bt.Mid 20000 la ∧ Bt.Mid 20000 lb) ∧ (∀ j, bk o j → n9 ≤ j) ∧ (n9 ≤ hz ∧ hz ≤ wz.heap.size) ∧ done.length + la.length + lb.length ≤ l.length + l2.length) (fun ⟨va, vb, ra, rb, la, lb, o, gl, raw3, done, hz⟩ => la.length + lb.length) (v0, v1, raw, raw2, l, l2, .slice none 0 0, 0, [], [], n9) ?_ ?_
 ·
  refine ⟨rfl, rfl, rfl, (Ext.trans e1 e2), ((hr.keep e1).keep e2), ((he.keep e1).keep e2), ((hr2.keep e1).keep e2), ((he2.keep e1).keep e2), (OG.nil (by omega)), (EntsD.nil (Nat.le_refl _)), ?_⟩
  exact ⟨rfl, ⟨Bt.ord_iff.1 hO1, Bt.ord_iff.1 hO2⟩, ⟨hM, hM2⟩, fun _ h => h.elim, by omega, by simp⟩
 rintro ⟨va, vb, ra, rb, la, lb, o, gl, raw3, done, hz⟩ f_1 w3 ⟨s0_1, s1_1, s6_1, e_1, r0_1, r1_1, r2_1, r3_1, r4_1, r5_1, ⟨hmg, ⟨hoa, hob9⟩, ⟨hma, hmb⟩, hob, hhz, hdn⟩⟩
 have z_1 := e_1.size
 have hogl := (r4_1).2.2
 have hogu := (r4_1).2.1
 have hen := r5_1
 have hrx := hen.1
 have hal := (r1_1).1
 have hbl := (r3_1).1
 have hral := (r0_1).le
 have hrbl := (r2_1).le
 refine C.bl fun K10 => C.sr fun K11 => O.alloc zeroValue50 (fun b7 w4 hb7 hz7 e4 => ?_)
 have z4 := e4.size
 have h7 := hz7.own
 have hl7 := h7.lt
 refine K11 (C.sq fun K12 => C.bl fun K13 => C.sr fun K14 => O.mv (O.len U22 s0_1 (r0_1.keep e4) (O.eqlI rfl rfl (O.mv (O.cut 4 (fun f f' => f' 71 = .bool (decide ((ra.length : Int) = 0 ∧ (rb.length : Int) = 0)) ∧ f' 0 = f 0 ∧ f' 1 = f 1 ∧ f' 6 = f 6 ∧ f' 7 = f 7) ?_ ?_)))))
 ·
  refine O.splitD (x := .tmp 67) rfl (fun c67 => ?_) (fun c67 => ?_)
  ·
   refine O.yes rfl (isT rfl c67) (O.mv (O.yes rfl (isT rfl c67) (O.len U22 s1_1 (r2_1.keep e4) (O.yes rfl (isT rfl c67) (O.eqlI rfl rfl (O.pickT (isT rfl c67) (O.nil (⟨⟨?_, rfl, rfl, rfl, rfl⟩, rfl⟩))))))))
   exact dJ rfl
  refine O.no rfl (noB (isF rfl c67) rfl) (O.no rfl (noB (isF rfl c67) rfl) (O.no rfl (noB (isF rfl c67) rfl) (O.pickF (isF rfl c67) (O.nil (⟨⟨?_, rfl, rfl, rfl, rfl⟩, rfl⟩)))))
  exact dJ rfl
 rintro f_2 ⟨s71_2, s0_2, s1_2, s6_2, s7_2⟩
 refine O.asg (K14 (C.condD s71_2 (fun c63 => ?_) (fun c63 => ?_)))
 ·
  have hla0 : la = [] := List.eq_nil_of_length_eq_zero (by omega)
  have hlb0 : lb = [] := List.eq_nil_of_length_eq_zero (by omega)
  have hfin : Bt.merge l l2 = done := by rw [hmg, hla0, hlb0, Bt.merge_nil, List.append_nil]
  refine C.exit (K9 (K8 (C.sr fun K15 => O.mv (O.call call78 (args1 (Eq.trans s6_2 s6_1)) (clip_spec o raw3 50 _ ((r4_1.keep e4)).1) ?_))))
  rintro v_99 w5 ⟨hkv99, rfl⟩
  refine O.asg (O.asg (K15 (C.ret (Outs.two rfl rfl rfl ?_))))
  first
  | exact ⟨_, 2, [], _, rfl, .inl rfl, SlE.nil _ _ _ _ _ (by omega), .inr ⟨hno, rfl, rfl⟩, (Ext.trans e_1 e4)⟩
  | (refine ⟨_, 0, done, o, rfl, hkv99, ⟨raw3, ((r4_1.keep e4)).1.fre (fun j hj => ?_), (((r5_1.keep e4)).weak (fun k _ _ hG hb => hG (hogu k hb))).wide (by omega) (by omega)⟩, .inl ⟨hO1, hO2, rfl, hfin.symm⟩, (Ext.trans e_1 e4)⟩
     have := hob j hj
     have := (((r4_1.keep e4)).1.bk_ge j hj)
     (try dsimp only)
     omega)
 refine C.sr fun K16 => O.mv (O.len U22 (Eq.trans s1_2 s1_1) (r2_1.keep e4) (O.eqlI rfl rfl (O.asg (K16 ?_))))
 refine C.join (fun f w f' w' => Ext (fun k => k = b7) w w' ∧ f' 6 = f 6 ∧ f' 7 = f 7 ∧ ∃ (va3 : Value) (vb3 : Value) (ra3 : List EntR) (rb3 : List EntR) (la3 : List EntT) (lb3 : List EntT) (ck : List UInt8) (q1 : Raw) (q2 : Raw) (q3 : Raw) (cc : CartT), f' 0 = va3 ∧ f' 1 = vb3 ∧ Own w' b7 50 [str ck, slv q1, slv q2, slv q3] ∧ Sl entF.enc w' F va3 ra3 ∧ EntL w' F ra3 la3 ∧ Sl entF.enc w' F2 vb3 rb3 ∧ EntL w' F2 rb3 lb3 ∧ CartAt w' (fun j => j < w'.heap.size ∧ j ≠ b7) ((q1, q2), q3) cc ∧ Bt.merge la lb = (ck, cc) :: Bt.merge la3 lb3 ∧ (Bt.Ord la3 ∧ Bt.Ord lb3) ∧ (Bt.Mid 20000 la3 ∧ Bt.Mid 20000 lb3) ∧ Cn.big cc ∧ la3.length + lb3.length + 1 ≤ la.length + lb.length) ?_ ?_
 ·
  refine C.condD rfl (fun c72 => ?_) (fun c72 => ?_)
  ·
   have hlb0 : lb = [] := List.eq_nil_of_length_eq_zero (by omega)
   have ca9 := cons_ent (r0_1.keep e4) (r1_1.keep e4) (by omega) hoa hma
   obtain ⟨r, ra2, x, la2, hra, hla, hsa, hea, hca, hkxr, ⟨hoaC, hoa2⟩, ⟨hmaC, hma2⟩, hgx, hbx, hlal⟩ := ca9
   have hmid := hmaC x List.mem_cons_self
   have hP : Bt.merge la lb = (r.1, x.2) :: Bt.merge la2 lb ∧ (Bt.Ord la2 ∧ Bt.Ord lb) ∧ (Bt.Mid 20000 la2 ∧ Bt.Mid 20000 lb) ∧ Cn.big x.2 ∧ la2.length + lb.length + 1 ≤ la.length + lb.length := ⟨by rw [hla, hlb0, Bt.mrg_a0, hkxr], ⟨hoa2, hob9⟩, ⟨hma2, hmb⟩, hbx, by omega⟩
   refine C.drawB (wB := w3) (by kernel_rfl) fun w5 e5 => ?_
   have z5 := e5.size
   refine D.mv 0 rfl (Ext.trans e4 e5) (D.mv 3 rfl (Ext.trans e4 e5) ?_)
   have hb80 := Sl.sub (P := prog) (1) ((r :: ra2).length) U22 Z50 (by rfl) (hsa.keep e5) (by simp) (Nat.le_refl _)
   obtain ⟨v80, hs80, hr80⟩ := hb80
   refine D.t 4 rfl (Ext.trans e4 e5) (fun _ _ _ hN => O.subR (Eq.trans s0_2 s0_1) hr80 (.inr ⟨_, _, rfl, rfl⟩) (.inl ⟨rfl, rfl⟩) (O.nil hN)) ?_
   rw [List.take_length] at hs80
   replace hs80 : Sl entF.enc _ F v80 ra2 := hs80
   have het80 := ((hea.keep e5)).tail
   refine D.on 1 rfl rfl (O.idx U22 Z50 rfl (Eq.trans s0_2 s0_1) (hsa.keep e5) rfl (by simp) (fun a77 h77 => O.nil ⟨(Ext.trans e4 e5), D.on 2 rfl rfl (O.loadG (G := entF) isAgg50 Z50 rfl h77 (O.nil ⟨(Ext.trans e4 e5), D.cast (v' := .agg #[str r.1, slv r.2.1.1, slv r.2.1.2, slv r.2.2]) rfl (D.on 5 rfl rfl (O.storeA (vs := [str r.1, slv r.2.1.1, slv r.2.1.2, slv r.2.2]) Z50 rfl s7_2 rfl (by intro u hu; simp only [List.mem_cons, List.not_mem_nil, or_false] at hu; rcases hu with rfl | rfl | rfl | rfl <;> rfl) (h7.keep e5) (leB rfl) (fun w6 hs6 e6 z6 => ?_)))⟩))⟩))
   have t0 := Ext.nr (Ext.trans e4 e5) e6
   refine O.nil ⟨t0, D.as 6 rfl t0 (D.dn ?_)⟩
   exact ⟨(Ext.nw (Ext.nw (Ext.refl _ _) e5) e6), rfl, rfl, ⟨_, _, _, _, _, _, _, _, _, _, _, rfl, (Eq.trans s1_2 s1_1), hs6, (hs80.keepA e6), (het80.keepA e6), (((r2_1.keep e4).keep e5).keepA e6), (((r3_1.keep e4).keep e5).keepA e6), ((((hca.keep e5).keepA e6)).weak (fun j hj => by first | (have q9 := hF j hj; (try dsimp only); omega) | (have q9 := hF2 j hj; (try dsimp only); omega) | ((try dsimp only at hj); (try dsimp only); omega))), hP⟩⟩
  refine C.sr fun K17 => O.mv (O.len U22 (Eq.trans s0_2 s0_1) (r0_1.keep e4) (O.eqlI rfl rfl (O.asg (K17 (C.condD rfl (fun c81 => ?_) (fun c81 => ?_))))))
  ·
   have hla0 : la = [] := List.eq_nil_of_length_eq_zero (by omega)
   have cb9 := cons_ent (r2_1.keep e4) (r3_1.keep e4) (by omega) hob9 hmb
   obtain ⟨s, rb2, y, lb2, hrb, hlb, hsb, heb, hcb, hkys, ⟨hobC, hob2⟩, ⟨hmbC, hmb2⟩, hgy, hby, hlbl⟩ := cb9
   have hmiy := hmbC y List.mem_cons_self
   have hP : Bt.merge la lb = (s.1, y.2) :: Bt.merge la lb2 ∧ (Bt.Ord la ∧ Bt.Ord lb2) ∧ (Bt.Mid 20000 la ∧ Bt.Mid 20000 lb2) ∧ Cn.big y.2 ∧ la.length + lb2.length + 1 ≤ la.length + lb.length := ⟨by rw [hlb, hla0, Bt.mrg_b0, hkys], ⟨hoa, hob2⟩, ⟨hma, hmb2⟩, hby, by omega⟩
   refine C.drawB (wB := w3) (by kernel_rfl) fun w7 e7 => ?_
   have z7 := e7.size
   refine D.mv 0 rfl (Ext.trans e4 e7) (D.mv 3 rfl (Ext.trans e4 e7) ?_)
   have hb89 := Sl.sub (P := prog) (1) ((s :: rb2).length) U22 Z50 (by rfl) (hsb.keep e7) (by simp) (Nat.le_refl _)
   obtain ⟨v89, hs89, hr89⟩ := hb89
   refine D.t 4 rfl (Ext.trans e4 e7) (fun _ _ _ hN => O.subR (Eq.trans s1_2 s1_1) hr89 (.inr ⟨_, _, rfl, rfl⟩) (.inl ⟨rfl, rfl⟩) (O.nil hN)) ?_
   rw [List.take_length] at hs89
   replace hs89 : Sl entF.enc _ F2 v89 rb2 := hs89
   have het89 := ((heb.keep e7)).tail
   refine D.on 1 rfl rfl (O.idx U22 Z50 rfl (Eq.trans s1_2 s1_1) (hsb.keep e7) rfl (by simp) (fun a86 h86 => O.nil ⟨(Ext.trans e4 e7), D.on 2 rfl rfl (O.loadG (G := entF) isAgg50 Z50 rfl h86 (O.nil ⟨(Ext.trans e4 e7), D.cast (v' := .agg #[str s.1, slv s.2.1.1, slv s.2.1.2, slv s.2.2]) rfl (D.on 5 rfl rfl (O.storeA (vs := [str s.1, slv s.2.1.1, slv s.2.1.2, slv s.2.2]) Z50 rfl s7_2 rfl (by intro u hu; simp only [List.mem_cons, List.not_mem_nil, or_false] at hu; rcases hu with rfl | rfl | rfl | rfl <;> rfl) (h7.keep e7) (leB rfl) (fun w8 hs8 e8 z8 => ?_)))⟩))⟩))
   have t1 := Ext.nr (Ext.trans e4 e7) e8
   refine O.nil ⟨t1, D.as 6 rfl t1 (D.dn ?_)⟩
   exact ⟨(Ext.nw (Ext.nw (Ext.refl _ _) e7) e8), rfl, rfl, ⟨_, _, _, _, _, _, _, _, _, _, _, (Eq.trans s0_2 s0_1), rfl, hs8, (((r0_1.keep e4).keep e7).keepA e8), (((r1_1.keep e4).keep e7).keepA e8), (hs89.keepA e8), (het89.keepA e8), ((((hcb.keep e7).keepA e8)).weak (fun j hj => by first | (have q9 := hF j hj; (try dsimp only); omega) | (have q9 := hF2 j hj; (try dsimp only); omega) | ((try dsimp only at hj); (try dsimp only); omega))), hP⟩⟩
  have ca9 := cons_ent (r0_1.keep e4) (r1_1.keep e4) (by omega) hoa hma
  obtain ⟨r, ra2, x, la2, hra, hla, hsa, hea, hca, hkxr, ⟨hoaC, hoa2⟩, ⟨hmaC, hma2⟩, hgx, hbx, hlal⟩ := ca9
  have hmid := hmaC x List.mem_cons_self
  have cb9 := cons_ent (r2_1.keep e4) (r3_1.keep e4) (by omega) hob9 hmb
  obtain ⟨s, rb2, y, lb2, hrb, hlb, hsb, heb, hcb, hkys, ⟨hobC, hob2⟩, ⟨hmbC, hmb2⟩, hgy, hby, hlbl⟩ := cb9
  have hmiy := hmbC y List.mem_cons_self
  refine C.sd fun K18 w9 e9 z9 => D.mv 0 rfl (Le.refl _) ?_
  have sp2_ := Sl.at (i := 0) (P := prog) U22 Z50 rfl (hsa.keep e9) (by simp)
  obtain ⟨a20, h20, hr20⟩ := sp2_
  refine D.t 1 rfl (Le.refl _) (fun _ _ _ hN => O.idxR (Eq.trans s0_2 s0_1) rfl hr20 (O.nil hN)) (D.t 2 rfl (Le.refl _) (fun _ _ _ hN => O.ft U50 rfl Z9 rfl (O.nil hN)) (D.t 3 rfl (Le.refl _) (fun _ hw_ _ hN => O.loadAtF (G := entF) isAgg9 rfl rfl (h20.keep hw_) (O.nil hN)) (D.cast (v' := str r.1) rfl (D.mv 4 rfl (Le.refl _) ?_))))
  have sp3_ := Sl.at (i := 0) (P := prog) U22 Z50 rfl (hsb.keep e9) (by simp)
  obtain ⟨a24, h24, hr24⟩ := sp3_
  refine D.t 5 rfl (Le.refl _) (fun _ _ _ hN => O.idxR (Eq.trans s1_2 s1_1) rfl hr24 (O.nil hN)) (D.t 6 rfl (Le.refl _) (fun _ _ _ hN => O.ft U50 rfl Z9 rfl (O.nil hN)) (D.t 7 rfl (Le.refl _) (fun _ hw_ _ hN => O.loadAtF (G := entF) isAgg9 rfl rfl (h24.keep hw_) (O.nil hN)) (D.cast (v' := str s.1) rfl (D.on 8 rfl rfl (O.call call76 (args2 rfl rfl) (strcmp_spec r.1 s.1 _) ?_)))))
  rintro v_27 w10 ⟨rfl, hw_⟩
  replace hw_ := hw_.symm
  subst hw_
  refine O.nil ⟨(Le.refl _), ?_⟩
  have sp4_ : ∃ z, z = Jn.scmp r.1 s.1 := ⟨_, rfl⟩
  obtain ⟨z, hz9⟩ := sp4_
  refine D.cast (v' := .int .i64 z) (by rw [hz9]) (D.as 9 rfl (Le.refl _) (K18 (C.sr fun K19 => O.mv (O.idx U22 Z50 rfl (Eq.trans s0_2 s0_1) (hsa.keep e9) rfl (by simp) (fun a29 h29 => O.loadG (G := entF) isAgg50 Z50 rfl h29 (O.cast (v' := .agg #[str r.1, slv r.2.1.1, slv r.2.1.2, slv r.2.2]) rfl (O.storeA (vs := [str r.1, slv r.2.1.1, slv r.2.1.2, slv r.2.2]) Z50 rfl s7_2 rfl (by intro u hu; simp only [List.mem_cons, List.not_mem_nil, or_false] at hu; rcases hu with rfl | rfl | rfl | rfl <;> rfl) (h7.keep e9) (leB rfl) (fun w10 hs10 e10 z10 => K19 (C.sq fun K20 => C.sr fun K21 => O.mv (O.gtrI rfl rfl (K21 ?_)))))))))))
  refine C.condD rfl (fun c32 => ?_) (fun c32 => ?_)
  ·
   have hzb : Jn.BL y.1 x.1 := by rw [← hkxr, ← hkys]; exact (Jn.scmp_gt _ _).1 (by omega)
   have hP : Bt.merge la lb = (s.1, y.2) :: Bt.merge (x :: la2) lb2 ∧ (Bt.Ord (x :: la2) ∧ Bt.Ord lb2) ∧ (Bt.Mid 20000 (x :: la2) ∧ Bt.Mid 20000 lb2) ∧ Cn.big y.2 ∧ (x :: la2).length + lb2.length + 1 ≤ la.length + lb.length := ⟨by rw [hla, hlb, Bt.mrg_b hzb, hkys], ⟨hoaC, hob2⟩, ⟨hmaC, hmb2⟩, hby, by rw [List.length_cons]; omega⟩
   have hcb9 := ((hcb.keep e9).keepA e10)
   refine C.region (O.mv (O.idx U22 Z50 rfl (Eq.trans s1_2 s1_1) ((hsb.keep e9).keepA e10) rfl (by simp) (fun a34 h34 => O.loadG (G := entF) isAgg50 Z50 rfl h34 (O.cast (v' := .agg #[str s.1, slv s.2.1.1, slv s.2.1.2, slv s.2.2]) rfl (O.storeA (vs := [str s.1, slv s.2.1.1, slv s.2.1.2, slv s.2.2]) Z50 rfl s7_2 rfl (by intro u hu; simp only [List.mem_cons, List.not_mem_nil, or_false] at hu; rcases hu with rfl | rfl | rfl | rfl <;> rfl) hs10 (leB rfl) (fun w11 hs11 e11 z11 => O.nil (K20 (C.sq fun K22 => C.sr fun K23 => O.mv (O.eqlI rfl rfl (K23 (C.condD rfl (fun c37 => ?_) (fun c37 => ?_))))))))))))
   ·
    have hze : x.1 = y.1 := by rw [← hkxr, ← hkys]; exact (Jn.scmp_zero _ _).1 (by omega)
    have hbj := Bt.join_big hmid hmiy (by omega) hgx hgy
    have hP : Bt.merge la lb = (r.1, Jn.join x.2 y.2) :: Bt.merge la2 lb2 ∧ (Bt.Ord la2 ∧ Bt.Ord lb2) ∧ (Bt.Mid 20000 la2 ∧ Bt.Mid 20000 lb2) ∧ Cn.big (Jn.join x.2 y.2) ∧ la2.length + lb2.length + 1 ≤ la.length + lb.length := ⟨by rw [hla, hlb, Bt.mrg_ab hze, hkxr], ⟨hoa2, hob2⟩, ⟨hma2, hmb2⟩, hbj, by omega⟩
    exfalso; omega
   refine C.skip (K22 (C.sq fun K24 => C.sr fun K25 => O.mv (O.leqI rfl rfl (K25 (C.condD rfl (fun c56 => ?_) (fun c56 => ?_))))))
   ·
    exfalso; omega
   refine C.skip (K24 (C.sr fun K26 => O.mv (O.geqI rfl rfl (K26 (C.condD rfl (fun c60 => ?_) (fun c60 => ?_))))))
   ·
    refine C.region (O.mv ?_)
    have hb62 := Sl.sub (P := prog) (1) ((s :: rb2).length) U22 Z50 (by rfl) (((hsb.keep e9).keepA e10).keepA e11) (by simp) (Nat.le_refl _)
    obtain ⟨v62, hs62, hr62⟩ := hb62
    refine O.subR (Eq.trans s1_2 s1_1) hr62 (.inr ⟨_, _, rfl, rfl⟩) (.inl ⟨rfl, rfl⟩) ?_
    rw [List.take_length] at hs62
    replace hs62 : Sl entF.enc _ F2 v62 rb2 := hs62
    have het62 := ((((heb.keep e9).keepA e10).keepA e11)).tail
    refine O.asg (O.nil ?_)
    exact ⟨(Ext.nw (Ext.nw (Ext.nw (Ext.refl _ _) e9) e10) e11), rfl, rfl, ⟨_, _, _, _, _, _, _, _, _, _, _, (Eq.trans s0_2 s0_1), rfl, hs11, (((hsa.keep e9).keepA e10).keepA e11), (((hea.keep e9).keepA e10).keepA e11), hs62, het62, (((hcb9.keepA e11)).weak (fun j hj => by first | (have q9 := hF j hj; (try dsimp only); omega) | (have q9 := hF2 j hj; (try dsimp only); omega) | ((try dsimp only at hj); (try dsimp only); omega))), hP⟩⟩
   have hza : Jn.BL x.1 y.1 := by rw [← hkxr, ← hkys]; exact (Jn.scmp_lt _ _).1 (by omega)
   have hP : Bt.merge la lb = (r.1, x.2) :: Bt.merge la2 (y :: lb2) ∧ (Bt.Ord la2 ∧ Bt.Ord (y :: lb2)) ∧ (Bt.Mid 20000 la2 ∧ Bt.Mid 20000 (y :: lb2)) ∧ Cn.big x.2 ∧ la2.length + (y :: lb2).length + 1 ≤ la.length + lb.length := ⟨by rw [hla, hlb, Bt.mrg_a hza, hkxr], ⟨hoa2, hobC⟩, ⟨hma2, hmbC⟩, hbx, by rw [List.length_cons]; omega⟩
   exfalso; omega
  have t2 := (hca.keep e9).keepA e10
  have hca9 := t2
  refine C.skip (K20 (C.sq fun K27 => C.sr fun K28 => O.mv (O.eqlI rfl rfl (K28 (C.condD rfl (fun c37 => ?_) (fun c37 => ?_))))))
  ·
   have hze : x.1 = y.1 := by rw [← hkxr, ← hkys]; exact (Jn.scmp_zero _ _).1 (by omega)
   have hbj := Bt.join_big hmid hmiy (by omega) hgx hgy
   have hP : Bt.merge la lb = (r.1, Jn.join x.2 y.2) :: Bt.merge la2 lb2 ∧ (Bt.Ord la2 ∧ Bt.Ord lb2) ∧ (Bt.Mid 20000 la2 ∧ Bt.Mid 20000 lb2) ∧ Cn.big (Jn.join x.2 y.2) ∧ la2.length + lb2.length + 1 ≤ la.length + lb.length := ⟨by rw [hla, hlb, Bt.mrg_ab hze, hkxr], ⟨hoa2, hob2⟩, ⟨hma2, hmb2⟩, hbj, by omega⟩
   refine C.sq fun K29 => C.join (fun f w f' w' => Le w w' ∧ f' 0 = f 0 ∧ f' 1 = f 1 ∧ f' 6 = f 6 ∧ f' 7 = f 7 ∧ f' 8 = f 8 ∧ ∃ (b9 : Nat) (u1 : Raw) (u2 : Raw) (u3 : Raw), f' 9 = .pointer (some ⟨b9, 0, none⟩) ∧ f' 10 = .int .i64 0 ∧ Own w' b9 47 [slv u1, slv u2, slv u3] ∧ CartAt w' (fun j => w.heap.size ≤ j ∧ j < w'.heap.size) ((u1, u2), u3) (Jn.join x.2 y.2)) ?_ ?_
   ·
    refine C.draw (by kernel_rfl) fun w12 e12 => ?_
    have z12 := e12.size
    refine D.mv 0 rfl (Le.refl _) ?_
    have sp5_ := Sl.at (i := 0) (P := prog) U22 Z50 rfl (((hsa.keep e9).keepA e10).keep e12) (by simp)
    obtain ⟨a40, h40, hr40⟩ := sp5_
    refine D.t 1 rfl (Le.refl _) (fun _ _ _ hN => O.idxR (Eq.trans s0_2 s0_1) rfl hr40 (O.nil hN)) (D.t 2 rfl (Le.refl _) (fun _ _ _ hN => O.ft U50 rfl Z47 rfl (O.nil hN)) (D.t 3 rfl (Le.refl _) (fun _ hw_ _ hN => O.loadPart (G := entF) isAgg47 Z47 (by decide) rfl (h40.keep hw_) (O.nil hN)) (D.cast (v' := .agg #[slv r.2.1.1, slv r.2.1.2, slv r.2.2]) rfl (D.mv 4 rfl (Le.refl _) ?_))))
    have sp6_ := Sl.at (i := 0) (P := prog) U22 Z50 rfl (((hsb.keep e9).keepA e10).keep e12) (by simp)
    obtain ⟨a44, h44, hr44⟩ := sp6_
    refine D.t 5 rfl (Le.refl _) (fun _ _ _ hN => O.idxR (Eq.trans s1_2 s1_1) rfl hr44 (O.nil hN)) (D.t 6 rfl (Le.refl _) (fun _ _ _ hN => O.ft U50 rfl Z47 rfl (O.nil hN)) (D.t 7 rfl (Le.refl _) (fun _ hw_ _ hN => O.loadPart (G := entF) isAgg47 Z47 (by decide) rfl (h44.keep hw_) (O.nil hN)) (D.cast (v' := .agg #[slv s.2.1.1, slv s.2.1.2, slv s.2.2]) rfl (D.many [8, 12] (by kernel_rfl) (by decide) ⟨?_, ?_, trivial⟩))))
    ·
     refine D.stepU rfl rfl ?_
     have t3 := (hcb.keep e9).keepA e10
     refine O.call call33 (args2 rfl rfl) (join_spec (slv r.2.1.1) (slv r.2.1.2) (slv r.2.2) x.2 F (slv s.2.1.1) (slv s.2.1.2) (slv s.2.2) y.2 F2 _ ((t2.keep e12)).1 ((t2.keep e12)).2.1 ((t2.keep e12)).2.2 ((t3.keep e12)).1 ((t3.keep e12)).2.1 ((t3.keep e12)).2.2 (fun j hj => by have q1 := hF j hj; omega) (fun j hj => by have q1 := hF2 j hj; omega) hgx hgy hmid.2.2.1 hmiy.2.2.1 (Bt.Mid.tall hmid.2.2.2) (Bt.Mid.tall hmiy.2.2.2) (by have := hmid.1; have := hmiy.1; omega) (by have := hmid.2.1; have := hmiy.2.1; omega) (mx.keep (Ext.trans (Ext.nr (Ext.trans (Ext.trans e_1 e4) e9) e10) e12))) ?_
     rintro v_47 w13 ⟨e13, uav47, ubv47, ucv47, rfl, hxv47, hyv47, hzv47⟩
     have z13 := e13.size
     refine O.nil ⟨e13, ?_⟩
     have sp7_ := hxv47.slv
     obtain ⟨u1, sp7_⟩ := sp7_
     subst sp7_
     have sp8_ := hyv47.slv
     obtain ⟨u2, sp8_⟩ := sp8_
     subst sp8_
     have sp9_ := hzv47.sl.slv
     obtain ⟨u3, sp9_⟩ := sp9_
     subst sp9_
     have hcj : CartAt w13 _ ((u1, u2), u3) (Jn.join x.2 y.2) := ⟨hxv47.sl, hyv47.sl, hzv47.sl⟩
     refine D.mv 9 rfl e13 (D.t 10 rfl e13 (fun _ _ _ hN => O.extract rfl rfl (O.nil hN)) (D.t 11 rfl e13 (fun _ _ _ hN => O.extract rfl rfl (O.nil hN)) (D.on 12 rfl rfl (O.alloc zeroValue47 (fun b9 w14 hb9 hz9 e14 => ?_)))))
     have z14 := e14.size
     have h9 := hz9.own
     have hl9 := h9.lt
     have t4 := Ext.trans e13 e14
     refine O.nil ⟨t4, D.on 13 rfl rfl (O.storeA (vs := [slv u1, slv u2, slv u3]) Z47 rfl rfl rfl (by intro u hu; simp only [List.mem_cons, List.not_mem_nil, or_false] at hu; rcases hu with rfl | rfl | rfl <;> rfl) h9 (leB rfl) (fun w15 hs15 e15 z15 => O.nil ⟨(Ext.nr t4 e15), D.as 14 rfl (Ext.nr t4 e15) (D.dn ?_)⟩))⟩
     exact ⟨(Ext.nr (Ext.trans (Ext.trans e12 e13) e14) e15), rfl, rfl, rfl, rfl, rfl, ⟨_, _, _, _, rfl, rfl, hs15, ((((hcj.keep e14).keepA e15)).weakA)⟩⟩
    refine D.stepU rfl rfl (O.alloc zeroValue47 (fun b9 w16 hb9 hz9 e16 => ?_))
    have z16 := e16.size
    have h9 := hz9.own
    have hl9 := h9.lt
    refine O.nil ⟨e16, D.on 8 rfl rfl ?_⟩
    have t5 := (t2.keep e12).keep e16
    have t6 := (hcb.keep e9).keepA e10
    have t7 := (t6.keep e12).keep e16
    refine O.call call33 (args2 rfl rfl) (join_spec (slv r.2.1.1) (slv r.2.1.2) (slv r.2.2) x.2 F (slv s.2.1.1) (slv s.2.1.2) (slv s.2.2) y.2 F2 _ (t5).1 (t5).2.1 (t5).2.2 (t7).1 (t7).2.1 (t7).2.2 (fun j hj => by have q1 := hF j hj; omega) (fun j hj => by have q1 := hF2 j hj; omega) hgx hgy hmid.2.2.1 hmiy.2.2.1 (Bt.Mid.tall hmid.2.2.2) (Bt.Mid.tall hmiy.2.2.2) (by have := hmid.1; have := hmiy.1; omega) (by have := hmid.2.1; have := hmiy.2.1; omega) (mx.keep (Ext.trans (Ext.trans (Ext.nr (Ext.trans (Ext.trans e_1 e4) e9) e10) e12) e16))) ?_
    rintro v_47 w17 ⟨e17, uav47, ubv47, ucv47, rfl, hxv47, hyv47, hzv47⟩
    have z17 := e17.size
    have t8 := Ext.trans e16 e17
    refine O.nil ⟨t8, ?_⟩
    have sp10_ := hxv47.slv
    obtain ⟨u1, sp10_⟩ := sp10_
    subst sp10_
    have sp11_ := hyv47.slv
    obtain ⟨u2, sp11_⟩ := sp11_
    subst sp11_
    have sp12_ := hzv47.sl.slv
    obtain ⟨u3, sp12_⟩ := sp12_
    subst sp12_
    have hcj : CartAt w17 _ ((u1, u2), u3) (Jn.join x.2 y.2) := ⟨hxv47.sl, hyv47.sl, hzv47.sl⟩
    refine D.mv 9 rfl t8 (D.t 10 rfl t8 (fun _ _ _ hN => O.extract rfl rfl (O.nil hN)) (D.t 11 rfl t8 (fun _ _ _ hN => O.extract rfl rfl (O.nil hN)) (D.on 13 rfl rfl (O.storeA (vs := [slv u1, slv u2, slv u3]) Z47 rfl rfl rfl (by intro u hu; simp only [List.mem_cons, List.not_mem_nil, or_false] at hu; rcases hu with rfl | rfl | rfl <;> rfl) (h9.keep e17) (leB rfl) (fun w18 hs18 e18 z18 => O.nil ⟨(Ext.nr t8 e18), D.as 14 rfl (Ext.nr t8 e18) (D.dn ?_)⟩)))))
    exact ⟨(Ext.nr (Ext.trans (Ext.trans e12 e16) e17) e18), rfl, rfl, rfl, rfl, rfl, ⟨_, _, _, _, rfl, rfl, hs18, (((hcj.keepA e18)).weakA)⟩⟩
   rintro f_3 w19 ⟨e_3, s0_3, s1_3, s6_3, s7_3, s8_3, ⟨b9, u1, u2, u3, s9_3, s10_3, q0_3, q1_3⟩⟩
   have z_3 := e_3.size
   refine K29 (C.sq fun K30 => C.sr fun K31 => O.mv (O.neqI s10_3 rfl (O.cast (v' := .bool false) (congrArg Value.bool (by exact decide_eq_false (by decide))) (K31 (C.condF rfl (C.skip (K30 (C.region (O.loadOA isAgg47 Z47 s9_3 q0_3 (leB rfl) (O.fa U50 rfl Z47 (Eq.trans s7_3 s7_2) (O.storeA (vs := [slv u1, slv u2, slv u3]) Z47 rfl rfl rfl (by intro u hu; simp only [List.mem_cons, List.not_mem_nil, or_false] at hu; rcases hu with rfl | rfl | rfl <;> rfl) (hs10.keep e_3) (leB rfl) (fun w20 hs20 e20 z20 => O.nil (K27 (C.sq fun K32 => C.sr fun K33 => O.mv (O.leqI s8_3 rfl (K33 (C.condD rfl (fun c56 => ?_) (fun c56 => ?_))))))))))))))))))
   ·
    refine C.region (O.mv ?_)
    have hb58 := Sl.sub (P := prog) (1) ((r :: ra2).length) U22 Z50 (by rfl) ((((hsa.keep e9).keepA e10).keep e_3).keepA e20) (by simp) (Nat.le_refl _)
    obtain ⟨v58, hs58, hr58⟩ := hb58
    refine O.subR (Eq.trans s0_3 (Eq.trans s0_2 s0_1)) hr58 (.inr ⟨_, _, rfl, rfl⟩) (.inl ⟨rfl, rfl⟩) ?_
    rw [List.take_length] at hs58
    replace hs58 : Sl entF.enc _ F v58 ra2 := hs58
    have het58 := (((((hea.keep e9).keepA e10).keep e_3).keepA e20)).tail
    refine O.asg (O.nil (K32 (C.sr fun K34 => O.mv (O.geqI s8_3 rfl (K34 (C.condD rfl (fun c60 => ?_) (fun c60 => ?_)))))))
    ·
     refine C.region (O.mv ?_)
     have hb62 := Sl.sub (P := prog) (1) ((s :: rb2).length) U22 Z50 (by rfl) ((((hsb.keep e9).keepA e10).keep e_3).keepA e20) (by simp) (Nat.le_refl _)
     obtain ⟨v62, hs62, hr62⟩ := hb62
     refine O.subR (Eq.trans s1_3 (Eq.trans s1_2 s1_1)) hr62 (.inr ⟨_, _, rfl, rfl⟩) (.inl ⟨rfl, rfl⟩) ?_
     rw [List.take_length] at hs62
     replace hs62 : Sl entF.enc _ F2 v62 rb2 := hs62
     have het62 := (((((heb.keep e9).keepA e10).keep e_3).keepA e20)).tail
     refine O.asg (O.nil ?_)
     exact ⟨(Ext.nw (Ext.nw (Ext.nw (Ext.nw (Ext.refl _ _) e9) e10) e_3) e20), s6_3, s7_3, ⟨_, _, _, _, _, _, _, _, _, _, _, rfl, rfl, hs20, hs58, het58, hs62, het62, (((q1_3.keepA e20)).weak (fun j hj => by first | (have q9 := hF j hj; (try dsimp only); omega) | (have q9 := hF2 j hj; (try dsimp only); omega) | ((try dsimp only at hj); (try dsimp only); omega))), hP⟩⟩
    have hza : Jn.BL x.1 y.1 := by rw [← hkxr, ← hkys]; exact (Jn.scmp_lt _ _).1 (by omega)
    have hP : Bt.merge la lb = (r.1, x.2) :: Bt.merge la2 (y :: lb2) ∧ (Bt.Ord la2 ∧ Bt.Ord (y :: lb2)) ∧ (Bt.Mid 20000 la2 ∧ Bt.Mid 20000 (y :: lb2)) ∧ Cn.big x.2 ∧ la2.length + (y :: lb2).length + 1 ≤ la.length + lb.length := ⟨by rw [hla, hlb, Bt.mrg_a hza, hkxr], ⟨hoa2, hobC⟩, ⟨hma2, hmbC⟩, hbx, by rw [List.length_cons]; omega⟩
    exfalso; omega
   exfalso; omega
  refine C.skip (K27 (C.sq fun K35 => C.sr fun K36 => O.mv (O.leqI rfl rfl (K36 (C.condD rfl (fun c56 => ?_) (fun c56 => ?_))))))
  ·
   refine C.region (O.mv ?_)
   have hb58 := Sl.sub (P := prog) (1) ((r :: ra2).length) U22 Z50 (by rfl) ((hsa.keep e9).keepA e10) (by simp) (Nat.le_refl _)
   obtain ⟨v58, hs58, hr58⟩ := hb58
   refine O.subR (Eq.trans s0_2 s0_1) hr58 (.inr ⟨_, _, rfl, rfl⟩) (.inl ⟨rfl, rfl⟩) ?_
   rw [List.take_length] at hs58
   replace hs58 : Sl entF.enc _ F v58 ra2 := hs58
   have het58 := (((hea.keep e9).keepA e10)).tail
   refine O.asg (O.nil (K35 (C.sr fun K37 => O.mv (O.geqI rfl rfl (K37 (C.condD rfl (fun c60 => ?_) (fun c60 => ?_)))))))
   ·
    exfalso; omega
   have hza : Jn.BL x.1 y.1 := by rw [← hkxr, ← hkys]; exact (Jn.scmp_lt _ _).1 (by omega)
   have hP : Bt.merge la lb = (r.1, x.2) :: Bt.merge la2 (y :: lb2) ∧ (Bt.Ord la2 ∧ Bt.Ord (y :: lb2)) ∧ (Bt.Mid 20000 la2 ∧ Bt.Mid 20000 (y :: lb2)) ∧ Cn.big x.2 ∧ la2.length + (y :: lb2).length + 1 ≤ la.length + lb.length := ⟨by rw [hla, hlb, Bt.mrg_a hza, hkxr], ⟨hoa2, hobC⟩, ⟨hma2, hmbC⟩, hbx, by rw [List.length_cons]; omega⟩
   refine C.skip ?_
   exact ⟨(Ext.nw (Ext.nw (Ext.refl _ _) e9) e10), rfl, rfl, ⟨_, _, _, _, _, _, _, _, _, _, _, rfl, (Eq.trans s1_2 s1_1), hs10, hs58, het58, ((hsb.keep e9).keepA e10), ((heb.keep e9).keepA e10), ((hca9).weak (fun j hj => by first | (have q9 := hF j hj; (try dsimp only); omega) | (have q9 := hF2 j hj; (try dsimp only); omega) | ((try dsimp only at hj); (try dsimp only); omega))), hP⟩⟩
  exfalso; omega
 rintro f_4 w21 ⟨e_4, s6_4, s7_4, ⟨va3, vb3, ra3, rb3, la3, lb3, ck, q1, q2, q3, cc, s0_4, s1_4, q0_4, q1_4, q2_4, q3_4, q4_4, q5_4, q6_4⟩⟩
 have z_4 := e_4.size
 obtain ⟨hmg2, ho3, hm3, hbc, hlen3⟩ := q6_4
 have sp13_ : ∃ n, n = w21.heap.size := ⟨_, rfl⟩
 obtain ⟨w0_, hw0_⟩ := sp13_
 have hl7w := (q0_4).lt
 refine K13 (K12 (C.sr fun K38 => O.fa U50 rfl Z47 (Eq.trans s7_4 s7_2) (O.loadOA isAgg47 Z47 rfl q0_4 (leB rfl) (O.call call77 (args1 rfl) (ccopy_spec (slv q1) (slv q2) (slv q3) cc _ _ (q5_4).1 (q5_4).2.1 (q5_4).2.2 hbc.2.2.1 (fun x hx => (hbc.2.2.2 x hx).2) hbc.1 hbc.2.1) ?_))))
 rintro v_92 w22 ⟨e22, uav92, ubv92, ucv92, rfl, hxv92, hyv92, hzv92⟩
 have z22 := e22.size
 have sp14_ := hxv92.slv
 obtain ⟨c1, sp14_⟩ := sp14_
 subst sp14_
 have sp15_ := hyv92.slv
 obtain ⟨c2, sp15_⟩ := sp15_
 subst sp15_
 have sp16_ := hzv92.sl.slv
 obtain ⟨c3, sp16_⟩ := sp16_
 subst sp16_
 have sp17_ : ∃ n, n = w22.heap.size := ⟨_, rfl⟩
 obtain ⟨wa, hwa⟩ := sp17_
 have hcf : CartF 112 117 114 w22 (fun j => w0_ ≤ j ∧ j < wa) ((c1, c2), c3) cc := ⟨hxv92.weakA, hyv92.weakA, hzv92.weakA⟩
 refine O.fa U50 rfl Z47 (Eq.trans s7_4 s7_2) (O.storeA (vs := [slv c1, slv c2, slv c3]) Z47 rfl rfl rfl (by intro u hu; simp only [List.mem_cons, List.not_mem_nil, or_false] at hu; rcases hu with rfl | rfl | rfl <;> rfl) (q0_4.keep e22) (leB rfl) (fun w23 hs23 e23 z23 => K38 (C.region (O.mv (O.loadOA isAgg50 Z50 (Eq.trans s7_4 s7_2) hs23 (leB rfl) (O.litG (G := entF) [(ck, (c1, c2), c3)] U22 ti50 ts50 tz50 rfl (by decide) (by decide) rfl (fun b96 w24 hb96 hz96 e24 => ?_)))))))
 have z24 := e24.size
 have h96 := hz96.own
 have hq96 := Sl.litG (n := 1) h96 rfl (by unfold maxLen; omega)
 have t9 := (r4_1.keep e4).keepA e_4
 have t10 := (t9.keep e22).keepA e23
 refine O.appG (G := entF) U22 ti50 tz50 ts50 rfl (Eq.trans s6_4 (Eq.trans s6_2 s6_1)) rfl (t10.keep e24) hq96 (by rw [tb50]; simp; omega) (by unfold maxLen; simp; omega) (fun v97 gg97 w25 h97 hg97 e25 hw97 => ?_)
 have e25m := e25.mono (M' := fun k => k = _) (fun k _ hk => (t10.keep e24).2.1 k hk)
 have z25 := e25.size
 have hgl97 := h97.2.2
 have hob97 : ∀ k, bk v97 k → n9 ≤ k := fun k hk => by
  rcases hw97 k hk with q | q
  ·exact hob k q
  ·omega
 have hg97 : n9 ≤ gg97 := hob97 _ (h97.bk (by simp))
 have hgg97 := (hw97 _ (h97.bk (by simp))).imp (hogu _) id
 refine O.asg (O.nil (K10 ?_))
 refine ⟨(va3, vb3, ra3, rb3, la3, lb3, v97, gg97, raw3 ++ [(ck, (c1, c2), c3)], done ++ [(ck, cc)], wa), ⟨s0_4, s1_4, rfl, (Ext.new (Ext.trans (Ext.new (Ext.trans (Ext.new (Ext.trans e_1 e4) e_4 (by intro i hi h; (try dsimp only at h); omega)) e22) e23 (by intro i hi h; (try dsimp only at h); omega)) e24) e25 (by intro i hi h; have := hob i h; omega)), ((((q1_4.keep e22).keepM e23 (by intro j hj h; first | (have q1 := hF j hj; (try dsimp only at h); omega) | (have q1 := hF2 j hj; (try dsimp only at h); omega) | ((try dsimp only at hj); (try dsimp only at h); omega))).keep e24).keepM e25 (by intro j hj h; have q2 := hob j h; have q3 := hogu j h; first | (have q1 := hF j hj; omega) | (have q1 := hF2 j hj; omega) | ((try dsimp only at hj); omega))), ((((q2_4.keep e22).keepM e23 (by intro j hj h; first | (have q1 := hF j hj; (try dsimp only at h); omega) | (have q1 := hF2 j hj; (try dsimp only at h); omega) | ((try dsimp only at hj); (try dsimp only at h); omega))).keep e24).keepM e25 (by intro j hj h; have q2 := hob j h; have q3 := hogu j h; first | (have q1 := hF j hj; omega) | (have q1 := hF2 j hj; omega) | ((try dsimp only at hj); omega))), ((((q3_4.keep e22).keepM e23 (by intro j hj h; first | (have q1 := hF j hj; (try dsimp only at h); omega) | (have q1 := hF2 j hj; (try dsimp only at h); omega) | ((try dsimp only at hj); (try dsimp only at h); omega))).keep e24).keepM e25 (by intro j hj h; have q2 := hob j h; have q3 := hogu j h; first | (have q1 := hF j hj; omega) | (have q1 := hF2 j hj; omega) | ((try dsimp only at hj); omega))), ((((q4_4.keep e22).keepM e23 (by intro j hj h; first | (have q1 := hF j hj; (try dsimp only at h); omega) | (have q1 := hF2 j hj; (try dsimp only at h); omega) | ((try dsimp only at hj); (try dsimp only at h); omega))).keep e24).keepM e25 (by intro j hj h; have q2 := hob j h; have q3 := hogu j h; first | (have q1 := hF j hj; omega) | (have q1 := hF2 j hj; omega) | ((try dsimp only at hj); omega))), h97, (((((((((r5_1.keep e4).keepM e_4 (by intro k hG h1 h2 h; (try dsimp only at h); omega)).keep e22).keepM e23 (by intro k hG h1 h2 h; (try dsimp only at h); omega)).keep e24).keepM e25 (by intro k hG h1 h2 h; exact hG (hogu k h)))).weak (fun j h1 h2 h3 => by (try dsimp only); omega)).snoc (x := (ck, cc)) (hi' := wa) (by omega) rfl (((((hcf.keepM e23 (by intro j hj h; first | (have q1 := hF j hj; (try dsimp only at h); omega) | (have q1 := hF2 j hj; (try dsimp only at h); omega) | ((try dsimp only at hj); (try dsimp only at h); omega))).keep e24).keepM e25 (by intro j hj h; have q2 := hob j h; have q3 := hogu j h; first | (have q1 := hF j hj; omega) | (have q1 := hF2 j hj; omega) | ((try dsimp only at hj); omega)))).weakA)), ?_⟩, by show la3.length + lb3.length < la.length + lb.length; omega⟩
 exact ⟨by rw [hmg, hmg2, List.append_assoc]; rfl, ho3, hm3, hob97, by omega, by rw [List.length_append, List.length_singleton]; omega⟩
theorem strings2_spec (v0 : Value) (d : List Jn.Name) (F : Nat → Prop) (v1 : Value) (d2 : List Jn.Name) (F2 : Nat → Prop) (w : World) (hs : Sl strF.enc w F v0 d) (hs2 : Sl strF.enc w F2 v1 d2) :
 Ret prog 86 #[v0, v1] w (fun v w' => v = .bool (decide (d = d2)) ∧ Le w w') := by
 have hrl := hs.le
 have hrl2 := hs2.le
 refine enT [v0, v1] 26 func86 rfl rfl (C.sr fun K1 => O.asg (K1 (C.sq fun K2 => C.sr fun K3 => O.mv (O.len U69 rfl hs (O.mv (O.len U69 rfl hs2 (O.neqI rfl rfl (K3 (C.condD rfl (fun c10 => ?_) (fun c10 => ?_))))))))))
 ·
  refine C.sr fun K4 => O.asg (K4 (C.ret (Outs.one rfl rfl ?_)))
  first
  | exact ⟨congrArg Value.bool (decide_eq_false (fun h => by rw [h] at c10; omega)).symm, (Le.refl _)⟩
  | exact ⟨congrArg Value.bool (decide_eq_false (fun h => by subst h; exact c25 rfl)).symm, (Le.refl _)⟩
  | exact ⟨congrArg Value.bool (decide_eq_true (List.ext_getElem (by omega) (fun i h1 h2 => hI i h1 h2 (by omega)))).symm, (Le.refl _)⟩
 refine C.skip (K2 (C.sq fun K5 => C.sr fun K6 => O.asg (K6 (C.bl fun K7 => C.loop0 (σ := Nat) (fun f0 w0 k f w => f 5 = .int .i64 ((k : Int)) ∧ f 0 = f0 0 ∧ f 1 = f0 1 ∧ Le w0 w ∧ k ≤ d.length ∧ (∀ i, ∀ h : i < d.length, ∀ h2 : i < d2.length, i < k → d[i] = d2[i])) (fun k => d.length - k) 0 ?_ ?_))))
 ·
  refine ⟨rfl, rfl, rfl, Le.refl _, ?_⟩
  exact ⟨Nat.zero_le _, fun i h h2 k => absurd k (Nat.not_lt_zero _)⟩
 rintro k f_1 w1 ⟨s5_1, s0_1, s1_1, e_1, ⟨hk, hI⟩⟩
 have z_1 := e_1.size
 refine C.sq fun K8 => C.sr fun K9 => O.mv (O.mv (O.len U69 s0_1 (hs.keep e_1) (O.lssI s5_1 rfl (K9 (C.condD rfl (fun c14 => ?_) (fun c14 => ?_))))))
 ·
  have hk2 : k < d.length := by omega
  have hk3 : k < d2.length := by omega
  refine C.skip (K8 (C.sq fun K10 => C.bl fun K11 => C.sd fun K12 w2 e2 z2 => D.mv 0 rfl (Le.refl _) (D.mv 1 rfl (Le.refl _) ?_)))
  have sp1_ := Sl.at (i := (k : Int)) (P := prog) U69 Z9 rfl ((hs.keep e_1).keep e2) (by omega)
  obtain ⟨a19, h19, hr19⟩ := sp1_
  refine D.t 2 rfl (Le.refl _) (fun _ _ _ hN => O.idxR s0_1 s5_1 hr19 (O.nil hN)) (D.t 3 rfl (Le.refl _) (fun _ hw_ _ hN => O.load1F (G := strF) isAgg9 rfl rfl rfl (h19.keep hw_) (O.nil hN)) (D.mv 4 rfl (Le.refl _) (D.mv 5 rfl (Le.refl _) ?_)))
  have sp2_ := Sl.at (i := (k : Int)) (P := prog) U69 Z9 rfl ((hs2.keep e_1).keep e2) (by omega)
  obtain ⟨a23, h23, hr23⟩ := sp2_
  refine D.t 6 rfl (Le.refl _) (fun _ _ _ hN => O.idxR s1_1 s5_1 hr23 (O.nil hN)) (D.t 7 rfl (Le.refl _) (fun _ hw_ _ hN => O.load1F (G := strF) isAgg9 rfl rfl rfl (h23.keep hw_) (O.nil hN)) (D.t 8 rfl (Le.refl _) (fun _ _ _ hN => O.neqS rfl rfl (O.nil hN)) (K12 (C.condD rfl (fun c25 => ?_) (fun c25 => ?_)))))
  ·
   refine C.sr fun K13 => O.asg (K13 (C.ret (Outs.one rfl rfl ?_)))
   first
   | exact ⟨congrArg Value.bool (decide_eq_false (fun h => by rw [h] at c10; omega)).symm, (Ext.trans e_1 e2)⟩
   | exact ⟨congrArg Value.bool (decide_eq_false (fun h => by subst h; exact c25 rfl)).symm, (Ext.trans e_1 e2)⟩
   | exact ⟨congrArg Value.bool (decide_eq_true (List.ext_getElem (by omega) (fun i h1 h2 => hI i h1 h2 (by omega)))).symm, (Ext.trans e_1 e2)⟩
  refine C.skip (K11 (K10 (C.region (O.mv (O.addI s5_1 rfl (by unfold InI; omega) (O.asg (O.nil (⟨k + 1, ⟨rfl, s0_1, s1_1, (Ext.trans e_1 e2), ?_⟩, by first | omega | (simp only []; omega)⟩))))))))
  refine ⟨by omega, fun i hi hi2 hik => ?_⟩
  rcases Nat.lt_or_eq_of_le (Nat.le_of_lt_succ hik) with h | rfl
  ·exact hI i hi hi2 h
  ·simpa using c25
 refine C.exit (K7 (K5 (C.sr fun K14 => O.asg (K14 (C.ret (Outs.one rfl rfl ?_))))))
 first
 | exact ⟨congrArg Value.bool (decide_eq_false (fun h => by rw [h] at c10; omega)).symm, e_1⟩
 | exact ⟨congrArg Value.bool (decide_eq_false (fun h => by subst h; exact c25 rfl)).symm, e_1⟩
 | exact ⟨congrArg Value.bool (decide_eq_true (List.ext_getElem (by omega) (fun i h1 h2 => hI i h1 h2 (by omega)))).symm, e_1⟩
theorem cloneE_spec (v0 : Value) (l : List (EntR)) (F : Nat → Prop) (w : World) (hl : Sl entF.enc w F v0 l) (hn : l.length ≤ 1000000000000) :
 Ret prog 91 #[v0] w (fun v w' => Le w w' ∧ OwnF entF 50 w.heap.size w' v l) := by
 have hle := hl.le
 obtain ⟨ie50, ti50, ts50, tb50, tz50⟩ := inf50
 refine enT [v0] 8 func91 rfl rfl (C.sr fun K1 => O.asg (K1 (C.sq fun K2 => C.sr fun K3 => O.mv (O.eqlNilS U22 rfl hl (K3 (C.cond rfl (fun c4 => ?_) (fun c4 => ?_)))))))
 ·
  refine C.sr fun K4 => O.asg (K4 (C.ret (Outs.one rfl rfl ?_)))
  first
  | (obtain rfl := isNilS_nil hl c4
     exact ⟨(Le.refl _), OwnF.nil _ _ _ _⟩)
  | exact ⟨(Le.refl _), {app:7}⟩
 refine C.skip (K2 (C.sr fun K5 => O.lit0 U22 ti50 (fun b5 w1 hb5 hz5 e1 => ?_)))
 have z1 := e1.size
 have hl5 := hz5.own.lt
 have h1005 : OwnF entF 50 w.heap.size w1 _ [] := OwnF.lit0 hz5 hb5
 refine O.mv (O.appF (G := entF) U22 ti50 tz50 ts50 rfl rfl rfl h1005 (hl.keep e1) (by rw [tb50]; simp; omega) (by unfold maxLen; simp; omega) (by omega) (fun v7 w2 h7 e2 => ?_))
 have z2 := e2.size
 have h7s := h7.sl
 refine O.asg (K5 (C.ret (Outs.one rfl rfl ?_)))
 first
 | (obtain rfl := isNilS_nil hl c4
    exact ⟨(Ext.new e1 e2 (by intro i hi h; have := h1005.bk_ge i h; omega)), OwnF.nil _ _ _ _⟩)
 | exact ⟨(Ext.new e1 e2 (by intro i hi h; have := h1005.bk_ge i h; omega)), h7⟩
theorem cloneS_spec (v0 : Value) (l : List (List UInt8)) (F : Nat → Prop) (w : World) (hl : Sl strF.enc w F v0 l) (hn : l.length ≤ 1000000000000) :
 Ret prog 92 #[v0] w (fun v w' => Le w w' ∧ OwnF strF 9 w.heap.size w' v l) := by
 have hle := hl.le
 obtain ⟨ie9, ti9, ts9, tb9, tz9⟩ := inf9
 refine enT [v0] 8 func92 rfl rfl (C.sr fun K1 => O.asg (K1 (C.sq fun K2 => C.sr fun K3 => O.mv (O.eqlNilS U69 rfl hl (K3 (C.cond rfl (fun c4 => ?_) (fun c4 => ?_)))))))
 ·
  refine C.sr fun K4 => O.asg (K4 (C.ret (Outs.one rfl rfl ?_)))
  first
  | (obtain rfl := isNilS_nil hl c4
     exact ⟨(Le.refl _), OwnF.nil _ _ _ _⟩)
  | exact ⟨(Le.refl _), {app:7}⟩
 refine C.skip (K2 (C.sr fun K5 => O.lit0 U69 ti9 (fun b5 w1 hb5 hz5 e1 => ?_)))
 have z1 := e1.size
 have hl5 := hz5.own.lt
 have h1005 : OwnF strF 9 w.heap.size w1 _ [] := OwnF.lit0 hz5 hb5
 refine O.mv (O.appF (G := strF) U69 ti9 tz9 ts9 rfl rfl rfl h1005 (hl.keep e1) (by rw [tb9]; simp; omega) (by unfold maxLen; simp; omega) (by omega) (fun v7 w2 h7 e2 => ?_))
 have z2 := e2.size
 have h7s := h7.sl
 refine O.asg (K5 (C.ret (Outs.one rfl rfl ?_)))
 first
 | (obtain rfl := isNilS_nil hl c4
    exact ⟨(Ext.new e1 e2 (by intro i hi h; have := h1005.bk_ge i h; omega)), OwnF.nil _ _ _ _⟩)
 | exact ⟨(Ext.new e1 e2 (by intro i hi h; have := h1005.bk_ge i h; omega)), h7⟩
theorem none_spec (b : Nat) (n : Int) (l : List EntT) (d : List Jn.Name) (uo ud us : Value) (lo hi : Nat) (w : World) (hob : OB 50 112 117 114 71 9 w b n l d uo ud us lo hi) (hn0 : n ≠ 0) :
 Ret prog 87 #[.pointer (some ⟨b, 0, none⟩)] w (fun v w' => v = .bool false ∧ w' = w) := by
 refine enT [.pointer (some ⟨b, 0, none⟩)] 12 func87 rfl rfl (C.sr fun K1 => O.asg (K1 (C.sr fun K2 => O.mv (O.eqlP0 U68 rfl (O.mv (O.yes rfl rfl (O.mv (O.yes rfl rfl (O.nilChk rfl (O.yes rfl rfl (O.fa U71 rfl Z3 rfl (O.yes rfl rfl (O.loadO isAgg3 rfl hob.own rfl (O.yes rfl rfl (O.eqlI rfl rfl (O.cast (v' := .bool false) (congrArg Value.bool (by exact decide_eq_false hn0)) (O.pickF rfl (O.asg (K2 (C.ret (Outs.one rfl rfl ?_)))))))))))))))))))))
 exact ⟨rfl, rfl⟩
theorem newOk_spec (n : Int) (w : World) (h1 : 1 ≤ n) (h2 : n ≤ 256) :
 Ret prog 45 #[.int .i64 (n)] w (fun v w' => ∃ b, v = .tuple #[.pointer (some ⟨b, 0, none⟩), .int .i64 0] ∧ w.heap.size ≤ b ∧ Own w' b 71 [.int .i64 n, .slice none 0 0, .slice none 0 0] ∧ Le w w') := by
 refine enT [.int .i64 (n)] 13 func45 rfl rfl (C.sr fun K1 => O.asg (O.asg (K1 (C.sq fun K2 => C.sr fun K3 => O.mv (O.lssI rfl rfl (O.cast (v' := .bool false) (congrArg Value.bool (by exact decide_eq_false (by omega))) (O.mv (O.yes rfl rfl (O.mv (O.yes rfl rfl (O.gtrI rfl rfl (O.cast (v' := .bool false) (congrArg Value.bool (by exact decide_eq_false (by omega))) (O.pickF rfl (K3 (C.condF rfl (C.skip (K2 (C.sr fun K4 => O.mv (O.build (cells := #[.int .i64 n, .slice none 0 0, .slice none 0 0]) rfl (by kernel_rfl) (O.box rfl (fun b12 w1 hb12 hz12 e1 => ?_)))))))))))))))))))))
 have z1 := e1.size
 have h12 := hz12.own
 have hl12 := h12.lt
 refine O.asg (O.asg (K4 (C.ret (Outs.two rfl rfl rfl ?_))))
 exact ⟨b12, rfl, by omega, h12, e1⟩
theorem newNo_spec (n : Int) (w : World) (h1 : n < 1 ∨ n > 256) :
 Ret prog 45 #[.int .i64 (n)] w (fun v w' => v = .tuple #[.pointer none, .int .i64 2] ∧ w' = w) := by
 refine enT [.int .i64 (n)] 13 func45 rfl rfl (C.sr fun K1 => O.asg (O.asg (K1 (C.sq fun K2 => C.sr fun K3 => O.mv (O.lssI rfl rfl (O.mv (O.cut 3 (fun f f' => f' 9 = .bool (decide (n < 1 ∨ n > 256)) ∧ f' 0 = f 0 ∧ f' 2 = f 2 ∧ f' 3 = f 3) ?_ ?_)))))))
 ·
  refine O.splitD (x := .tmp 6) rfl (fun c6 => ?_) (fun c6 => ?_)
  ·
   refine O.no rfl (noB (isT rfl c6) rfl) (O.no rfl (noB (isT rfl c6) rfl) (O.pickT (isT rfl c6) (O.nil (⟨⟨?_, rfl, rfl, rfl⟩, rfl⟩))))
   exact dJ rfl
  refine O.yes rfl (isF rfl c6) (O.mv (O.yes rfl (isF rfl c6) (O.gtrI rfl rfl (O.pickF (isF rfl c6) (O.nil (⟨⟨?_, rfl, rfl, rfl⟩, rfl⟩))))))
  exact dJ rfl
 rintro f_1 ⟨s9_1, s0_1, s2_1, s3_1⟩
 refine K3 (C.condD s9_1 (fun c9 => ?_) (fun c9 => ?_))
 ·
  refine C.sr fun K4 => O.asg (O.asg (K4 (C.ret (Outs.two rfl rfl rfl ?_))))
  exact ⟨rfl, rfl⟩
 exact absurd h1 c9
theorem oDirty_spec (b : Nat) (n : Int) (l : List EntT) (d : List Jn.Name) (uo ud us : Value) (lo hi : Nat) (w : World) (hob : OB 50 112 117 114 71 9 w b n l d uo ud us lo hi) (hn0 : n ≠ 0) (hdn : d.length ≤ 1000000) :
 Ret prog 43 #[.pointer (some ⟨b, 0, none⟩)] w (fun v w' => Le w w' ∧ OwnF strF 9 w.heap.size w' v d) := by
 have hob9 := hob
 have hse9 := hob.ents.clips hob.clip
 obtain ⟨raw, hr, he⟩ := hse9
 have hus := hob.keys.sl
 have hl := he.1
 have hrl := hr.le
 have hdl := hus.le
 have hbl := hob.own.lt
 have hF : ∀ j, (lo ≤ j ∧ j < hi) → j < w.heap.size := fun j hj => by have := hob.top; omega
 have hF2 : ∀ j, bk us j → j < w.heap.size := fun j hj => (hob.keys.bk_ge j hj).2
 refine enT [.pointer (some ⟨b, 0, none⟩)] 10 func43 rfl rfl (C.sr fun K1 => O.asg (K1 (C.sq fun K2 => C.sr fun K3 => O.mv (O.call call87 (args1 rfl) (none_spec b n l d uo ud us lo hi _ hob hn0) ?_))))
 rintro v_4 w1 ⟨rfl, hw_⟩
 replace hw_ := hw_.symm
 subst hw_
 refine K3 (C.condF rfl (C.skip (K2 (C.sr fun K4 => O.mv (O.nilChk rfl (O.fa U71 rfl Z69 rfl (O.loadO isAgg69 rfl hob.own rfl (O.call call92 (args1 rfl) (cloneS_spec _ _ _ _ hus (by omega)) ?_))))))))
 rintro v_9 w1 ⟨e1, h9⟩
 have z1 := e1.size
 refine O.asg (K4 (C.ret (Outs.one rfl rfl ?_)))
 exact ⟨e1, h9⟩
theorem oDeltas_spec (b : Nat) (n : Int) (l : List EntT) (d : List Jn.Name) (uo ud us : Value) (lo hi : Nat) (w : World) (hob : OB 50 112 117 114 71 9 w b n l d uo ud us lo hi) (hn0 : n ≠ 0) (hB : Bt.Big l) (hn : l.length ≤ 1000000) :
 Ret prog 42 #[.pointer (some ⟨b, 0, none⟩)] w (fun v w' => Le w w' ∧ SlE 50 112 117 114 w' w.heap.size w'.heap.size v l) := by
 have hob9 := hob
 have hse9 := hob.ents.clips hob.clip
 obtain ⟨raw, hr, he⟩ := hse9
 have hus := hob.keys.sl
 have hl := he.1
 have hrl := hr.le
 have hdl := hus.le
 have hbl := hob.own.lt
 have hF : ∀ j, (lo ≤ j ∧ j < hi) → j < w.heap.size := fun j hj => by have := hob.top; omega
 have hF2 : ∀ j, bk us j → j < w.heap.size := fun j hj => (hob.keys.bk_ge j hj).2
 refine enT [.pointer (some ⟨b, 0, none⟩)] 29 func42 rfl rfl (C.sr fun K1 => O.asg (K1 (C.sq fun K2 => C.sr fun K3 => O.mv (O.call call87 (args1 rfl) (none_spec b n l d uo ud us lo hi _ hob hn0) ?_))))
 rintro v_6 w1 ⟨rfl, hw_⟩
 replace hw_ := hw_.symm
 subst hw_
 refine K3 (C.condF rfl (C.skip (K2 (C.sr fun K4 => O.mv (O.nilChk rfl (O.fa U71 rfl Z22 rfl (O.loadO isAgg22 rfl hob.own rfl (O.call call91 (args1 rfl) (cloneE_spec _ _ _ _ hr (by omega)) ?_))))))))
 rintro v_11 w1 ⟨e1, h11⟩
 have z1 := e1.size
 have hobk0 := h11.bk_ge
 have sp1_ : ∃ n, n = w1.heap.size := ⟨_, rfl⟩
 obtain ⟨n0, hn0z⟩ := sp1_
 rw [← hn0z] at hobk0
 have hobk : ∀ j, bk v_11 j → w.heap.size ≤ j ∧ j < n0 := hobk0
 have h11s := h11.sl
 refine O.asg (K4 (C.sq fun K5 => C.sr fun K6 => O.mv (O.len U22 rfl h11s (O.mv (K6 (C.bl fun K7 => C.loop0 (σ := Nat × List EntR × Nat) (fun f0 w0 ⟨k, rr, hz⟩ f wz => f 14 = .int .i64 ((k : Int)) ∧ f 2 = f0 2 ∧ f 3 = f0 3 ∧ f 13 = f0 13 ∧ Le w wz ∧ OwnF entF 50 w.heap.size wz v_11 rr ∧ EntsD 112 117 114 wz (fun j => ¬ bk v_11 j) n0 hz (rr.take k) (l.take k) ∧ (k ≤ l.length ∧ rr.length = l.length ∧ hz ≤ wz.heap.size ∧ n0 ≤ hz) ∧ (∀ j, ∀ h : j < rr.length, ∀ h2 : j < raw.length, k ≤ j → rr[j] = raw[j])) (fun ⟨k, rr, hz⟩ => l.length - k) (0, raw, n0) ?_ ?_))))))
 ·
  refine ⟨rfl, rfl, rfl, rfl, e1, h11, (EntsD.nil (Nat.le_refl _)), ?_⟩
  exact ⟨⟨Nat.zero_le _, hl, by omega, Nat.le_refl _⟩, fun _ _ _ _ => rfl⟩
 rintro ⟨k, rr, hz⟩ f_1 w2 ⟨s14_1, s2_1, s3_1, s13_1, e_1, r0_1, r1_1, ⟨⟨hk, hrrl, hhz, hnz⟩, hsm⟩⟩
 have z_1 := e_1.size
 have r0_1s := r0_1.sl
 have hsv := (r0_1).sl
 refine C.sr fun K8 => O.lssI s14_1 s13_1 (K8 (C.sq fun K9 => C.condD rfl (fun c15 => ?_) (fun c15 => ?_)))
 ·
  have hk2 : k < l.length := by omega
  have hk9r : k < raw.length := by have q9 := ((he.keep e_1)).1; omega
  have hk8r : k < l.length := by have q9 := ((he.keep e_1)).1; omega
  have sp2_ : ∃ q : EntR, q = raw[k] := ⟨_, rfl⟩
  obtain ⟨r, hrr⟩ := sp2_
  have sp3_ : ∃ q : EntT, q = l[k] := ⟨_, rfl⟩
  obtain ⟨x, hxr⟩ := sp3_
  have t0 := ((he.keep e_1)).2 k hk9r hk8r
  have hkxr : r.1 = x.1 := by rw [hrr, hxr]; exact t0.1
  have hca : CartAt w2 (fun j => lo ≤ j ∧ j < hi) r.2 x.2 := by rw [hrr, hxr]; exact t0.2
  have hri : rr[k] = r := by rw [hrr]; exact hsm k (by omega) (by omega) (Nat.le_refl _)
  have hmxr : x ∈ l := by rw [hxr]; exact List.getElem_mem _
  have hbr := hB x hmxr
  refine C.skip (K9 (C.sq fun K10 => C.bl fun K11 => C.sr fun K12 => O.mv (O.asg (K12 (C.region (O.mv (O.mv (O.mv (O.mv (O.idx U22 Z50 rfl s3_1 hsv s14_1 (by omega) (fun a21 h21 => O.ft U50 rfl Z47 rfl (O.loadPart (G := entF) isAgg47 Z47 (by decide) rfl h21 (O.cast (v' := .agg #[slv r.2.1.1, slv r.2.1.2, slv r.2.2]) (by rw [← hri]; rfl) (O.call call77 (args1 rfl) (ccopy_spec (slv r.2.1.1) (slv r.2.1.2) (slv r.2.2) x.2 (fun j => lo ≤ j ∧ j < hi) _ (hca).1 (hca).2.1 (hca).2.2 hbr.2.2.2.1 (fun y hy => (hbr.2.2.2.2 y hy).2) hbr.2.1 hbr.2.2.1) ?_))))))))))))))
  rintro v_24 w3 ⟨e3, uav24, ubv24, ucv24, rfl, hxv24, hyv24, hzv24⟩
  have z3 := e3.size
  have sp4_ := hxv24.slv
  obtain ⟨u1, hu1⟩ := sp4_
  have sp5_ := hyv24.slv
  obtain ⟨u2, hu2⟩ := sp5_
  have sp6_ := hzv24.sl.slv
  obtain ⟨u3, hu3⟩ := sp6_
  subst hu1 hu2 hu3
  have hcn : CartF 112 117 114 w3 (fun j => ¬ bk v_11 j ∧ hz ≤ j ∧ j < w3.heap.size) ((u1, u2), u3) x.2 := by
   exact ⟨hxv24.weak (fun j hj => ⟨fun q => by have := hobk j q; have := hj.1; omega, by have := hj.1; omega, hj.2⟩), hyv24.weak (fun j hj => ⟨fun q => by have := hobk j q; have := hj.1; omega, by have := hj.1; omega, hj.2⟩), hzv24.weak (fun j hj => ⟨fun q => by have := hobk j q; have := hj.1; omega, by have := hj.1; omega, hj.2⟩)⟩
  have sp7_ : ∃ n, n = w3.heap.size := ⟨_, rfl⟩
  obtain ⟨hz2, hhz2⟩ := sp7_
  rw [← hhz2] at hcn
  have sp8_ := OwnF.ptr (r0_1.keep e3) (by omega)
  obtain ⟨g25, cap25, hv25⟩ := sp8_
  have ho25 := (r0_1.keep e3)
  rw [hv25] at ho25
  refine O.idxO U22 Z50 (Eq.trans s3_1 hv25) s14_1 (by omega) (O.fa U50 rfl Z47 rfl (O.storeP (G := entF) (i := k) (off := 1) (vs := [slv u1, slv u2, slv u3]) (((rr[k]'(by omega)).1, ((u1, u2), u3))) (by simp [entF]) Z47 rfl rfl rfl (by intro u hu; simp only [List.mem_cons, List.not_mem_nil, or_false] at hu; rcases hu with rfl | rfl | rfl <;> rfl) ho25 (by omega) (Nat.le_refl _) rfl (fun w4 hs4 e4 z4 => ?_)))
  rw [← hv25] at hs4
  have hsm2 : ∀ j, ∀ h : j < (rr.set k (rr[k].1, ((u1, u2), u3))).length, ∀ h2 : j < raw.length, k + 1 ≤ j → (rr.set k (rr[k].1, ((u1, u2), u3)))[j] = raw[j] := fun j h h2 h3 => by
   rw [List.getElem_set_ne (by omega)]
   exact hsm j (by rw [List.length_set] at h; omega) h2 (by omega)
  have hen2 : EntsD 112 117 114 w4 (fun j => ¬ bk v_11 j) n0 hz2 ((rr.set k (rr[k].1, ((u1, u2), u3))).take (k + 1)) (l.take (k + 1)) := by
   rw [List.take_succ_eq_append_getElem (by rw [List.length_set]; omega), List.take_succ_eq_append_getElem hk2, List.getElem_set_self, List.take_set_of_le (Nat.le_refl _), ← hxr]
   exact (((r1_1.keep e3).keepM e4 (by intro k hk _ _ h; exact hk (by rw [hv25]; exact h)))).snoc (by omega) (by rw [hri]; exact hkxr) (hcn.keepM e4 (by intro k hk h; have h0 : k = g25 := h; have q1 := hobk g25 (by rw [hv25]; rfl); (try dsimp only at hk); omega))
  refine O.nil (K11 (K10 (C.region (O.addI s14_1 rfl (by unfold InI; omega) (O.mv (O.nil (⟨(k + 1, rr.set k ((rr[k]'(by omega)).1, ((u1, u2), u3)), hz2), ⟨rfl, s2_1, s3_1, s13_1, (Ext.new (Ext.trans e_1 e3) e4 (by intro i hi h; have h0 : i = g25 := h; have q1 := hobk g25 (by rw [hv25]; rfl); omega)), hs4, hen2, ?_⟩, by first | omega | (simp only []; omega)⟩)))))))
  exact ⟨⟨by omega, by rw [List.length_set]; exact hrrl, by omega, by omega⟩, hsm2⟩
 refine C.exit (K7 (K5 (C.sr fun K13 => O.mv (O.asg (K13 (C.ret (Outs.one rfl s3_1 ?_)))))))
 have hk9 : k = l.length := by omega
 have q := r1_1
 rw [List.take_of_length_le (by omega), List.take_of_length_le (by omega)] at q
 exact ⟨e_1, rr, (r0_1).fre (fun j hj => by have := hobk j hj; (try dsimp only); omega), q.wide (by omega) (by omega)⟩
end Go.Proofs.YtpbcafkcfobngaaGreatDoor
end
section
namespace Go.Proofs
open Go.Shelf
def Tryz.insS_ren : Go.Shelf.Ren := ⟨fun | 22 => 90 | 29 => 139 | 30 => 140 | 36 => 197 | 17 => 249 | n => n, fun | 24 => 69 | 9 => 9 | 3 => 3 | 4 => 4 | 0 => 0 | n => n, fun | n => n⟩
theorem Tryz.insS : Go.Proofs.Lays2.n22 Tryz.prog Tryz.insS_ren := {
 mixed := by kernel_rfl
 f17 := Tryz.func249.trans (congrArg some (by kernel_rfl))
 f22 := Tryz.func90.trans (congrArg some (by kernel_rfl))
 f29 := Tryz.func139.trans (congrArg some (by kernel_rfl))
 f30 := Tryz.func140.trans (congrArg some (by kernel_rfl))
 f36 := Tryz.func197.trans (congrArg some (by kernel_rfl))
 t0 := Tryz.underlying0
 a0 := Tryz.isAgg0
 z0 := Tryz.sizeOf0
 v0 := Tryz.zeroValue0
 t3 := U3
 a3 := Tryz.isAgg3
 z3 := Z3
 v3 := Tryz.zeroValue3
 t4 := Tryz.underlying4
 a4 := Tryz.isAgg4
 z4 := Tryz.sizeOf4
 v4 := Tryz.zeroValue4
 t9 := U9
 a9 := Tryz.isAgg9
 z9 := Z9
 v9 := Tryz.zeroValue9
 t24 := U69
 a24 := Tryz.isAgg69
 z24 := Z69
 v24 := Tryz.zeroValue69
 i9 := by kernel_rfl }
end Go.Proofs
end
section
namespace Go.Pn
open Go.RowKit
theorem setCells_own0 {w : World} {b : Nat} {ty : TypeId} {cs : List Value} (vs : List Value) (o : Nat) (h : Own0 w b ty cs) (hl : o + vs.length ≤ cs.length) (h1 : ∀ v ∈ vs, v.oneCell' = true) :
 Own0 (w.setCells b o vs) b ty (cs.take o ++ vs ++ cs.drop (o + vs.length)) ∧ Ext (fun k => k = b) w (w.setCells b o vs) := by
 obtain ⟨w', hr, ho, he, _⟩ := run_storeCells_own0 (P := (default : Program)) vs o 0 cs w h (by omega) h1
 have hr2 := run_storeCells_cells (P := (default : Program)) b o vs 0 w (fun j hj => by
  rw [h.own.cell (i := o + 0 + j) (v := cs[o + 0 + j]'(by omega)) (by simp)]; rfl) (fun j hj => h.own.free (by omega)) h1
 rw [hr2] at hr
 have e : w.setCells b (o + 0) vs = w' := by injection hr
 rw [Nat.add_zero] at e ho
 rw [e]
 exact ⟨ho, he⟩
theorem map_str (xs : List (List UInt8)) : xs.flatMap strF.e = xs.map str := by
 induction xs with
 | nil => rfl
 | cons x xs ih => rw [List.flatMap_cons, ih]; rfl
theorem ownF_row {w : World} {g cap : Nat} {ty : TypeId} {L : List Value} {xs : List (List UInt8)} (h : Own0 w g ty L) (hl : L.length = cap) (hn : xs.length ≤ cap) (hc : cap ≤ maxLen) (ht : L.take xs.length = xs.map str) : OwnF strF ty 0 w (.slice (some ⟨g, 0, none⟩) xs.length cap) xs := by
 refine ⟨⟨by rw [map_str, List.length_map]; exact (Nat.mul_one _).symm, .inr ⟨g, cap, L.toArray, rfl, Nat.zero_le _, h, hn, hc, ?_, ?_⟩⟩, by omega⟩
 ·rw [List.size_toArray, hl]; exact (Nat.mul_one _).symm
 ·rw [map_str]; show L.toArray.toList.take (xs.length * 1) = _; rw [Nat.mul_one]; exact ht
theorem ownF_parts {w : World} {ty : TypeId} {v : Value} {xs : List (List UInt8)} (h : OwnF strF ty 0 w v xs) : (v = .slice none 0 0 ∧ xs = []) ∨ ∃ g cap L, v = .slice (some ⟨g, 0, none⟩) xs.length cap ∧ Own0 w g ty L ∧ L.length = cap ∧ xs.length ≤ cap ∧ cap ≤ maxLen ∧ L.take xs.length = xs.map str := by
 rcases h.1.2 with ⟨h1, h2⟩ | ⟨g, cap, cur, h1, _, hg, hn, hc, hs, ht⟩
 ·exact .inl ⟨h1, List.eq_nil_of_length_eq_zero h2⟩
 ·refine .inr ⟨g, cap, cur.toList, h1, hg, ?_, hn, hc, ?_⟩
  ·rw [Array.length_toList, hs]; exact Nat.mul_one _
  ·rw [map_str] at ht; rw [← ht]; exact congrArg (fun q => cur.toList.take q) (Nat.mul_one _).symm
theorem ins_a {α : Type} {L cs : List α} {x : α} {i n : Nat} (hcs : L.take n = cs) (hi : i ≤ n) (hn : n + 1 ≤ L.length) : ((L.take (i + 1) ++ cs.drop i ++ L.drop (i + 1 + (n - i))).take i ++ [x] ++ (L.take (i + 1) ++ cs.drop i ++ L.drop (i + 1 + (n - i))).drop (i + 1)).take (n + 1) = cs.take i ++ x :: cs.drop i := by
 have hcl : cs.length = n := by rw [← hcs, List.length_take]; omega
 have e1 : (L.take (i + 1) ++ cs.drop i ++ L.drop (i + 1 + (n - i))).take i = cs.take i := by
  rw [List.append_assoc, List.take_append_of_le_length (by rw [List.length_take]; omega), List.take_take, ← hcs, List.take_take]
  congr 1; omega
 have e2 : (L.take (i + 1) ++ cs.drop i ++ L.drop (i + 1 + (n - i))).drop (i + 1) = cs.drop i ++ L.drop (i + 1 + (n - i)) := by
  rw [List.append_assoc]
  exact List.drop_left' (by rw [List.length_take]; omega)
 rw [e1, e2, show cs.take i ++ [x] ++ (cs.drop i ++ L.drop (i + 1 + (n - i))) = (cs.take i ++ x :: cs.drop i) ++ L.drop (i + 1 + (n - i)) by simp]
 exact List.take_left' (by simp; omega)
theorem ins_b {α : Type} {A cs : List α} {x : α} {i n : Nat} (ha : A.take i = cs.take i) (hcl : cs.length = n) (hi : i ≤ n) : ((A.take i ++ [x] ++ A.drop (i + 1)).take (i + 1) ++ cs.drop i ++ (A.take i ++ [x] ++ A.drop (i + 1)).drop (i + 1 + (cs.drop i).length)).take (n + 1) = cs.take i ++ x :: cs.drop i := by
 have e1 : (A.take i ++ [x] ++ A.drop (i + 1)).take (i + 1) = cs.take i ++ [x] := by
  rw [ha]
  exact List.take_left' (by simp; omega)
 rw [e1, show cs.take i ++ [x] ++ cs.drop i = cs.take i ++ x :: cs.drop i by simp]
 exact List.take_left' (by simp; omega)
theorem Le.ext_trans {M : Nat → Prop} {w w' w'' : World} (e : Le w w') (e' : Ext M w' w'') : Ext M w w'' := Ext.trans (Le.to e) e'
end Go.Pn
namespace Go.Proofs.YtpbcafkcfobngaaGreatDoor
open Go.Pn Go.RowKit Go.Proofs
theorem ins_spec (us : Value) (d : List (List UInt8)) (i : Nat) (k : List UInt8) (vb : Nat) (w : World) (h : OwnF strF 9 0 w us d) (hi : i ≤ d.length) (hv : Own0 w vb 9 [str k]) (hvb : ∀ j, bk us j → j ≠ vb) (hd : d.length ≤ 1000000) :
 Ret Tryz.prog 90 #[us, .int .i64 (i : Int), .slice (some ⟨vb, 0, none⟩) 1 1] w (fun v w' => OwnF strF 9 0 w' v (d.take i ++ k :: d.drop i) ∧ Ext (bk us) w w' ∧ ∀ j, bk v j → bk us j ∨ w.heap.size ≤ j) := by
 have hlen : (d.take i ++ k :: d.drop i).length = d.length + 1 := by simp; omega
 have hmap : (d.take i ++ k :: d.drop i).map str = (d.map str).take i ++ str k :: (d.map str).drop i := by rw [List.map_append, List.map_cons, List.map_take, List.map_drop]
 have hvs : ∀ j v, [str k][j]? = some v → w.cell? ⟨vb, 0 + j, none⟩ = some v := fun j v hj => by rw [Nat.zero_add]; exact hv.own.cell hj
 have h1v : ∀ v ∈ [str k], v.oneCell' = true := fun v hv => by rw [List.mem_singleton.1 hv]; rfl
 have h1c : ∀ v ∈ d.map str, v.oneCell' = true := fun v hv => by obtain ⟨x, _, rfl⟩ := List.mem_map.1 hv; rfl
 have hcl : (d.map str).length = d.length := List.length_map _
 have hgc : ∀ c, d.length + 1 ≤ grownCap w (d.length + 1) c 9 := fun c => grownCap_ge w (d.length + 1) c 9
 have hgm : ∀ c, grownCap w (d.length + 1) c 9 ≤ maxLen := fun c => grownCap_le_maxLen w (d.length + 1) c 9 (by unfold maxLen; omega)
 -- a new row, all of it
 have new : ∀ c, i = d.length → ∀ w', w' = w.drew.alloc (.cells ((d.map str ++ [str k]).toArray ++ Builtin.zeroCells (Value.string ⟨#[]⟩).cells (grownCap w (d.length + 1) c 9 - (d.length + 1))) 9) →
  OwnF strF 9 0 w' (.slice (some ⟨w.heap.size, 0, none⟩) (d.length + 1) (grownCap w (d.length + 1) c 9)) (d.take i ++ k :: d.drop i) ∧ Le w w' := by
  intro c hin w' hw'
  subst hw'
  refine ⟨?_, (Le.drew w).trans (Le.alloc _ _)⟩
  have ho := Own0.new w.drew 9 ((d.map str ++ [str k]).toArray ++ Builtin.zeroCells (Value.string ⟨#[]⟩).cells (grownCap w (d.length + 1) c 9 - (d.length + 1))).toList
  rw [Array.toArray_toList] at ho
  have := ownF_row (xs := d.take i ++ k :: d.drop i) (cap := grownCap w (d.length + 1) c 9) ho (by simp only [Array.toList_append, List.length_append, Array.length_toList, size_zeroCells, List.length_map, List.length_cons, List.length_nil]; have := hgc c; show d.length + (0 + 1) + _ * 1 = _; omega) (by rw [hlen]; exact hgc c) (hgm c) (by
   rw [hlen, hmap, hin, Array.toList_append]
   rw [List.take_append_of_le_length (by simp), List.take_of_length_le (by simp), List.take_of_length_le (by simp), List.drop_of_length_le (by simp)])
  rw [hlen] at this
  exact this
 rcases ownF_parts h with ⟨hus, hd0⟩ | ⟨g, cap, L, hus, hg, hL, hn, hc, ht⟩
 ·subst hd0
  have hi0 : i = 0 := by simpa using hi
  subst hus
  refine Ret.of (Any2.slices_Insert_string_end_grow Tryz.insS none 0 0 vb 0 1 1 [] [str k] w (by omega) (by omega) (by omega) (by omega) rfl rfl (fun _ => rfl) (fun a ha => by cases ha) hvs h1v |> (fun q => by rw [hi0]; exact q)) ?_
  rintro e w' ⟨rfl, hw'⟩
  have := new 0 (by rw [hi0]; rfl) w' hw'
  exact ⟨_, rfl, this.1, this.2.mono (fun _ _ q => q.elim), fun j hj => .inr (by have : j = w.heap.size := hj; omega)⟩
 ·subst hus
  have hcell : ∀ j v, (d.map str)[j]? = some v → w.cell? ⟨g, 0 + j, none⟩ = some v := fun j v hj => by
   rw [← ht, List.getElem?_take] at hj
   split at hj
   ·rw [Nat.zero_add]; exact hg.own.cell hj
   ·cases hj
  have hbk : ∀ j, bk (.slice (some ⟨g, 0, none⟩) d.length cap) j ↔ j = g := fun j => Iff.rfl
  have hng : vb ≠ g := fun q => hvb g rfl q.symm
  by_cases hin : i = d.length
  ·by_cases hroom : d.length + 1 ≤ cap
   ·refine Ret.of (Any2.slices_Insert_string_end_room Tryz.insS g 0 d.length cap vb 0 1 1 [str k] w (by omega) hroom (by unfold maxLen at hc; omega) rfl (fun j hj => by
     rw [hg.own.cell (i := 0 + d.length + j) (v := L[0 + d.length + j]'(by omega)) (by simp)]; rfl) (fun j hj => hg.own.free (by omega)) hvs h1v |> (fun q => by rw [hin]; exact q)) ?_
    rintro e w' ⟨rfl, rfl⟩
    obtain ⟨o1, e1⟩ := setCells_own0 [str k] (0 + d.length) hg (by show 0 + d.length + 1 ≤ _; omega) h1v
    refine ⟨_, rfl, ?_, e1, fun j hj => .inl hj⟩
    have := ownF_row (xs := d.take i ++ k :: d.drop i) (cap := cap) o1 (by simp; omega) (by omega) hc (by
     have e8 : (d.map str).take d.length = d.map str := List.take_of_length_le (by rw [hcl]; exact Nat.le_refl _)
     have e9 : (d.map str).drop d.length = [] := List.drop_of_length_le (by rw [hcl]; exact Nat.le_refl _)
     rw [hlen, hmap, hin, Nat.zero_add, ht, e8, e9]
     exact List.take_left' (by simp))
    rw [hlen] at this
    exact this
   ·refine Ret.of (Any2.slices_Insert_string_end_grow Tryz.insS (some ⟨g, 0, none⟩) d.length cap vb 0 1 1 (d.map str) [str k] w (by omega) hn (by omega) (by omega) hcl rfl (fun q => by cases q) (fun a ha j v hj => by cases ha; rw [Addr.add_lit]; exact hcell j v hj) hvs h1v |> (fun q => by rw [hin]; exact q)) ?_
    rintro e w' ⟨rfl, hw'⟩
    have := new cap hin w' hw'
    exact ⟨_, rfl, this.1, this.2.mono (fun _ _ q => q.elim), fun j hj => .inr (by have : j = w.heap.size := hj; omega)⟩
  ·have hil : i < d.length := by omega
   by_cases hroom : d.length + 1 ≤ cap
   ·have hsh : ∀ (b : Nat) (cs : List Value), Own0 w b 9 cs → w.shape? b = some (9, cs.length) := fun b cs q => by unfold World.shape?; rw [q]; rfl
    refine Ret.of (Any2.slices_Insert_string_shift Tryz.insS g 0 d.length cap i vb 0 1 1 (d.map str) [str k] w hil (by omega) hroom (by unfold maxLen at hc; omega) hng hcl rfl hcell (fun j hj => by
     rw [hg.own.cell (i := 0 + j) (v := L[0 + j]'(by omega)) (by simp)]; rfl) (fun j hj => hg.own.free (by omega)) hvs h1c h1v 9 9 1 L.length (hsh vb _ hv) (hsh g L hg) (by omega) (hv.own.free (by simp)) (by unfold World.frozen?; rw [hv]; rfl)) ?_
    rintro e w' ⟨rfl, rfl⟩
    have hdl : ((d.map str).drop i).length = d.length - i := by rw [List.length_drop, hcl]
    obtain ⟨o1, e1⟩ := setCells_own0 ((d.map str).drop i) (0 + (i + 1)) (hg.keep (Le.drew w)) (by rw [hdl]; omega) (fun v hv => h1c v (List.mem_of_mem_drop hv))
    obtain ⟨o2, e2⟩ := setCells_own0 [str k] (0 + i) o1 (by simp; omega) h1v
    refine ⟨_, rfl, ?_, (Le.drew w).ext_trans (Ext.trans e1 e2), fun j hj => .inl hj⟩
    have := ownF_row (xs := d.take i ++ k :: d.drop i) (cap := cap) o2 (by simp; omega) (by omega) hc (by
     rw [hlen, hmap, hdl, Nat.zero_add, Nat.zero_add]
     exact ins_a ht (by omega) (by omega))
    rw [hlen] at this
    exact this
   ·refine Ret.of (Any2.slices_Insert_string_grow Tryz.insS g 0 d.length cap i vb 0 1 1 (d.map str) [str k] w hil (by omega) hn (by omega) (by omega) hcl rfl hcell hvs h1c h1v) ?_
    rintro e w' ⟨rfl, hw'⟩
    have hdl : ((d.map str).drop i).length = d.length - i := by rw [List.length_drop, hcl]
    have ho := Own0.new w 9 (((d.map str).take i).toArray ++ Builtin.zeroCells (Value.string ⟨#[]⟩).cells (d.length + 1 - i) ++ Builtin.zeroCells (Value.string ⟨#[]⟩).cells (grownCap w (d.length + 1) cap 9 - (d.length + 1))).toList
    rw [Array.toArray_toList] at ho
    have hle := Le.alloc w (Obj.cells (((d.map str).take i).toArray ++ Builtin.zeroCells (Value.string ⟨#[]⟩).cells (d.length + 1 - i) ++ Builtin.zeroCells (Value.string ⟨#[]⟩).cells (grownCap w (d.length + 1) cap 9 - (d.length + 1))) 9)
    obtain ⟨A, hA⟩ : ∃ A, A = (((d.map str).take i).toArray ++ Builtin.zeroCells (Value.string ⟨#[]⟩).cells (d.length + 1 - i) ++ Builtin.zeroCells (Value.string ⟨#[]⟩).cells (grownCap w (d.length + 1) cap 9 - (d.length + 1))) := ⟨_, rfl⟩
    have hw2 : w' = (((w.alloc (.cells A 9)).drew.setCells w.heap.size i [str k]).drew).setCells w.heap.size (i + 1) ((d.map str).drop i) := by rw [hA]; exact hw'
    rw [← hA] at ho hle
    have hAl : A.toList.length = grownCap w (d.length + 1) cap 9 := by
     have := hgc cap
     rw [hA, Array.length_toList]
     simp only [Array.size_append, size_zeroCells, List.size_toArray, List.length_take, hcl]
     show min i d.length + _ * 1 + _ * 1 = _
     omega
    have hAt : A.toList.take i = (d.map str).take i := by
     rw [hA, Array.toList_append, Array.toList_append, List.append_assoc]
     exact List.take_left' (by rw [List.length_take, hcl]; omega)
    have := hgc cap
    obtain ⟨o1, e1⟩ := setCells_own0 [str k] i (ho.keep (Le.drew _)) (by rw [hAl]; show i + 1 ≤ _; omega) h1v
    obtain ⟨o2, e2⟩ := setCells_own0 ((d.map str).drop i) (i + 1) (o1.keep (Le.drew _)) (by simp; rw [Array.length_toList] at hAl; omega) (fun v hv => h1c v (List.mem_of_mem_drop hv))
    rw [← hw2] at o2 e2
    refine ⟨_, rfl, ?_, ?_, fun j hj => .inr (by have : j = w.heap.size := hj; omega)⟩
    ·have := ownF_row (xs := d.take i ++ k :: d.drop i) (cap := grownCap w (d.length + 1) cap 9) o2 (by simp; rw [Array.length_toList] at hAl; omega) (by omega) (hgm cap) (by
      rw [hlen, hmap]
      exact ins_b hAt hcl (by omega))
     rw [hlen] at this
     exact this
    ·have h9 := Ext.trans ((Le.drew _).ext_trans e1) ((Le.drew _).ext_trans e2)
     exact Ext.mono (Ext.new hle h9 (by intro j hj q; have : j = w.heap.size := q; omega)) (fun _ _ q => q.elim)
end Go.Proofs.YtpbcafkcfobngaaGreatDoor
end
section
namespace Go.Proofs.YtpbcafkcfobngaaGreatDoor
open Go.Pn Go.RowKit Go.Proofs _root_.Go.Proofs.Tryz
attribute [local irreducible] O C D
theorem oPut_spec (b : Nat) (n : Int) (l : List EntT) (d : List Jn.Name) (uo ud us : Value) (lo hi : Nat) (k : List UInt8) (q : (Raw × Raw) × Raw) (c : CartT) (F9 : Nat → Prop) (w : World) (hob : OB 50 112 117 114 71 9 w b n l d uo ud us lo hi) (hn0 : n ≠ 0) (hc : CartAt w F9 q c) (hF9 : ∀ j, F9 j → j < w.heap.size) (hlo : Bt.Ord l) (hdo : d.Pairwise Jn.BL) (hB : Bt.Big l) (hM : Bt.Mid 20000 l) (hB2 : Bt.Big [(k, c)]) (hM2 : Bt.Mid 20000 [(k, c)]) (hln : l.length ≤ 10000) (hdn : d.length ≤ 10000) (mx : Mx w) :
 Ret prog 40 #[.pointer (some ⟨b, 0, none⟩), str (k), .agg #[slv q.1.1, slv q.1.2, slv q.2]] w (fun v w' => ∃ (e : Int) (l' : List EntT) (d' : List Jn.Name) (uo' ud' us' : Value) (lo' hi' : Nat), v = .int .i64 e ∧ Ob.PutR n l d k c l' d' e ∧ OB 50 112 117 114 71 9 w' b n l' d' uo' ud' us' lo' hi' ∧ Ext (fun j => j = b ∨ bk us j) w w' ∧ ∀ j, OS b us' lo' hi' j → OS b us lo hi j ∨ w.heap.size ≤ j) := by
 have hob9 := hob
 have hse9 := hob.ents.clips hob.clip
 obtain ⟨raw, hr, he⟩ := hse9
 have hus := hob.keys.sl
 have hl := he.1
 have hrl := hr.le
 have hdl := hus.le
 have hbl := hob.own.lt
 have hF : ∀ j, (lo ≤ j ∧ j < hi) → j < w.heap.size := fun j hj => by have := hob.top; omega
 have hF2 : ∀ j, bk us j → j < w.heap.size := fun j hj => (hob.keys.bk_ge j hj).2
 obtain ⟨ie50, ti50, ts50, tb50, tz50⟩ := inf50
 obtain ⟨ie9, ti9, ts9, tb9, tz9⟩ := inf9
 have hgl := mx.lt
 have hbc := hB2 _ (List.mem_singleton.2 rfl)
 refine enT [.pointer (some ⟨b, 0, none⟩), str (k), .agg #[slv q.1.1, slv q.1.2, slv q.2]] 86 func40 rfl rfl (C.sr fun K1 => O.box (v := .agg #[slv q.1.1, slv q.1.2, slv q.2]) rfl (fun b5 w1 hb5 hz5 e1 => ?_))
 have z1 := e1.size
 have h5 := hz5.own
 have hl5 := h5.lt
 refine O.asg (K1 (C.sq fun K2 => C.sr fun K3 => O.mv (O.call call87 (args1 rfl) (none_spec b n l d uo ud us lo hi _ (hob.keep e1) hn0) ?_)))
 rintro v_14 w2 ⟨rfl, hw_⟩
 replace hw_ := hw_.symm
 subst hw_
 refine K3 (C.condF rfl (C.skip (K2 (C.sq fun K4 => C.sr fun K5 => O.mv (O.call call60 (args1 rfl) (okKey_spec k _ hbc.1) ?_)))))
 rintro v_16 w2 ⟨rfl, e2⟩
 have z2 := e2.size
 refine O.not rfl (O.mv (O.split (x := .tmp 18) rfl (fun c18 => ?_) (fun c18 => ?_)))
 ·
  refine O.no rfl (noB (isT' rfl c18) rfl) (O.no rfl (noB (isT' rfl c18) rfl) (O.no rfl (noB (isT' rfl c18) rfl) (O.pickT (isT' rfl c18) (K5 (C.condT rfl (C.sr fun K6 => O.asg (K6 (C.ret (Outs.one rfl rfl ?_)))))))))
  first
  | exact ⟨2, l, d, uo, ud, us, lo, hi, rfl, .inr ⟨Bt.okE_no1 (by simpa using c18), rfl, rfl, rfl⟩, ((hob.keep e1).keep e2), (Ext.new (Ext.new (Ext.refl _ _) e1 (by intro i hi hk; first | exact hk.elim | exact .inl hk | exact .inr hk | exact hk)) e2 (by intro i hi hk; first | exact hk.elim | exact .inl hk | exact .inr hk | exact hk)), fun j hj => .inl hj⟩
  | exact ⟨2, l, d, uo, ud, us, lo, hi, rfl, .inr ⟨Bt.okE_no2 (by simpa using c22), rfl, rfl, rfl⟩, ((hob.keep e1).keep e2), (Ext.new (Ext.new (Ext.refl _ _) e1 (by intro i hi hk; first | exact hk.elim | exact .inl hk | exact .inr hk | exact hk)) e2 (by intro i hi hk; first | exact hk.elim | exact .inl hk | exact .inr hk | exact hk)), fun j hj => .inl hj⟩
  | exact ⟨0, l, d, uo, ud, us, lo, hi, rfl, .inl ⟨hok, rfl, Ob.put_marked hnd⟩, ((hob.keep e1).keep e2), (Ext.new (Ext.new (Ext.refl _ _) e1 (by intro i hi hk; first | exact hk.elim | exact .inl hk | exact .inr hk | exact hk)) e2 (by intro i hi hk; first | exact hk.elim | exact .inl hk | exact .inr hk | exact hk)), fun j hj => .inl hj⟩
  | (have hks : OwnF strF 9 0 w2 v_64 (Jn.nins k d) := by
      rw [← hAv29.nins hdo hnd]
      exact hv64.keepM (by assumption) (fun j hj h => by have h0 : j = b := h; rcases hbv64 j hj with g | g; exact (hob9.ne j g).1 h0; omega)
     exact ⟨0, l, Jn.nins k d, uo, ud, v_64, lo, hi, rfl, .inl ⟨hok, rfl, Ob.put_new hnd (by simpa using c44) (by omega)⟩, ⟨((hob.own.keep e1).keep e2), hob.clip, ((hob.ents.keep e1).keep e2), hks, by have := hob.top; omega, hob.out, fun j hj => by rcases hbv64 j hj with g | g; exact hob9.ne j g; have := hob.top; omega⟩, (Ext.new (Ext.new (Ext.refl _ _) e1 (by intro i hi hk; first | exact hk.elim | exact .inl hk | exact .inr hk | exact hk)) e2 (by intro i hi hk; first | exact hk.elim | exact .inl hk | exact .inr hk | exact hk)), fun j hj => by
      rcases hj with g | g | g
      ·exact .inl (.inl g)
      ·rcases hbv64 j g with g | g
       ·exact .inl (.inr (.inl g))
       ·exact .inr (by omega)
      ·exact .inl (.inr (.inr g))⟩)
  | exact ⟨0, Bt.merge l [(k, c)], d, uov76, uv76, us, _, _, rfl, .inl ⟨hok, rfl, Ob.put_merge hnd (by first | exact .inl (by simpa using c44) | exact .inr (by omega))⟩, ⟨((hob.own.keep e1).keep e2), hkv76, hq76.2 ▸ hv76.keepM (by assumption) (fun j h1 h2 h => by have h0 : j = b := h; omega), ((hob.keys.keep e1).keep e2), by omega, .inl (by omega), fun j hj => ⟨(hob9.ne j hj).1, .inl (by have := hF2 j hj; omega)⟩⟩, (Ext.new (Ext.new (Ext.refl _ _) e1 (by intro i hi hk; first | exact hk.elim | exact .inl hk | exact .inr hk | exact hk)) e2 (by intro i hi hk; first | exact hk.elim | exact .inl hk | exact .inr hk | exact hk)), fun j hj => by
     rcases hj with g | g | g
     ·exact .inl (.inl g)
     ·exact .inl (.inr (.inl g))
     ·exact .inr (by omega)⟩
 refine O.yes rfl (isF' rfl c18) (O.loadOA isAgg47 Z47 rfl (h5.keep e2) (leB rfl) (O.yes rfl (isF' rfl c18) ?_))
 have t0 := (hc.keep e1).keep e2
 have t1 := (mx.keep e1).keep e2
 refine O.call call61 (args1 rfl) (cartValid_spec (slv q.1.1) (slv q.1.2) (slv q.2) c F9 _ (t0).1 (t0).2.1 (t0).2.2 (fun j hj => by have := hF9 j hj; omega) hbc.2.2.2.1 hbc.2.2.2.2 t1) ?_
 rintro v_20 w3 ⟨rfl, e3⟩
 have z3 := e3.size
 refine O.yes rfl (isF' rfl c18) (O.not rfl (O.pickF (isF' rfl c18) (K5 (C.cond rfl (fun c22 => ?_) (fun c22 => ?_)))))
 ·
  refine C.sr fun K7 => O.asg (K7 (C.ret (Outs.one rfl rfl ?_)))
  first
  | exact ⟨2, l, d, uo, ud, us, lo, hi, rfl, .inr ⟨Bt.okE_no1 (by simpa using c18), rfl, rfl, rfl⟩, (((hob.keep e1).keep e2).keep e3), (Ext.new (Ext.new (Ext.new (Ext.refl _ _) e1 (by intro i hi hk; first | exact hk.elim | exact .inl hk | exact .inr hk | exact hk)) e2 (by intro i hi hk; first | exact hk.elim | exact .inl hk | exact .inr hk | exact hk)) e3 (by intro i hi hk; first | exact hk.elim | exact .inl hk | exact .inr hk | exact hk)), fun j hj => .inl hj⟩
  | exact ⟨2, l, d, uo, ud, us, lo, hi, rfl, .inr ⟨Bt.okE_no2 (by simpa using c22), rfl, rfl, rfl⟩, (((hob.keep e1).keep e2).keep e3), (Ext.new (Ext.new (Ext.new (Ext.refl _ _) e1 (by intro i hi hk; first | exact hk.elim | exact .inl hk | exact .inr hk | exact hk)) e2 (by intro i hi hk; first | exact hk.elim | exact .inl hk | exact .inr hk | exact hk)) e3 (by intro i hi hk; first | exact hk.elim | exact .inl hk | exact .inr hk | exact hk)), fun j hj => .inl hj⟩
  | exact ⟨0, l, d, uo, ud, us, lo, hi, rfl, .inl ⟨hok, rfl, Ob.put_marked hnd⟩, (((hob.keep e1).keep e2).keep e3), (Ext.new (Ext.new (Ext.new (Ext.refl _ _) e1 (by intro i hi hk; first | exact hk.elim | exact .inl hk | exact .inr hk | exact hk)) e2 (by intro i hi hk; first | exact hk.elim | exact .inl hk | exact .inr hk | exact hk)) e3 (by intro i hi hk; first | exact hk.elim | exact .inl hk | exact .inr hk | exact hk)), fun j hj => .inl hj⟩
  | (have hks : OwnF strF 9 0 w3 v_64 (Jn.nins k d) := by
      rw [← hAv29.nins hdo hnd]
      exact hv64.keepM (by assumption) (fun j hj h => by have h0 : j = b := h; rcases hbv64 j hj with g | g; exact (hob9.ne j g).1 h0; omega)
     exact ⟨0, l, Jn.nins k d, uo, ud, v_64, lo, hi, rfl, .inl ⟨hok, rfl, Ob.put_new hnd (by simpa using c44) (by omega)⟩, ⟨(((hob.own.keep e1).keep e2).keep e3), hob.clip, (((hob.ents.keep e1).keep e2).keep e3), hks, by have := hob.top; omega, hob.out, fun j hj => by rcases hbv64 j hj with g | g; exact hob9.ne j g; have := hob.top; omega⟩, (Ext.new (Ext.new (Ext.new (Ext.refl _ _) e1 (by intro i hi hk; first | exact hk.elim | exact .inl hk | exact .inr hk | exact hk)) e2 (by intro i hi hk; first | exact hk.elim | exact .inl hk | exact .inr hk | exact hk)) e3 (by intro i hi hk; first | exact hk.elim | exact .inl hk | exact .inr hk | exact hk)), fun j hj => by
      rcases hj with g | g | g
      ·exact .inl (.inl g)
      ·rcases hbv64 j g with g | g
       ·exact .inl (.inr (.inl g))
       ·exact .inr (by omega)
      ·exact .inl (.inr (.inr g))⟩)
  | exact ⟨0, Bt.merge l [(k, c)], d, uov76, uv76, us, _, _, rfl, .inl ⟨hok, rfl, Ob.put_merge hnd (by first | exact .inl (by simpa using c44) | exact .inr (by omega))⟩, ⟨(((hob.own.keep e1).keep e2).keep e3), hkv76, hq76.2 ▸ hv76.keepM (by assumption) (fun j h1 h2 h => by have h0 : j = b := h; omega), (((hob.keys.keep e1).keep e2).keep e3), by omega, .inl (by omega), fun j hj => ⟨(hob9.ne j hj).1, .inl (by have := hF2 j hj; omega)⟩⟩, (Ext.new (Ext.new (Ext.new (Ext.refl _ _) e1 (by intro i hi hk; first | exact hk.elim | exact .inl hk | exact .inr hk | exact hk)) e2 (by intro i hi hk; first | exact hk.elim | exact .inl hk | exact .inr hk | exact hk)) e3 (by intro i hi hk; first | exact hk.elim | exact .inl hk | exact .inr hk | exact hk)), fun j hj => by
     rcases hj with g | g | g
     ·exact .inl (.inl g)
     ·exact .inl (.inr (.inl g))
     ·exact .inr (by omega)⟩
 have hok : Bt.okE (k, c) = true := Bt.okE_of (by simpa using c18) (by simpa using c22)
 refine C.skip (K4 (C.sr fun K8 => O.mv (O.nilChk rfl (O.fa U71 rfl Z69 rfl ?_))))
 have t2 := (hob.own.keep e1).keep e2
 refine O.loadO isAgg69 rfl (t2.keep e3) rfl (O.mv (O.call call88 (args2 rfl rfl) (bss_spec us d (bk us) k _ (((hus.keep e1).keep e2).keep e3) hdo (by omega)) ?_))
 rintro v_29 w4 ⟨iv29, rfl, hAv29, rfl⟩
 refine O.mv (O.extract rfl rfl (O.extract rfl rfl (O.asg (O.asg (K8 (C.sq fun K9 => C.sr fun K10 => O.mv (K10 (C.cond rfl (fun c32 => ?_) (fun c32 => ?_)))))))))
 ·
  have hnd : k ∈ d := by simpa using c32
  refine C.sr fun K11 => O.asg (K11 (C.ret (Outs.one rfl rfl ?_)))
  first
  | exact ⟨2, l, d, uo, ud, us, lo, hi, rfl, .inr ⟨Bt.okE_no1 (by simpa using c18), rfl, rfl, rfl⟩, (((hob.keep e1).keep e2).keep e3), (Ext.new (Ext.new (Ext.new (Ext.refl _ _) e1 (by intro i hi hk; first | exact hk.elim | exact .inl hk | exact .inr hk | exact hk)) e2 (by intro i hi hk; first | exact hk.elim | exact .inl hk | exact .inr hk | exact hk)) e3 (by intro i hi hk; first | exact hk.elim | exact .inl hk | exact .inr hk | exact hk)), fun j hj => .inl hj⟩
  | exact ⟨2, l, d, uo, ud, us, lo, hi, rfl, .inr ⟨Bt.okE_no2 (by simpa using c22), rfl, rfl, rfl⟩, (((hob.keep e1).keep e2).keep e3), (Ext.new (Ext.new (Ext.new (Ext.refl _ _) e1 (by intro i hi hk; first | exact hk.elim | exact .inl hk | exact .inr hk | exact hk)) e2 (by intro i hi hk; first | exact hk.elim | exact .inl hk | exact .inr hk | exact hk)) e3 (by intro i hi hk; first | exact hk.elim | exact .inl hk | exact .inr hk | exact hk)), fun j hj => .inl hj⟩
  | exact ⟨0, l, d, uo, ud, us, lo, hi, rfl, .inl ⟨hok, rfl, Ob.put_marked hnd⟩, (((hob.keep e1).keep e2).keep e3), (Ext.new (Ext.new (Ext.new (Ext.refl _ _) e1 (by intro i hi hk; first | exact hk.elim | exact .inl hk | exact .inr hk | exact hk)) e2 (by intro i hi hk; first | exact hk.elim | exact .inl hk | exact .inr hk | exact hk)) e3 (by intro i hi hk; first | exact hk.elim | exact .inl hk | exact .inr hk | exact hk)), fun j hj => .inl hj⟩
  | (have hks : OwnF strF 9 0 w3 v_64 (Jn.nins k d) := by
      rw [← hAv29.nins hdo hnd]
      exact hv64.keepM (by assumption) (fun j hj h => by have h0 : j = b := h; rcases hbv64 j hj with g | g; exact (hob9.ne j g).1 h0; omega)
     exact ⟨0, l, Jn.nins k d, uo, ud, v_64, lo, hi, rfl, .inl ⟨hok, rfl, Ob.put_new hnd (by simpa using c44) (by omega)⟩, ⟨(t2.keep e3), hob.clip, (((hob.ents.keep e1).keep e2).keep e3), hks, by have := hob.top; omega, hob.out, fun j hj => by rcases hbv64 j hj with g | g; exact hob9.ne j g; have := hob.top; omega⟩, (Ext.new (Ext.new (Ext.new (Ext.refl _ _) e1 (by intro i hi hk; first | exact hk.elim | exact .inl hk | exact .inr hk | exact hk)) e2 (by intro i hi hk; first | exact hk.elim | exact .inl hk | exact .inr hk | exact hk)) e3 (by intro i hi hk; first | exact hk.elim | exact .inl hk | exact .inr hk | exact hk)), fun j hj => by
      rcases hj with g | g | g
      ·exact .inl (.inl g)
      ·rcases hbv64 j g with g | g
       ·exact .inl (.inr (.inl g))
       ·exact .inr (by omega)
      ·exact .inl (.inr (.inr g))⟩)
  | exact ⟨0, Bt.merge l [(k, c)], d, uov76, uv76, us, _, _, rfl, .inl ⟨hok, rfl, Ob.put_merge hnd (by first | exact .inl (by simpa using c44) | exact .inr (by omega))⟩, ⟨(t2.keep e3), hkv76, hq76.2 ▸ hv76.keepM (by assumption) (fun j h1 h2 h => by have h0 : j = b := h; omega), (((hob.keys.keep e1).keep e2).keep e3), by omega, .inl (by omega), fun j hj => ⟨(hob9.ne j hj).1, .inl (by have := hF2 j hj; omega)⟩⟩, (Ext.new (Ext.new (Ext.new (Ext.refl _ _) e1 (by intro i hi hk; first | exact hk.elim | exact .inl hk | exact .inr hk | exact hk)) e2 (by intro i hi hk; first | exact hk.elim | exact .inl hk | exact .inr hk | exact hk)) e3 (by intro i hi hk; first | exact hk.elim | exact .inl hk | exact .inr hk | exact hk)), fun j hj => by
     rcases hj with g | g | g
     ·exact .inl (.inl g)
     ·exact .inl (.inr (.inl g))
     ·exact .inr (by omega)⟩
 have hnd : k ∉ d := by simpa using c32
 refine C.skip (K9 (C.sq fun K12 => C.sr fun K13 => O.mv (O.nilChk rfl (O.fa U71 rfl Z22 rfl (O.loadO isAgg22 rfl (t2.keep e3) rfl (O.mv ?_))))))
 have t3 := (he.keep e1).keep e2
 have t4 := (hr.keep e1).keep e2
 refine O.call call89 (args2 rfl rfl) (ofind_spec ud raw l (fun j => lo ≤ j ∧ j < hi) k _ (t4.keep e3) (t3.keep e3) (Ob.keys_pw hlo) (by omega)) ?_
 rintro v_39 w4 ⟨iv39, rfl, hAv39, e4⟩
 have z4 := e4.size
 refine O.mv (O.extract rfl rfl (O.extract rfl rfl (O.asg (O.asg (K13 (C.sd fun K14 w5 e5 z5 => D.mv 0 rfl (Le.refl _) (D.t 1 rfl (Le.refl _) (fun _ _ _ hN => O.not rfl (O.nil hN)) (D.mv 2 rfl (Le.refl _) (D.split (x := .tmp 44) rfl (fun c44 => ?_) (fun c44 => ?_))))))))))
 ·
  refine D.ty 3 rfl rfl rfl rfl (isT' rfl c44) (Le.refl _) ⟨pure _, rfl⟩ (fun _ hw_ _ hN => O.mv (O.nil hN)) (D.ty 4 rfl rfl rfl rfl (isT' rfl c44) (Le.refl _) (nil_form rfl) (fun _ hw_ _ hN => O.nilChk rfl (O.nil hN)) (D.ty 5 rfl rfl rfl rfl (isT' rfl c44) (Le.refl _) ⟨_, rfl⟩ (fun _ hw_ _ hN => O.fa U71 rfl Z22 rfl (O.nil hN)) ?_))
  have t5 := (t2.keep e3).keep e4
  refine D.ty 6 rfl rfl rfl rfl (isT' rfl c44) (Le.refl _) ⟨_, rfl⟩ (fun _ hw_ _ hN => O.loadO isAgg22 rfl ((t5.keep e5).keep hw_) rfl (O.nil hN)) ?_
  have t6 := ((t4.keep e3).keep e4).keep e5
  refine D.ty 7 rfl rfl rfl rfl (isT' rfl c44) (Le.refl _) len_form (fun _ hw_ _ hN => O.len U22 rfl (t6.keep hw_) (O.nil hN)) (D.ty 8 rfl rfl rfl rfl (isT' rfl c44) (Le.refl _) ⟨pure _, rfl⟩ (fun _ hw_ _ hN => O.mv (O.nil hN)) (D.ty 9 rfl rfl rfl rfl (isT' rfl c44) (Le.refl _) (nil_form rfl) (fun _ hw_ _ hN => O.nilChk rfl (O.nil hN)) (D.ty 10 rfl rfl rfl rfl (isT' rfl c44) (Le.refl _) ⟨_, rfl⟩ (fun _ hw_ _ hN => O.fa U71 rfl Z3 rfl (O.nil hN)) (D.ty 11 rfl rfl rfl rfl (isT' rfl c44) (Le.refl _) ⟨_, rfl⟩ (fun _ hw_ _ hN => O.loadO isAgg3 rfl ((t5.keep e5).keep hw_) rfl (O.nil hN)) ?_))))
  refine D.ty 12 rfl rfl rfl rfl (isT' rfl c44) (Le.refl _) ⟨_, rfl⟩ (fun _ hw_ _ hN => O.eqlI rfl rfl (O.nil hN)) (D.tk 13 rfl rfl rfl rfl (Le.refl _) pick_form (fun _ hw_ _ hN => O.pickT (isT' rfl c44) (O.nil hN)) (K14 (C.condD rfl (fun c55 => ?_) (fun c55 => ?_))))
  ·
   refine C.sr fun K15 => O.mv (O.mv (O.nilChk rfl (O.fa U71 rfl Z69 rfl (O.loadO isAgg69 rfl (t5.keep e5) rfl (O.mv (O.mv (O.lit1 U69 ti9 ts9 tz9 rfl rfl (fun b63 w6 hb63 hz63 e6 => ?_))))))))
   have z6 := e6.size
   have hl63 := hz63.own.lt
   have t7 := ((hob.keys.keep e1).keep e2).keep e3
   have t8 := ((t7.keep e4).keep e5).keep e6
   refine O.call call90 (args3 rfl rfl rfl) (ins_spec us d iv29 k b63 _ t8 hAv29.1 hz63 (fun j hj => by have := hF2 j hj; omega) (by omega)) ?_
   rintro v_64 w7 ⟨hv64, e7, hbv64⟩
   have z7 := e7.size
   refine O.nilChk rfl (O.fa U71 rfl Z69 rfl (O.store Z69 rfl rfl hv64.one (((t5.keep e5).keep e6).keepM e7 (fun h => (hob9.ne b h).1 rfl)) (by simp) (fun w8 hs8 e8 z8 => ?_)))
   (try simp only [Int.toNat_natCast] at hs8); (try simp only [Nat.zero_add] at hs8); (try simp only [Nat.mul_one] at hs8)
   refine K15 (C.sr fun K16 => O.asg (K16 (C.ret (Outs.one rfl rfl ?_))))
   first
   | exact ⟨2, l, d, uo, ud, us, lo, hi, rfl, .inr ⟨Bt.okE_no1 (by simpa using c18), rfl, rfl, rfl⟩, ((((((((hob.keep e1).keep e2).keep e3).keep e4).keep e5).keep e6).keepA e7).keepA e8), (Ext.new (Ext.new (Ext.new (Ext.new (Ext.new (Ext.new (Ext.new (Ext.new (Ext.refl _ _) e1 (by intro i hi hk; first | exact hk.elim | exact .inl hk | exact .inr hk | exact hk)) e2 (by intro i hi hk; first | exact hk.elim | exact .inl hk | exact .inr hk | exact hk)) e3 (by intro i hi hk; first | exact hk.elim | exact .inl hk | exact .inr hk | exact hk)) e4 (by intro i hi hk; first | exact hk.elim | exact .inl hk | exact .inr hk | exact hk)) e5 (by intro i hi hk; first | exact hk.elim | exact .inl hk | exact .inr hk | exact hk)) e6 (by intro i hi hk; first | exact hk.elim | exact .inl hk | exact .inr hk | exact hk)) e7 (by intro i hi hk; first | exact hk.elim | exact .inl hk | exact .inr hk | exact hk)) e8 (by intro i hi hk; first | exact hk.elim | exact .inl hk | exact .inr hk | exact hk)), fun j hj => .inl hj⟩
   | exact ⟨2, l, d, uo, ud, us, lo, hi, rfl, .inr ⟨Bt.okE_no2 (by simpa using c22), rfl, rfl, rfl⟩, ((((((((hob.keep e1).keep e2).keep e3).keep e4).keep e5).keep e6).keepA e7).keepA e8), (Ext.new (Ext.new (Ext.new (Ext.new (Ext.new (Ext.new (Ext.new (Ext.new (Ext.refl _ _) e1 (by intro i hi hk; first | exact hk.elim | exact .inl hk | exact .inr hk | exact hk)) e2 (by intro i hi hk; first | exact hk.elim | exact .inl hk | exact .inr hk | exact hk)) e3 (by intro i hi hk; first | exact hk.elim | exact .inl hk | exact .inr hk | exact hk)) e4 (by intro i hi hk; first | exact hk.elim | exact .inl hk | exact .inr hk | exact hk)) e5 (by intro i hi hk; first | exact hk.elim | exact .inl hk | exact .inr hk | exact hk)) e6 (by intro i hi hk; first | exact hk.elim | exact .inl hk | exact .inr hk | exact hk)) e7 (by intro i hi hk; first | exact hk.elim | exact .inl hk | exact .inr hk | exact hk)) e8 (by intro i hi hk; first | exact hk.elim | exact .inl hk | exact .inr hk | exact hk)), fun j hj => .inl hj⟩
   | exact ⟨0, l, d, uo, ud, us, lo, hi, rfl, .inl ⟨hok, rfl, Ob.put_marked hnd⟩, ((((((((hob.keep e1).keep e2).keep e3).keep e4).keep e5).keep e6).keepA e7).keepA e8), (Ext.new (Ext.new (Ext.new (Ext.new (Ext.new (Ext.new (Ext.new (Ext.new (Ext.refl _ _) e1 (by intro i hi hk; first | exact hk.elim | exact .inl hk | exact .inr hk | exact hk)) e2 (by intro i hi hk; first | exact hk.elim | exact .inl hk | exact .inr hk | exact hk)) e3 (by intro i hi hk; first | exact hk.elim | exact .inl hk | exact .inr hk | exact hk)) e4 (by intro i hi hk; first | exact hk.elim | exact .inl hk | exact .inr hk | exact hk)) e5 (by intro i hi hk; first | exact hk.elim | exact .inl hk | exact .inr hk | exact hk)) e6 (by intro i hi hk; first | exact hk.elim | exact .inl hk | exact .inr hk | exact hk)) e7 (by intro i hi hk; first | exact hk.elim | exact .inl hk | exact .inr hk | exact hk)) e8 (by intro i hi hk; first | exact hk.elim | exact .inl hk | exact .inr hk | exact hk)), fun j hj => .inl hj⟩
   | (have hks : OwnF strF 9 0 w8 v_64 (Jn.nins k d) := by
       rw [← hAv29.nins hdo hnd]
       exact hv64.keepM (by assumption) (fun j hj h => by have h0 : j = b := h; rcases hbv64 j hj with g | g; exact (hob9.ne j g).1 h0; omega)
      exact ⟨0, l, Jn.nins k d, uo, ud, v_64, lo, hi, rfl, .inl ⟨hok, rfl, Ob.put_new hnd (by simpa using c44) (by omega)⟩, ⟨hs8, hob.clip, ((((((((hob.ents.keep e1).keep e2).keep e3).keep e4).keep e5).keep e6).keepM e7 (fun k h1 h2 h => by have := (hob9.ne k h).2; omega)).keepM e8 (fun k h1 h2 h => by have h0 : k = b := h; have := hob9.out; omega)), hks, by have := hob.top; omega, hob.out, fun j hj => by rcases hbv64 j hj with g | g; exact hob9.ne j g; have := hob.top; omega⟩, (Ext.new (Ext.new (Ext.new (Ext.new (Ext.new (Ext.new (Ext.new (Ext.new (Ext.refl _ _) e1 (by intro i hi hk; first | exact hk.elim | exact .inl hk | exact .inr hk | exact hk)) e2 (by intro i hi hk; first | exact hk.elim | exact .inl hk | exact .inr hk | exact hk)) e3 (by intro i hi hk; first | exact hk.elim | exact .inl hk | exact .inr hk | exact hk)) e4 (by intro i hi hk; first | exact hk.elim | exact .inl hk | exact .inr hk | exact hk)) e5 (by intro i hi hk; first | exact hk.elim | exact .inl hk | exact .inr hk | exact hk)) e6 (by intro i hi hk; first | exact hk.elim | exact .inl hk | exact .inr hk | exact hk)) e7 (by intro i hi hk; first | exact hk.elim | exact .inl hk | exact .inr hk | exact hk)) e8 (by intro i hi hk; first | exact hk.elim | exact .inl hk | exact .inr hk | exact hk)), fun j hj => by
       rcases hj with g | g | g
       ·exact .inl (.inl g)
       ·rcases hbv64 j g with g | g
        ·exact .inl (.inr (.inl g))
        ·exact .inr (by omega)
       ·exact .inl (.inr (.inr g))⟩)
   | exact ⟨0, Bt.merge l [(k, c)], d, uov76, uv76, us, _, _, rfl, .inl ⟨hok, rfl, Ob.put_merge hnd (by first | exact .inl (by simpa using c44) | exact .inr (by omega))⟩, ⟨hs8, hkv76, hq76.2 ▸ hv76.keepM (by assumption) (fun j h1 h2 h => by have h0 : j = b := h; omega), ((t8.keepA e7).keepA e8), by omega, .inl (by omega), fun j hj => ⟨(hob9.ne j hj).1, .inl (by have := hF2 j hj; omega)⟩⟩, (Ext.new (Ext.new (Ext.new (Ext.new (Ext.new (Ext.new (Ext.new (Ext.new (Ext.refl _ _) e1 (by intro i hi hk; first | exact hk.elim | exact .inl hk | exact .inr hk | exact hk)) e2 (by intro i hi hk; first | exact hk.elim | exact .inl hk | exact .inr hk | exact hk)) e3 (by intro i hi hk; first | exact hk.elim | exact .inl hk | exact .inr hk | exact hk)) e4 (by intro i hi hk; first | exact hk.elim | exact .inl hk | exact .inr hk | exact hk)) e5 (by intro i hi hk; first | exact hk.elim | exact .inl hk | exact .inr hk | exact hk)) e6 (by intro i hi hk; first | exact hk.elim | exact .inl hk | exact .inr hk | exact hk)) e7 (by intro i hi hk; first | exact hk.elim | exact .inl hk | exact .inr hk | exact hk)) e8 (by intro i hi hk; first | exact hk.elim | exact .inl hk | exact .inr hk | exact hk)), fun j hj => by
      rcases hj with g | g | g
      ·exact .inl (.inl g)
      ·exact .inl (.inr (.inl g))
      ·exact .inr (by omega)⟩
  refine C.skip (K12 (C.sd fun K17 w9 e9 z9 => D.mv 0 rfl (Le.refl _) (D.tk 1 rfl rfl rfl rfl (Le.refl _) (nil_form rfl) (fun _ hw_ _ hN => O.nilChk rfl (O.nil hN)) (D.t 2 rfl (Le.refl _) (fun _ _ _ hN => O.fa U71 rfl Z22 rfl (O.nil hN)) (D.t 3 rfl (Le.refl _) (fun _ hw_ _ hN => O.loadO isAgg22 rfl (((t5.keep e5).keep e9).keep hw_) rfl (O.nil hN)) (D.mv 4 rfl (Le.refl _) (D.t 5 rfl (Le.refl _) (fun _ hw_ _ hN => O.loadOA isAgg47 Z47 rfl ((((((h5.keep e2).keep e3).keep e4).keep e5).keep e9).keep hw_) (leB rfl) (O.nil hN)) (D.on 6 rfl rfl (O.build (cells := #[str k, slv q.1.1, slv q.1.2, slv q.2]) rfl (by kernel_rfl) ?_)))))))))
  refine O.nil ⟨(Le.refl _), D.on 7 rfl rfl (O.litG (G := entF) [(k, q)] U22 ti50 ts50 tz50 rfl (by decide) (by decide) rfl (fun b75 w10 hb75 hz75 e10 => ?_))⟩
  have z10 := e10.size
  have h75 := hz75.own
  have hq75 := Sl.litG (n := 1) h75 rfl (by unfold maxLen; omega)
  refine O.nil ⟨e10, D.on 8 rfl rfl (O.call call34 (args2 rfl rfl) (bmerge_spec ud raw l (fun j => lo ≤ j ∧ j < hi) _ [(k, q)] [(k, c)] (fun j => j < w10.heap.size) _ ((t6.keep e9).keep e10) (((((t3.keep e3).keep e4).keep e5).keep e9).keep e10) (hq75.weak (fun j hj => by have h0 : j = b75 := hj; have := h75.lt; (try dsimp only); omega)) (EntL.snoc (raw := []) (l := []) EntL.nil rfl (((((((t0.keep e3).keep e4).keep e5).keep e9).keep e10)).weak (fun j hj => by have := hF9 j hj; (try dsimp only); omega))) (fun j hj => by have := hF j hj; omega) (fun j hj => hj) hB hB2 hM hM2 (by show l.length + 1 ≤ _; omega) (((((t1.keep e3).keep e4).keep e5).keep e9).keep e10)) ?_)⟩
  rintro v_76 w11 ⟨uv76, e9v76, esv76, uov76, rfl, hkv76, hv76, hRv76, e11⟩
  have z11 := e11.size
  have t9 := Ext.trans e10 e11
  refine O.nil ⟨t9, ?_⟩
  have hq76 : e9v76 = 0 ∧ esv76 = Bt.merge l [(k, c)] := by
   rcases hRv76 with ⟨_, _, h1, h2⟩ | ⟨h1 | h1, _⟩
   ·exact ⟨h1, h2⟩
   ·rw [Bt.ord_iff.2 hlo] at h1; cases h1
   ·rw [Bt.ord_iff.2 (Ob.one_ord hok)] at h1; cases h1
  have hcl76 := hv76.clips hkv76
  obtain ⟨raw76, hra76, hea76⟩ := hcl76
  refine D.mv 9 rfl t9 (D.t 10 rfl t9 (fun _ _ _ hN => O.extract rfl rfl (O.nil hN)) (D.t 11 rfl t9 (fun _ _ _ hN => O.extract rfl rfl (O.nil hN)) (D.as 12 rfl t9 (D.as 13 rfl t9 (K17 (C.sq fun K18 => C.sr fun K19 => O.mv (O.cast (v' := .int .i64 0) (congrArg (Value.int .i64) hq76.1) (O.neqI rfl rfl (O.cast (v' := .bool false) rfl (K19 (C.condF rfl (C.skip (K18 (C.sr fun K20 => O.mv (O.mv (O.nilChk rfl (O.fa U71 rfl Z22 rfl (O.store Z22 rfl rfl hra76.oneC ((((t5.keep e5).keep e9).keep e10).keep e11) (by simp) (fun w12 hs12 e12 z12 => ?_)))))))))))))))))))
  (try simp only [Int.toNat_natCast] at hs12); (try simp only [Nat.zero_add] at hs12); (try simp only [Nat.mul_one] at hs12)
  refine K20 (C.sr fun K21 => O.asg (K21 (C.ret (Outs.one rfl rfl ?_))))
  first
  | exact ⟨2, l, d, uo, ud, us, lo, hi, rfl, .inr ⟨Bt.okE_no1 (by simpa using c18), rfl, rfl, rfl⟩, (((((((((hob.keep e1).keep e2).keep e3).keep e4).keep e5).keep e9).keep e10).keep e11).keepA e12), (Ext.new (Ext.new (Ext.new (Ext.new (Ext.new (Ext.new (Ext.new (Ext.new (Ext.new (Ext.refl _ _) e1 (by intro i hi hk; first | exact hk.elim | exact .inl hk | exact .inr hk | exact hk)) e2 (by intro i hi hk; first | exact hk.elim | exact .inl hk | exact .inr hk | exact hk)) e3 (by intro i hi hk; first | exact hk.elim | exact .inl hk | exact .inr hk | exact hk)) e4 (by intro i hi hk; first | exact hk.elim | exact .inl hk | exact .inr hk | exact hk)) e5 (by intro i hi hk; first | exact hk.elim | exact .inl hk | exact .inr hk | exact hk)) e9 (by intro i hi hk; first | exact hk.elim | exact .inl hk | exact .inr hk | exact hk)) e10 (by intro i hi hk; first | exact hk.elim | exact .inl hk | exact .inr hk | exact hk)) e11 (by intro i hi hk; first | exact hk.elim | exact .inl hk | exact .inr hk | exact hk)) e12 (by intro i hi hk; first | exact hk.elim | exact .inl hk | exact .inr hk | exact hk)), fun j hj => .inl hj⟩
  | exact ⟨2, l, d, uo, ud, us, lo, hi, rfl, .inr ⟨Bt.okE_no2 (by simpa using c22), rfl, rfl, rfl⟩, (((((((((hob.keep e1).keep e2).keep e3).keep e4).keep e5).keep e9).keep e10).keep e11).keepA e12), (Ext.new (Ext.new (Ext.new (Ext.new (Ext.new (Ext.new (Ext.new (Ext.new (Ext.new (Ext.refl _ _) e1 (by intro i hi hk; first | exact hk.elim | exact .inl hk | exact .inr hk | exact hk)) e2 (by intro i hi hk; first | exact hk.elim | exact .inl hk | exact .inr hk | exact hk)) e3 (by intro i hi hk; first | exact hk.elim | exact .inl hk | exact .inr hk | exact hk)) e4 (by intro i hi hk; first | exact hk.elim | exact .inl hk | exact .inr hk | exact hk)) e5 (by intro i hi hk; first | exact hk.elim | exact .inl hk | exact .inr hk | exact hk)) e9 (by intro i hi hk; first | exact hk.elim | exact .inl hk | exact .inr hk | exact hk)) e10 (by intro i hi hk; first | exact hk.elim | exact .inl hk | exact .inr hk | exact hk)) e11 (by intro i hi hk; first | exact hk.elim | exact .inl hk | exact .inr hk | exact hk)) e12 (by intro i hi hk; first | exact hk.elim | exact .inl hk | exact .inr hk | exact hk)), fun j hj => .inl hj⟩
  | exact ⟨0, l, d, uo, ud, us, lo, hi, rfl, .inl ⟨hok, rfl, Ob.put_marked hnd⟩, (((((((((hob.keep e1).keep e2).keep e3).keep e4).keep e5).keep e9).keep e10).keep e11).keepA e12), (Ext.new (Ext.new (Ext.new (Ext.new (Ext.new (Ext.new (Ext.new (Ext.new (Ext.new (Ext.refl _ _) e1 (by intro i hi hk; first | exact hk.elim | exact .inl hk | exact .inr hk | exact hk)) e2 (by intro i hi hk; first | exact hk.elim | exact .inl hk | exact .inr hk | exact hk)) e3 (by intro i hi hk; first | exact hk.elim | exact .inl hk | exact .inr hk | exact hk)) e4 (by intro i hi hk; first | exact hk.elim | exact .inl hk | exact .inr hk | exact hk)) e5 (by intro i hi hk; first | exact hk.elim | exact .inl hk | exact .inr hk | exact hk)) e9 (by intro i hi hk; first | exact hk.elim | exact .inl hk | exact .inr hk | exact hk)) e10 (by intro i hi hk; first | exact hk.elim | exact .inl hk | exact .inr hk | exact hk)) e11 (by intro i hi hk; first | exact hk.elim | exact .inl hk | exact .inr hk | exact hk)) e12 (by intro i hi hk; first | exact hk.elim | exact .inl hk | exact .inr hk | exact hk)), fun j hj => .inl hj⟩
  | (have hks : OwnF strF 9 0 w12 v_64 (Jn.nins k d) := by
      rw [← hAv29.nins hdo hnd]
      exact hv64.keepM (by assumption) (fun j hj h => by have h0 : j = b := h; rcases hbv64 j hj with g | g; exact (hob9.ne j g).1 h0; omega)
     exact ⟨0, l, Jn.nins k d, uo, ud, v_64, lo, hi, rfl, .inl ⟨hok, rfl, Ob.put_new hnd (by simpa using c44) (by omega)⟩, ⟨hs12, hob.clip, (((((((((hob.ents.keep e1).keep e2).keep e3).keep e4).keep e5).keep e9).keep e10).keep e11).keepA e12), hks, by have := hob.top; omega, hob.out, fun j hj => by rcases hbv64 j hj with g | g; exact hob9.ne j g; have := hob.top; omega⟩, (Ext.new (Ext.new (Ext.new (Ext.new (Ext.new (Ext.new (Ext.new (Ext.new (Ext.new (Ext.refl _ _) e1 (by intro i hi hk; first | exact hk.elim | exact .inl hk | exact .inr hk | exact hk)) e2 (by intro i hi hk; first | exact hk.elim | exact .inl hk | exact .inr hk | exact hk)) e3 (by intro i hi hk; first | exact hk.elim | exact .inl hk | exact .inr hk | exact hk)) e4 (by intro i hi hk; first | exact hk.elim | exact .inl hk | exact .inr hk | exact hk)) e5 (by intro i hi hk; first | exact hk.elim | exact .inl hk | exact .inr hk | exact hk)) e9 (by intro i hi hk; first | exact hk.elim | exact .inl hk | exact .inr hk | exact hk)) e10 (by intro i hi hk; first | exact hk.elim | exact .inl hk | exact .inr hk | exact hk)) e11 (by intro i hi hk; first | exact hk.elim | exact .inl hk | exact .inr hk | exact hk)) e12 (by intro i hi hk; first | exact hk.elim | exact .inl hk | exact .inr hk | exact hk)), fun j hj => by
      rcases hj with g | g | g
      ·exact .inl (.inl g)
      ·rcases hbv64 j g with g | g
       ·exact .inl (.inr (.inl g))
       ·exact .inr (by omega)
      ·exact .inl (.inr (.inr g))⟩)
  | exact ⟨0, Bt.merge l [(k, c)], d, uov76, uv76, us, _, _, rfl, .inl ⟨hok, rfl, Ob.put_merge hnd (by first | exact .inl (by simpa using c44) | exact .inr (by omega))⟩, ⟨hs12, hkv76, hq76.2 ▸ hv76.keepM (by assumption) (fun j h1 h2 h => by have h0 : j = b := h; omega), (((((((((hob.keys.keep e1).keep e2).keep e3).keep e4).keep e5).keep e9).keep e10).keep e11).keepM e12 (fun k hk h => (hob9.ne k hk).1 h)), by omega, .inl (by omega), fun j hj => ⟨(hob9.ne j hj).1, .inl (by have := hF2 j hj; omega)⟩⟩, (Ext.new (Ext.new (Ext.new (Ext.new (Ext.new (Ext.new (Ext.new (Ext.new (Ext.new (Ext.refl _ _) e1 (by intro i hi hk; first | exact hk.elim | exact .inl hk | exact .inr hk | exact hk)) e2 (by intro i hi hk; first | exact hk.elim | exact .inl hk | exact .inr hk | exact hk)) e3 (by intro i hi hk; first | exact hk.elim | exact .inl hk | exact .inr hk | exact hk)) e4 (by intro i hi hk; first | exact hk.elim | exact .inl hk | exact .inr hk | exact hk)) e5 (by intro i hi hk; first | exact hk.elim | exact .inl hk | exact .inr hk | exact hk)) e9 (by intro i hi hk; first | exact hk.elim | exact .inl hk | exact .inr hk | exact hk)) e10 (by intro i hi hk; first | exact hk.elim | exact .inl hk | exact .inr hk | exact hk)) e11 (by intro i hi hk; first | exact hk.elim | exact .inl hk | exact .inr hk | exact hk)) e12 (by intro i hi hk; first | exact hk.elim | exact .inl hk | exact .inr hk | exact hk)), fun j hj => by
     rcases hj with g | g | g
     ·exact .inl (.inl g)
     ·exact .inl (.inr (.inl g))
     ·exact .inr (by omega)⟩
 refine D.tn 3 rfl rfl (Le.refl _) rfl (noB (isF' rfl c44) rfl) (D.tn 4 rfl rfl (Le.refl _) rfl (noB (isF' rfl c44) rfl) (D.tn 5 rfl rfl (Le.refl _) rfl (noB (isF' rfl c44) rfl) (D.tn 6 rfl rfl (Le.refl _) rfl (noB (isF' rfl c44) rfl) (D.tn 7 rfl rfl (Le.refl _) rfl (noB (isF' rfl c44) rfl) (D.tn 8 rfl rfl (Le.refl _) rfl (noB (isF' rfl c44) rfl) (D.tn 9 rfl rfl (Le.refl _) rfl (noB (isF' rfl c44) rfl) (D.tn 10 rfl rfl (Le.refl _) rfl (noB (isF' rfl c44) rfl) (D.tn 11 rfl rfl (Le.refl _) rfl (noB (isF' rfl c44) rfl) (D.tn 12 rfl rfl (Le.refl _) rfl (noB (isF' rfl c44) rfl) ?_)))))))))
 refine D.tk 13 rfl rfl rfl rfl (Le.refl _) pick_form (fun _ hw_ _ hN => O.pickF (isF' rfl c44) (O.nil hN)) (K14 (C.condF rfl (C.skip (K12 (C.sd fun K22 w13 e13 z13 => D.mv 0 rfl (Le.refl _) (D.tk 1 rfl rfl rfl rfl (Le.refl _) (nil_form rfl) (fun _ hw_ _ hN => O.nilChk rfl (O.nil hN)) (D.t 2 rfl (Le.refl _) (fun _ _ _ hN => O.fa U71 rfl Z22 rfl (O.nil hN)) ?_)))))))
 have t10 := ((t2.keep e3).keep e4).keep e5
 refine D.t 3 rfl (Le.refl _) (fun _ hw_ _ hN => O.loadO isAgg22 rfl ((t10.keep e13).keep hw_) rfl (O.nil hN)) (D.mv 4 rfl (Le.refl _) (D.t 5 rfl (Le.refl _) (fun _ hw_ _ hN => O.loadOA isAgg47 Z47 rfl ((((((h5.keep e2).keep e3).keep e4).keep e5).keep e13).keep hw_) (leB rfl) (O.nil hN)) (D.on 6 rfl rfl (O.build (cells := #[str k, slv q.1.1, slv q.1.2, slv q.2]) rfl (by kernel_rfl) (O.nil ⟨(Le.refl _), D.on 7 rfl rfl (O.litG (G := entF) [(k, q)] U22 ti50 ts50 tz50 rfl (by decide) (by decide) rfl (fun b75 w14 hb75 hz75 e14 => ?_))⟩)))))
 have z14 := e14.size
 have h75 := hz75.own
 have hq75 := Sl.litG (n := 1) h75 rfl (by unfold maxLen; omega)
 refine O.nil ⟨e14, D.on 8 rfl rfl ?_⟩
 refine O.call call34 (args2 rfl rfl) (bmerge_spec ud raw l (fun j => lo ≤ j ∧ j < hi) _ [(k, q)] [(k, c)] (fun j => j < w14.heap.size) _ (((((t4.keep e3).keep e4).keep e5).keep e13).keep e14) (((((t3.keep e3).keep e4).keep e5).keep e13).keep e14) (hq75.weak (fun j hj => by have h0 : j = b75 := hj; have := h75.lt; (try dsimp only); omega)) (EntL.snoc (raw := []) (l := []) EntL.nil rfl (((((((t0.keep e3).keep e4).keep e5).keep e13).keep e14)).weak (fun j hj => by have := hF9 j hj; (try dsimp only); omega))) (fun j hj => by have := hF j hj; omega) (fun j hj => hj) hB hB2 hM hM2 (by show l.length + 1 ≤ _; omega) (((((t1.keep e3).keep e4).keep e5).keep e13).keep e14)) ?_
 rintro v_76 w15 ⟨uv76, e9v76, esv76, uov76, rfl, hkv76, hv76, hRv76, e15⟩
 have z15 := e15.size
 have t11 := Ext.trans e14 e15
 refine O.nil ⟨t11, ?_⟩
 have hq76 : e9v76 = 0 ∧ esv76 = Bt.merge l [(k, c)] := by
  rcases hRv76 with ⟨_, _, h1, h2⟩ | ⟨h1 | h1, _⟩
  ·exact ⟨h1, h2⟩
  ·rw [Bt.ord_iff.2 hlo] at h1; cases h1
  ·rw [Bt.ord_iff.2 (Ob.one_ord hok)] at h1; cases h1
 have hcl76 := hv76.clips hkv76
 obtain ⟨raw76, hra76, hea76⟩ := hcl76
 refine D.mv 9 rfl t11 (D.t 10 rfl t11 (fun _ _ _ hN => O.extract rfl rfl (O.nil hN)) (D.t 11 rfl t11 (fun _ _ _ hN => O.extract rfl rfl (O.nil hN)) (D.as 12 rfl t11 (D.as 13 rfl t11 (K22 (C.sq fun K23 => C.sr fun K24 => O.mv (O.cast (v' := .int .i64 0) (congrArg (Value.int .i64) hq76.1) (O.neqI rfl rfl (O.cast (v' := .bool false) rfl (K24 (C.condF rfl (C.skip (K23 (C.sr fun K25 => O.mv (O.mv (O.nilChk rfl (O.fa U71 rfl Z22 rfl (O.store Z22 rfl rfl hra76.oneC (((t10.keep e13).keep e14).keep e15) (by simp) (fun w16 hs16 e16 z16 => ?_)))))))))))))))))))
 (try simp only [Int.toNat_natCast] at hs16); (try simp only [Nat.zero_add] at hs16); (try simp only [Nat.mul_one] at hs16)
 refine K25 (C.sr fun K26 => O.asg (K26 (C.ret (Outs.one rfl rfl ?_))))
 first
 | exact ⟨2, l, d, uo, ud, us, lo, hi, rfl, .inr ⟨Bt.okE_no1 (by simpa using c18), rfl, rfl, rfl⟩, (((((((((hob.keep e1).keep e2).keep e3).keep e4).keep e5).keep e13).keep e14).keep e15).keepA e16), (Ext.new (Ext.new (Ext.new (Ext.new (Ext.new (Ext.new (Ext.new (Ext.new (Ext.new (Ext.refl _ _) e1 (by intro i hi hk; first | exact hk.elim | exact .inl hk | exact .inr hk | exact hk)) e2 (by intro i hi hk; first | exact hk.elim | exact .inl hk | exact .inr hk | exact hk)) e3 (by intro i hi hk; first | exact hk.elim | exact .inl hk | exact .inr hk | exact hk)) e4 (by intro i hi hk; first | exact hk.elim | exact .inl hk | exact .inr hk | exact hk)) e5 (by intro i hi hk; first | exact hk.elim | exact .inl hk | exact .inr hk | exact hk)) e13 (by intro i hi hk; first | exact hk.elim | exact .inl hk | exact .inr hk | exact hk)) e14 (by intro i hi hk; first | exact hk.elim | exact .inl hk | exact .inr hk | exact hk)) e15 (by intro i hi hk; first | exact hk.elim | exact .inl hk | exact .inr hk | exact hk)) e16 (by intro i hi hk; first | exact hk.elim | exact .inl hk | exact .inr hk | exact hk)), fun j hj => .inl hj⟩
 | exact ⟨2, l, d, uo, ud, us, lo, hi, rfl, .inr ⟨Bt.okE_no2 (by simpa using c22), rfl, rfl, rfl⟩, (((((((((hob.keep e1).keep e2).keep e3).keep e4).keep e5).keep e13).keep e14).keep e15).keepA e16), (Ext.new (Ext.new (Ext.new (Ext.new (Ext.new (Ext.new (Ext.new (Ext.new (Ext.new (Ext.refl _ _) e1 (by intro i hi hk; first | exact hk.elim | exact .inl hk | exact .inr hk | exact hk)) e2 (by intro i hi hk; first | exact hk.elim | exact .inl hk | exact .inr hk | exact hk)) e3 (by intro i hi hk; first | exact hk.elim | exact .inl hk | exact .inr hk | exact hk)) e4 (by intro i hi hk; first | exact hk.elim | exact .inl hk | exact .inr hk | exact hk)) e5 (by intro i hi hk; first | exact hk.elim | exact .inl hk | exact .inr hk | exact hk)) e13 (by intro i hi hk; first | exact hk.elim | exact .inl hk | exact .inr hk | exact hk)) e14 (by intro i hi hk; first | exact hk.elim | exact .inl hk | exact .inr hk | exact hk)) e15 (by intro i hi hk; first | exact hk.elim | exact .inl hk | exact .inr hk | exact hk)) e16 (by intro i hi hk; first | exact hk.elim | exact .inl hk | exact .inr hk | exact hk)), fun j hj => .inl hj⟩
 | exact ⟨0, l, d, uo, ud, us, lo, hi, rfl, .inl ⟨hok, rfl, Ob.put_marked hnd⟩, (((((((((hob.keep e1).keep e2).keep e3).keep e4).keep e5).keep e13).keep e14).keep e15).keepA e16), (Ext.new (Ext.new (Ext.new (Ext.new (Ext.new (Ext.new (Ext.new (Ext.new (Ext.new (Ext.refl _ _) e1 (by intro i hi hk; first | exact hk.elim | exact .inl hk | exact .inr hk | exact hk)) e2 (by intro i hi hk; first | exact hk.elim | exact .inl hk | exact .inr hk | exact hk)) e3 (by intro i hi hk; first | exact hk.elim | exact .inl hk | exact .inr hk | exact hk)) e4 (by intro i hi hk; first | exact hk.elim | exact .inl hk | exact .inr hk | exact hk)) e5 (by intro i hi hk; first | exact hk.elim | exact .inl hk | exact .inr hk | exact hk)) e13 (by intro i hi hk; first | exact hk.elim | exact .inl hk | exact .inr hk | exact hk)) e14 (by intro i hi hk; first | exact hk.elim | exact .inl hk | exact .inr hk | exact hk)) e15 (by intro i hi hk; first | exact hk.elim | exact .inl hk | exact .inr hk | exact hk)) e16 (by intro i hi hk; first | exact hk.elim | exact .inl hk | exact .inr hk | exact hk)), fun j hj => .inl hj⟩
 | (have hks : OwnF strF 9 0 w16 v_64 (Jn.nins k d) := by
     rw [← hAv29.nins hdo hnd]
     exact hv64.keepM (by assumption) (fun j hj h => by have h0 : j = b := h; rcases hbv64 j hj with g | g; exact (hob9.ne j g).1 h0; omega)
    exact ⟨0, l, Jn.nins k d, uo, ud, v_64, lo, hi, rfl, .inl ⟨hok, rfl, Ob.put_new hnd (by simpa using c44) (by omega)⟩, ⟨hs16, hob.clip, (((((((((hob.ents.keep e1).keep e2).keep e3).keep e4).keep e5).keep e13).keep e14).keep e15).keepA e16), hks, by have := hob.top; omega, hob.out, fun j hj => by rcases hbv64 j hj with g | g; exact hob9.ne j g; have := hob.top; omega⟩, (Ext.new (Ext.new (Ext.new (Ext.new (Ext.new (Ext.new (Ext.new (Ext.new (Ext.new (Ext.refl _ _) e1 (by intro i hi hk; first | exact hk.elim | exact .inl hk | exact .inr hk | exact hk)) e2 (by intro i hi hk; first | exact hk.elim | exact .inl hk | exact .inr hk | exact hk)) e3 (by intro i hi hk; first | exact hk.elim | exact .inl hk | exact .inr hk | exact hk)) e4 (by intro i hi hk; first | exact hk.elim | exact .inl hk | exact .inr hk | exact hk)) e5 (by intro i hi hk; first | exact hk.elim | exact .inl hk | exact .inr hk | exact hk)) e13 (by intro i hi hk; first | exact hk.elim | exact .inl hk | exact .inr hk | exact hk)) e14 (by intro i hi hk; first | exact hk.elim | exact .inl hk | exact .inr hk | exact hk)) e15 (by intro i hi hk; first | exact hk.elim | exact .inl hk | exact .inr hk | exact hk)) e16 (by intro i hi hk; first | exact hk.elim | exact .inl hk | exact .inr hk | exact hk)), fun j hj => by
     rcases hj with g | g | g
     ·exact .inl (.inl g)
     ·rcases hbv64 j g with g | g
      ·exact .inl (.inr (.inl g))
      ·exact .inr (by omega)
     ·exact .inl (.inr (.inr g))⟩)
 | exact ⟨0, Bt.merge l [(k, c)], d, uov76, uv76, us, _, _, rfl, .inl ⟨hok, rfl, Ob.put_merge hnd (by first | exact .inl (by simpa using c44) | exact .inr (by omega))⟩, ⟨hs16, hkv76, hq76.2 ▸ hv76.keepM (by assumption) (fun j h1 h2 h => by have h0 : j = b := h; omega), (((((((((hob.keys.keep e1).keep e2).keep e3).keep e4).keep e5).keep e13).keep e14).keep e15).keepM e16 (fun k hk h => (hob9.ne k hk).1 h)), by omega, .inl (by omega), fun j hj => ⟨(hob9.ne j hj).1, .inl (by have := hF2 j hj; omega)⟩⟩, (Ext.new (Ext.new (Ext.new (Ext.new (Ext.new (Ext.new (Ext.new (Ext.new (Ext.new (Ext.refl _ _) e1 (by intro i hi hk; first | exact hk.elim | exact .inl hk | exact .inr hk | exact hk)) e2 (by intro i hi hk; first | exact hk.elim | exact .inl hk | exact .inr hk | exact hk)) e3 (by intro i hi hk; first | exact hk.elim | exact .inl hk | exact .inr hk | exact hk)) e4 (by intro i hi hk; first | exact hk.elim | exact .inl hk | exact .inr hk | exact hk)) e5 (by intro i hi hk; first | exact hk.elim | exact .inl hk | exact .inr hk | exact hk)) e13 (by intro i hi hk; first | exact hk.elim | exact .inl hk | exact .inr hk | exact hk)) e14 (by intro i hi hk; first | exact hk.elim | exact .inl hk | exact .inr hk | exact hk)) e15 (by intro i hi hk; first | exact hk.elim | exact .inl hk | exact .inr hk | exact hk)) e16 (by intro i hi hk; first | exact hk.elim | exact .inl hk | exact .inr hk | exact hk)), fun j hj => by
    rcases hj with g | g | g
    ·exact .inl (.inl g)
    ·exact .inl (.inr (.inl g))
    ·exact .inr (by omega)⟩
theorem oDrain_spec (b : Nat) (n : Int) (l : List EntT) (d : List Jn.Name) (uo ud us : Value) (lo hi : Nat) (v1 : Value) (raw2 : List EntR) (wl : List EntT) (F2 : Nat → Prop) (w : World) (hob : OB 50 112 117 114 71 9 w b n l d uo ud us lo hi) (hn0 : n ≠ 0) (hr2 : Sl entF.enc w F2 v1 raw2) (he2 : EntL w F2 raw2 wl) (hG2 : ∀ j, F2 j → j < w.heap.size) (hlo : Bt.Ord l) (hdo : d.Pairwise Jn.BL) (hB : Bt.Big l) (hM : Bt.Mid 20000 l) (hB2 : Bt.Big wl) (hM2 : Bt.Mid 20000 wl) (hB3 : Bt.ordered wl = true → Bt.Big (Bt.merge l (Ob.picked d wl))) (hE3 : Bt.ordered wl = true → ∀ x ∈ Bt.merge l (Ob.picked d wl), (Bt.entB x).length ≤ 8000000) (hln : l.length ≤ 10000) (hdn : d.length ≤ 10000) (hwn : wl.length ≤ 10000) (mx : Mx w) :
 Ret prog 47 #[.pointer (some ⟨b, 0, none⟩), v1] w (fun v w' => ∃ (u : Value) (e : Int) (bs : List (List UInt8)) (uo' ud' us' : Value) (lo' hi' : Nat), v = .tuple #[u, .int .i64 e] ∧ Sl (sliE byteE) w' (fun j => w.heap.size ≤ j ∧ j < w'.heap.size) u bs ∧ Ob.DrR l d wl bs e ∧ OB 50 112 117 114 71 9 w' b n (if e = 0 then [] else l) (if e = 0 then [] else d) uo' ud' us' lo' hi' ∧ (∀ j, OS b us' lo' hi' j → OS b us lo hi j) ∧ Ext (fun j => j = b) w w') := by
 have hob9 := hob
 have hse9 := hob.ents.clips hob.clip
 obtain ⟨raw, hr, he⟩ := hse9
 have hus := hob.keys.sl
 have hl := he.1
 have hrl := hr.le
 have hdl := hus.le
 have hbl := hob.own.lt
 have hF : ∀ j, (lo ≤ j ∧ j < hi) → j < w.heap.size := fun j hj => by have := hob.top; omega
 have hF2 : ∀ j, bk us j → j < w.heap.size := fun j hj => (hob.keys.bk_ge j hj).2
 obtain ⟨ie50, ti50, ts50, tb50, tz50⟩ := inf50
 have hgl := mx.lt
 have hl2 := he2.1
 have hrl2 := hr2.le
 refine enT [.pointer (some ⟨b, 0, none⟩), v1] 78 func47 rfl rfl (C.sr fun K1 => O.asg (O.asg (K1 (C.sq fun K2 => C.sr fun K3 => O.mv (O.call call87 (args1 rfl) (none_spec b n l d uo ud us lo hi _ hob hn0) ?_)))))
 rintro v_17 w1 ⟨rfl, hw_⟩
 replace hw_ := hw_.symm
 subst hw_
 refine K3 (C.condF rfl (C.skip (K2 (C.sq fun K4 => C.sr fun K5 => O.mv (O.call call34 (args2 rfl rfl) (bmerge_spec v1 raw2 wl F2 (.slice none 0 0) [] [] (fun _ => False) _ hr2 he2 (Sl.nil _ _ _) EntL.nil (fun j hj => by have := hG2 j hj; omega) (fun _ h => h.elim) hB2 (fun x hx => by cases hx) hM2 (fun x hx => by cases hx) (by show wl.length + 0 ≤ _; omega) mx) ?_)))))
 rintro v_20 w1 ⟨uv20, e9v20, esv20, uov20, rfl, hkv20, hv20, hRv20, e1⟩
 have z1 := e1.size
 refine O.mv (O.extract rfl rfl (O.extract rfl rfl (O.asg (O.asg (K5 (C.sr fun K6 => O.mv (O.neqI rfl rfl (K6 (C.condD rfl (fun c24 => ?_) (fun c24 => ?_))))))))))
 ·
  have hwv : Bt.ordered wl = false ∧ e9v20 = 2 := by
   rcases hRv20 with ⟨_, _, h1, _⟩ | ⟨h1 | h1, h2, _⟩
   ·exact absurd h1 c24
   ·exact ⟨h1, h2⟩
   ·cases h1
  refine C.sr fun K7 => O.mv (O.asg (O.asg (K7 (C.ret (Outs.two rfl rfl rfl ?_)))))
  first
  | exact ⟨.slice none 0 0, e9v20, [], uo, ud, us, lo, hi, rfl, Sl.nil _ _ _, .inl ⟨hwv.1, hwv.2, rfl⟩, by rw [if_neg (by omega), if_neg (by omega)]; exact (hob.keep e1), fun _ hj => hj, (Ext.new (Ext.refl _ _) e1 (by intro i hi hk; first | exact hk.elim | exact hk))⟩
  | exact ⟨.slice none 0 0, 9, [], uo, ud, us, lo, hi, rfl, Sl.nil _ _ _, .inr (.inl ⟨hwv, Ob.allIn_no hk2 hkn, rfl, rfl⟩), (hob.keep e1), fun _ hj => hj, (Ext.new (Ext.refl _ _) e1 (by intro i hi hk; first | exact hk.elim | exact hk))⟩
  | exact ⟨_, 0, _, .slice none 0 0, .slice none 0 0, .slice none 0 0, 0, 0, rfl, ({sl:65}).weakA, .inr (.inr ⟨hwv, Ob.allIn_yes (fun i q => hin i q (by omega)), rfl, rfl⟩), OB.new (hob.own.keep e1), fun j hj => by rcases hj with g | g | g; exact .inl g; exact g.elim; omega, (Ext.new (Ext.refl _ _) e1 (by intro i hi hk; first | exact hk.elim | exact hk))⟩
 have hwv : Bt.ordered wl = true := by
  rcases hRv20 with ⟨h1, _⟩ | ⟨_, h2, _⟩
  ·exact h1
  ·exact absurd h2 (by omega)
 have hwo := Bt.ord_iff.1 hwv
 have sp1_ : ∃ n, n = w1.heap.size := ⟨_, rfl⟩
 obtain ⟨n9, hn9⟩ := sp1_
 refine C.skip (K4 (C.sr fun K8 => O.asg (K8 (C.sq fun K9 => C.sr fun K10 => O.mv (O.nilChk rfl (O.fa U71 rfl Z69 rfl (O.loadO isAgg69 rfl (hob.own.keep e1) rfl (O.len U69 rfl (hus.keep e1) (O.mv (K10 (C.bl fun K11 => ?_)))))))))))
 refine C.loop0 (σ := Nat × Value × Nat × List EntR) (fun f0 w0 ⟨k, o, gl, ro⟩ f wz => f 31 = .int .i64 ((k : Int)) ∧ f 8 = o ∧ f 0 = f0 0 ∧ f 1 = f0 1 ∧ f 29 = f0 29 ∧ f 30 = f0 30 ∧ Le w wz ∧ OG entF 50 wz o gl ro ∧ EntL wz F2 ro (Ob.picked (d.take k) wl) ∧ Sl entF.enc wz (fun j => j = gl) o ro ∧ k ≤ d.length ∧ (∀ j, bk o j → n9 ≤ j) ∧ n9 ≤ wz.heap.size ∧ (∀ i, ∀ q : i < d.length, i < k → d[i] ∈ Ob.keys wl)) (fun ⟨k, o, gl, ro⟩ => d.length - k) (0, .slice none 0 0, 0, []) ?_ ?_
 ·
  refine ⟨rfl, rfl, rfl, rfl, rfl, rfl, e1, (OG.nil (by omega)), EntL.nil, (Sl.nil _ _ _), ?_⟩
  exact ⟨Nat.zero_le _, fun _ h => h.elim, by omega, fun i q h => absurd h (Nat.not_lt_zero _)⟩
 rintro ⟨k, o, gl, ro⟩ f_1 w2 ⟨s31_1, s8_1, s0_1, s1_1, s29_1, s30_1, e_1, r0_1, r1_1, r2_1, ⟨hk, hoo, hn9z, hin⟩⟩
 have z_1 := e_1.size
 have hogl := (r0_1).2.2
 have hogu := (r0_1).2.1
 have hrx := (r1_1).1
 have hpl := Ob.picked_len (d.take k) wl
 rw [List.length_take] at hpl
 refine C.sr fun K12 => O.lssI s31_1 s30_1 (K12 (C.sq fun K13 => C.condD rfl (fun c32 => ?_) (fun c32 => ?_)))
 ·
  have hk2 : k < d.length := by omega
  refine C.skip (K13 (C.sq fun K14 => C.bl fun K15 => C.sr fun K16 => O.idx U69 Z9 rfl s29_1 (hus.keep e_1) s31_1 (by omega) (fun a33 h33 => O.load1F (G := strF) isAgg9 rfl rfl rfl h33 (O.cast (v' := str (d[k]'hk2)) rfl (O.asg (K16 (C.sr fun K17 => O.mv (O.mv (O.call call89 (args2 s1_1 rfl) (ofind_spec v1 raw2 wl F2 (d[k]'hk2) _ (hr2.keep e_1) (he2.keep e_1) (Ob.keys_pw hwo) (by omega)) ?_)))))))))
  rintro v_38 w3 ⟨iv38, rfl, hAv38, e3⟩
  have z3 := e3.size
  refine O.mv (O.extract rfl rfl (O.extract rfl rfl (O.asg (O.asg (K17 (C.sq fun K18 => C.sr fun K19 => O.mv (O.not rfl (K19 (C.cond rfl (fun c42 => ?_) (fun c42 => ?_))))))))))
  ·
   have hkn : d[k]'hk2 ∉ Ob.keys wl := by simpa using c42
   refine C.sr fun K20 => O.asg (O.asg (K20 (C.ret (Outs.two rfl rfl rfl ?_))))
   first
   | exact ⟨.slice none 0 0, e9v20, [], uo, ud, us, lo, hi, rfl, Sl.nil _ _ _, .inl ⟨hwv.1, hwv.2, rfl⟩, by rw [if_neg (by omega), if_neg (by omega)]; exact ((hob.keep e_1).keep e3), fun _ hj => hj, (Ext.new (Ext.new (Ext.refl _ _) e_1 (by intro i hi hk; first | exact hk.elim | exact hk)) e3 (by intro i hi hk; first | exact hk.elim | exact hk))⟩
   | exact ⟨.slice none 0 0, 9, [], uo, ud, us, lo, hi, rfl, Sl.nil _ _ _, .inr (.inl ⟨hwv, Ob.allIn_no hk2 hkn, rfl, rfl⟩), ((hob.keep e_1).keep e3), fun _ hj => hj, (Ext.new (Ext.new (Ext.refl _ _) e_1 (by intro i hi hk; first | exact hk.elim | exact hk)) e3 (by intro i hi hk; first | exact hk.elim | exact hk))⟩
   | exact ⟨_, 0, _, .slice none 0 0, .slice none 0 0, .slice none 0 0, 0, 0, rfl, ({sl:65}).weakA, .inr (.inr ⟨hwv, Ob.allIn_yes (fun i q => hin i q (by omega)), rfl, rfl⟩), OB.new ((hob.own.keep e_1).keep e3), fun j hj => by rcases hj with g | g | g; exact .inl g; exact g.elim; omega, (Ext.new (Ext.new (Ext.refl _ _) e_1 (by intro i hi hk; first | exact hk.elim | exact hk)) e3 (by intro i hi hk; first | exact hk.elim | exact hk))⟩
  have hky : d[k]'hk2 ∈ Ob.keys wl := by simpa using c42
  have hfd := (hAv38.found (Ob.keys_pw hwo)).1 hky
  obtain ⟨hiq, hie⟩ := hfd
  rw [Ob.keys_get] at hie
  rw [Ob.keys_len] at hiq
  refine C.skip (K18 (C.region (O.mv (O.mv (O.mv (O.idx U22 Z50 rfl s1_1 ((hr2.keep e_1).keep e3) rfl (by omega) (fun a46 h46 => O.loadG (G := entF) isAgg50 Z50 rfl h46 ?_)))))))
  have t0 := (he2.keep e_1).keep e3
  have hk9r : iv38 < raw2.length := by have q9 := (t0).1; omega
  have hk8r : iv38 < wl.length := by have q9 := (t0).1; omega
  have sp2_ : ∃ q : EntR, q = raw2[iv38] := ⟨_, rfl⟩
  obtain ⟨r, hrr⟩ := sp2_
  have sp3_ : ∃ q : EntT, q = wl[iv38] := ⟨_, rfl⟩
  obtain ⟨x, hxr⟩ := sp3_
  have hkxr : r.1 = x.1 := by rw [hrr, hxr]; exact ((t0).2 iv38 hk9r hk8r).1
  have hca : CartAt w3 F2 r.2 x.2 := by rw [hrr, hxr]; exact ((t0).2 iv38 hk9r hk8r).2
  refine O.cast (v' := .agg #[str r.1, slv r.2.1.1, slv r.2.1.2, slv r.2.2]) (by rw [hrr]; rfl) (O.litG (G := entF) [r] U22 ti50 ts50 tz50 rfl (by decide) (by decide) rfl (fun b48 w4 hb48 hz48 e4 => ?_))
  have z4 := e4.size
  have h48 := hz48.own
  have hq48 := Sl.litG (n := 1) h48 rfl (by unfold maxLen; omega)
  refine O.appG (G := entF) U22 ti50 tz50 ts50 rfl s8_1 rfl ((r0_1.keep e3).keep e4) hq48 (by rw [tb50]; simp; omega) (by unfold maxLen; simp; omega) (fun v49 gg49 w5 h49 hg49 e5 hw49 => ?_)
  have e5m := e5.mono (M' := fun k => k = _) (fun k _ hk => ((r0_1.keep e3).keep e4).2.1 k hk)
  have z5 := e5.size
  have hgl49 := h49.2.2
  have hob49 : ∀ j, bk v49 j → n9 ≤ j := fun j hj => by
   rcases hw49 j hj with q | q
   ·exact hoo j q
   ·omega
  have hg49 : n9 ≤ gg49 := hob49 _ (h49.bk (by rw [List.length_append]; simp))
  refine O.asg (O.nil (K15 (K14 (C.region (O.addI s31_1 rfl (by unfold InI; omega) (O.mv (O.nil ?_)))))))
  refine ⟨(k + 1, v49, gg49, ro ++ [r]), ⟨rfl, rfl, s0_1, s1_1, s29_1, s30_1, (Ext.new (Ext.trans (Ext.trans e_1 e3) e4) e5 (by intro i hi h; have := hoo i h; omega)), h49, (show EntL _ F2 (ro ++ [r]) (Ob.picked (d.take (k + 1)) wl) by
 rw [List.take_succ_eq_append_getElem hk2, Ob.picked_snoc hwo hiq hie, ← hxr]
 exact ((((r1_1.keep e3).keep e4).keepM e5 (by intro j hj h; have q2 := hoo j h; first | (have q1 := hF j hj; omega) | (have q1 := hG2 j hj; omega) | (have q1 := hF2 j hj; omega) | ((try dsimp only at hj); omega)))).snoc hkxr ((((hca.keep e4).keepM e5 (by intro j hj h; have q2 := hoo j h; first | (have q1 := hF j hj; omega) | (have q1 := hG2 j hj; omega) | (have q1 := hF2 j hj; omega) | ((try dsimp only at hj); omega)))))), (h49).sl, ?_⟩, by first | omega | (simp only []; omega)⟩
  refine ⟨by omega, hob49, by omega, fun i q h => ?_⟩
  rcases Nat.lt_or_eq_of_le (Nat.le_of_lt_succ h) with g | rfl
  ·exact hin i q g
  ·exact hky
 have hk9 : k = d.length := by omega
 have hen9 := r1_1
 rw [hk9, List.take_length] at hen9
 refine C.exit (K11 (K9 (C.sr fun K21 => O.mv (O.nilChk s0_1 (O.fa U71 rfl Z22 rfl (O.loadO isAgg22 rfl (hob.own.keep e_1) rfl (O.mv ?_)))))))
 refine O.call call34 (args2 rfl s8_1) (bmerge_spec ud raw l (fun j => lo ≤ j ∧ j < hi) o ro (Ob.picked d wl) (fun j => j < w2.heap.size) _ (hr.keep e_1) (he.keep e_1) ((r0_1).1.sl.weak (fun j hj => by have := (r0_1).1.bk_ge j hj; (try dsimp only); omega)) ((hen9).weak (fun j hj => by have := hG2 j hj; (try dsimp only); omega)) (fun j hj => by have := hF j hj; omega) (fun j hj => hj) hB (fun x hx => hB2 x (Ob.picked_keys hx).1) hM (fun x hx => hM2 x (Ob.picked_keys hx).1) (by have := Ob.picked_len d wl; omega) (mx.keep e_1)) ?_
 rintro v_57 w6 ⟨uv57, e9v57, esv57, uov57, rfl, hkv57, hv57, hRv57, e6⟩
 have z6 := e6.size
 have hq57 : e9v57 = 0 ∧ esv57 = Bt.merge l (Ob.picked d wl) := by
  rcases hRv57 with ⟨_, _, h1, h2⟩ | ⟨h1 | h1, _⟩
  ·exact ⟨h1, h2⟩
  ·rw [Bt.ord_iff.2 hlo] at h1; cases h1
  ·rw [Bt.ord_iff.2 (Ob.picked_ord hwo hdo)] at h1; cases h1
 rw [hq57.2] at hv57
 have hcl57 := hv57.clips hkv57
 obtain ⟨raw57, hra57, hea57⟩ := hcl57
 refine O.mv (O.extract rfl rfl (O.extract rfl rfl (O.asg (O.asg (K21 (C.sq fun K22 => C.sr fun K23 => O.mv (O.cast (v' := .int .i64 0) (congrArg (Value.int .i64) hq57.1) (O.neqI rfl rfl (O.cast (v' := .bool false) rfl (K23 (C.condF rfl (C.skip (K22 (C.sr fun K24 => O.mv (O.call call26 (args1 rfl) (bsplit_spec uv57 raw57 _ _ _ hra57 hea57 (fun j hj => by (try dsimp only at hj); omega) (hB3 hwv) ((mx.keep e_1).keep e6) (hE3 hwv) (by have := Bt.merge_len l (Ob.picked d wl); have := Ob.picked_len d wl; omega)) ?_)))))))))))))))
 rintro v_65 w7 ⟨uv65, e9v65, bsv65, rfl, hv65, hRv65, e7⟩
 have z7 := e7.size
 have hq65 : e9v65 = 0 ∧ bsv65 = (Bt.split (Bt.merge l (Ob.picked d wl))).map Bt.enc := by
  rcases hRv65 with ⟨_, h1, h2⟩ | ⟨h1, _⟩
  ·exact ⟨h1, h2⟩
  ·rw [Bt.ord_iff.2 (Bt.merge_ord hlo (Ob.picked_ord hwo hdo))] at h1; cases h1
 rw [hq65.2] at hv65
 refine O.mv (O.extract rfl rfl (O.extract rfl rfl (O.asg (O.asg (K24 (C.sq fun K25 => C.sr fun K26 => O.mv (O.cast (v' := .int .i64 0) (congrArg (Value.int .i64) hq65.1) (O.neqI rfl rfl (O.cast (v' := .bool false) rfl (K26 (C.condF rfl (C.skip (K25 (C.sr fun K27 => O.mv (O.mv (O.nilChk s0_1 (O.fa U71 rfl Z22 rfl (O.store Z22 rfl rfl rfl (((hob.own.keep e_1).keep e6).keep e7) (by simp) (fun w8 hs8 e8 z8 => ?_)))))))))))))))))))
 (try simp only [Int.toNat_natCast] at hs8); (try simp only [Nat.zero_add] at hs8); (try simp only [Nat.mul_one] at hs8)
 refine O.nilChk s0_1 (O.fa U71 rfl Z69 rfl (O.store Z69 rfl rfl rfl hs8 (by simp) (fun w9 hs9 e9 z9 => ?_)))
 (try simp only [Int.toNat_natCast] at hs9); (try simp only [Nat.zero_add] at hs9); (try simp only [Nat.mul_one] at hs9)
 refine K27 (C.sr fun K28 => O.mv (O.asg (O.asg (K28 (C.ret (Outs.two rfl rfl rfl ?_))))))
 first
 | exact ⟨.slice none 0 0, e9v20, [], uo, ud, us, lo, hi, rfl, Sl.nil _ _ _, .inl ⟨hwv.1, hwv.2, rfl⟩, by rw [if_neg (by omega), if_neg (by omega)]; exact (((((hob.keep e_1).keep e6).keep e7).keepA e8).keepA e9), fun _ hj => hj, (Ext.new (Ext.new (Ext.new (Ext.new (Ext.new (Ext.refl _ _) e_1 (by intro i hi hk; first | exact hk.elim | exact hk)) e6 (by intro i hi hk; first | exact hk.elim | exact hk)) e7 (by intro i hi hk; first | exact hk.elim | exact hk)) e8 (by intro i hi hk; first | exact hk.elim | exact hk)) e9 (by intro i hi hk; first | exact hk.elim | exact hk))⟩
 | exact ⟨.slice none 0 0, 9, [], uo, ud, us, lo, hi, rfl, Sl.nil _ _ _, .inr (.inl ⟨hwv, Ob.allIn_no hk2 hkn, rfl, rfl⟩), (((((hob.keep e_1).keep e6).keep e7).keepA e8).keepA e9), fun _ hj => hj, (Ext.new (Ext.new (Ext.new (Ext.new (Ext.new (Ext.refl _ _) e_1 (by intro i hi hk; first | exact hk.elim | exact hk)) e6 (by intro i hi hk; first | exact hk.elim | exact hk)) e7 (by intro i hi hk; first | exact hk.elim | exact hk)) e8 (by intro i hi hk; first | exact hk.elim | exact hk)) e9 (by intro i hi hk; first | exact hk.elim | exact hk))⟩
 | exact ⟨_, 0, _, .slice none 0 0, .slice none 0 0, .slice none 0 0, 0, 0, rfl, (((hv65.keepM e8 (by intro k hk h; have h0 : k = b := h; (try dsimp only at hk); omega)).keepM e9 (by intro k hk h; have h0 : k = b := h; (try dsimp only at hk); omega))).weakA, .inr (.inr ⟨hwv, Ob.allIn_yes (fun i q => hin i q (by omega)), rfl, rfl⟩), OB.new hs9, fun j hj => by rcases hj with g | g | g; exact .inl g; exact g.elim; omega, (Ext.new (Ext.new (Ext.new (Ext.new (Ext.new (Ext.refl _ _) e_1 (by intro i hi hk; first | exact hk.elim | exact hk)) e6 (by intro i hi hk; first | exact hk.elim | exact hk)) e7 (by intro i hi hk; first | exact hk.elim | exact hk)) e8 (by intro i hi hk; first | exact hk.elim | exact hk)) e9 (by intro i hi hk; first | exact hk.elim | exact hk))⟩
theorem someC_spec (r c : Int) (w : World) :
 Ret prog 52 #[.int .i64 (r), .int .i64 (c)] w (fun v w' => ∃ q : (Raw × Raw) × Raw, v = .agg #[slv q.1.1, slv q.1.2, slv q.2] ∧ CartAt w' (fun j => w.heap.size ≤ j ∧ j < w'.heap.size) q (Ob.someC r c) ∧ Le w w') := by
 obtain ⟨ie112, ti112, ts112, tb112, tz112⟩ := inf112
 obtain ⟨ie114, ti114, ts114, tb114, tz114⟩ := inf114
 obtain ⟨ie117, ti117, ts117, tb117, tz117⟩ := inf117
 refine enT [.int .i64 (r), .int .i64 (c)] 18 func52 rfl rfl (C.sr fun K1 => O.alloc zeroValue47 (fun b4 w1 hb4 hz4 e1 => ?_))
 have z1 := e1.size
 have h4 := hz4.own
 have hl4 := h4.lt
 refine K1 (C.sr fun K2 => O.mv (O.mv (O.build (cells := #[.int .i64 r, .int .i64 c]) rfl (by kernel_rfl) (O.alloc zeroValue112 (fun b5 w2 hb5 hz5 e2 => ?_)))))
 have z2 := e2.size
 have h5 := hz5.own
 have hl5 := h5.lt
 refine O.storeA (vs := [.int .i64 r, .int .i64 c]) Z112 rfl rfl rfl (by intro u hu; simp only [List.mem_cons, List.not_mem_nil, or_false] at hu; rcases hu with rfl | rfl <;> rfl) h5 (leB rfl) (fun w3 hs3 e3 z3 => K2 (C.sr fun K3 => O.loadOA isAgg112 Z112 rfl hs3 (leB rfl) (O.litG (G := Dt.dotF) [(r, c)] U42 ti112 ts112 tz112 rfl (by decide) (by decide) rfl (fun b10 w4 hb10 hz10 e4 => ?_))))
 have z4 := e4.size
 have h10 := hz10.own
 have hq10 := Sl.litG (n := 1) h10 rfl (by unfold maxLen; omega)
 have hl10 := h10.lt
 refine O.build (cells := #[.slice (some ⟨b10, 0, none⟩) 1 1, .slice none 0 0]) rfl (by kernel_rfl) (O.loadOA isAgg112 Z112 rfl (hs3.keep e4) (leB rfl) (O.build (cells := #[.int .i64 r, .int .i64 c, .int .i64 1, .int .u64 1]) rfl (by kernel_rfl) (O.litG (G := markF) [((r, c), 1, 1#64)] U115 ti114 ts114 tz114 rfl (by decide) (by decide) rfl (fun b14 w5 hb14 hz14 e5 => ?_))))
 have z5 := e5.size
 have h14 := hz14.own
 have hq14 := Sl.litG (n := 1) h14 rfl (by unfold maxLen; omega)
 have hl14 := h14.lt
 refine O.build (cells := #[str [116, 101, 97], .slice (some ⟨b14, 0, none⟩) 1 1]) rfl (by kernel_rfl) (O.litG (G := itemF) [(([116, 101, 97] : List UInt8), ((some ⟨b14, 0, none⟩, 1, 1) : Raw))] U45 ti117 ts117 tz117 rfl (by decide) (by decide) rfl (fun b16 w6 hb16 hz16 e6 => ?_))
 have z6 := e6.size
 have h16 := hz16.own
 have hq16 := Sl.litG (n := 1) h16 rfl (by unfold maxLen; omega)
 have hl16 := h16.lt
 refine O.build (cells := #[.slice (some ⟨b10, 0, none⟩) 1 1, .slice none 0 0, .slice (some ⟨b16, 0, none⟩) 1 1]) rfl (by kernel_rfl) (O.storeA (vs := [.slice (some ⟨b10, 0, none⟩) 1 1, .slice none 0 0, .slice (some ⟨b16, 0, none⟩) 1 1]) Z47 rfl rfl rfl (by intro u hu; simp only [List.mem_cons, List.not_mem_nil, or_false] at hu; rcases hu with rfl | rfl | rfl <;> rfl) (((((h4.keep e2).keepO e3).keep e4).keep e5).keep e6) (leB rfl) (fun w7 hs7 e7 z7 => K3 (C.ret (Outs.cellA rfl isAgg47 Z47 rfl hs7 rfl ?_))))
 exact ⟨(((some ⟨b10, 0, none⟩, 1, 1), (none, 0, 0)), (some ⟨b16, 0, none⟩, 1, 1)), rfl, ⟨((((hq10.keep e5).keep e6).keepM e7 (by intro k hk h; (try dsimp only at hk); (try dsimp only at h); omega))).weak (fun j hj => by have hj : j = b10 := hj; (try dsimp only); omega), Sl.nil _ _ _, (Items.snoc (raw := []) (xs := []) (a := ([116, 101, 97], (some ⟨b14, 0, none⟩, 1, 1))) (x := ([116, 101, 97], [((r, c), 1, 1#64)])) Items.nil rfl ((((hq14.keep e6).keepM e7 (by intro k hk h; (try dsimp only at hk); (try dsimp only at h); omega))).weak (fun j hj => by have hj : j = b14 := hj; (try dsimp only); omega))).sl (((hq16.keepM e7 (by intro k hk h; (try dsimp only at hk); (try dsimp only at h); omega))).weak (fun j hj => by have hj : j = b16 := hj; (try dsimp only); omega))⟩, (Ext.nr (Ext.trans (Ext.trans (Ext.trans (Ext.nr (Ext.trans e1 e2) e3) e4) e5) e6) e7)⟩
theorem sends_spec (b : Nat) (n : Int) (l : List EntT) (d : List Jn.Name) (uo ud us : Value) (lo hi : Nat) (v1 : Value) (raw2 : List EntR) (wl : List EntT) (F2 : Nat → Prop) (v2 : Value) (raw3 : List EntR) (l3 : List EntT) (F3 : Nat → Prop) (e : Int) (w : World) (hob : OB 50 112 117 114 71 9 w b n l d uo ud us lo hi) (hn0 : n ≠ 0) (hr2 : Sl entF.enc w F2 v1 raw2) (he2 : EntL w F2 raw2 wl) (hr3 : Sl entF.enc w F3 v2 raw3) (he3 : EntL w F3 raw3 l3) (hG2 : ∀ j, F2 j → j < w.heap.size) (hG3 : ∀ j, F3 j → j < w.heap.size) (hb3 : ∀ j, F3 j → j ≠ b) (hgb : b ≠ 0) (hlo : Bt.Ord l) (hdo : d.Pairwise Jn.BL) (hB : Bt.Big l) (hM : Bt.Mid 20000 l) (hB2 : Bt.Big wl) (hM2 : Bt.Mid 20000 wl) (hB3 : Bt.ordered wl = true → Bt.Big (Bt.merge l (Ob.picked d wl))) (hE3 : Bt.ordered wl = true → ∀ x ∈ Bt.merge l (Ob.picked d wl), (Bt.entB x).length ≤ 900000) (hln : l.length ≤ 10000) (hdn : d.length ≤ 10000) (hwn : wl.length ≤ 10000) (mx : Mx w) :
 Ret prog 41 #[.pointer (some ⟨b, 0, none⟩), v1, v2, .int .i64 (e)] w (fun v w' => ∃ (uo' ud' us' : Value) (lo' hi' : Nat), v = .bool (decide (Ob.drL l d wl = l3 ∧ Ob.drE d wl = e)) ∧ OB 50 112 117 114 71 9 w' b n (if Ob.drE d wl = 0 then [] else l) (if Ob.drE d wl = 0 then [] else d) uo' ud' us' lo' hi' ∧ (∀ j, OS b us' lo' hi' j → OS b us lo hi j) ∧ Ext (fun j => j = b) w w') := by
 have hob9 := hob
 have hse9 := hob.ents.clips hob.clip
 obtain ⟨raw, hr, he⟩ := hse9
 have hus := hob.keys.sl
 have hl := he.1
 have hrl := hr.le
 have hdl := hus.le
 have hbl := hob.own.lt
 have hF : ∀ j, (lo ≤ j ∧ j < hi) → j < w.heap.size := fun j hj => by have := hob.top; omega
 have hF2 : ∀ j, bk us j → j < w.heap.size := fun j hj => (hob.keys.bk_ge j hj).2
 obtain ⟨ie50, ti50, ts50, tb50, tz50⟩ := inf50
 have hgl := mx.lt
 have hl2 := he2.1
 have hrl2 := hr2.le
 have hl3 := he3.1
 have hrl3 := hr3.le
 refine enT [.pointer (some ⟨b, 0, none⟩), v1, v2, .int .i64 (e)] 48 func41 rfl rfl (C.sr fun K1 => O.asg (K1 (C.sr fun K2 => O.mv (O.mv (O.call call47 (args2 rfl rfl) (oDrain_spec b n l d uo ud us lo hi v1 raw2 wl F2 _ hob hn0 hr2 he2 hG2 hlo hdo hB hM hB2 hM2 hB3 (fun h x hx => by have := hE3 h x hx; omega) hln hdn hwn mx) ?_)))))
 rintro v_18 w1 ⟨uv18, e9v18, bsv18, uov18, udv18, usv18, lov18, hiv18, rfl, hv18, hRv18, hOv18, hSv18, e1⟩
 have z1 := e1.size
 have hq18 := Ob.drR_iff hRv18
 have hq181 := hq18.1
 subst hq181
 have sp1_ : ∃ L, L = Ob.drL l d wl := ⟨_, rfl⟩
 obtain ⟨L, hL⟩ := sp1_
 rw [hq18.2, ← hL] at hv18
 have hD1 : Bt.Ord L := by rw [hL]; exact Ob.drL_ord hlo hdo
 have hEL : ∀ x ∈ L, (Bt.entB x).length ≤ 900000 := by
  rw [hL]
  unfold Ob.drL
  split
  ·rename_i h; exact hE3 (Ob.drE_zero h).1
  ·intro x hx; cases hx
 have hll : L.length ≤ 20000 := by
  have h1 := Bt.merge_len l (Ob.picked d wl)
  have h2 := Ob.picked_len d wl
  rw [hL]
  unfold Ob.drL
  split
  ·omega
  ·simp
 have hsp := Bt.flat_ge (gs := Bt.split L) (fun g hg => (Bt.split_good hg).1)
 rw [Bt.split_flat] at hsp
 have sp2_ : ∃ n, n = w1.heap.size := ⟨_, rfl⟩
 obtain ⟨n9, hn9⟩ := sp2_
 have hobl := hOv18.lt
 rw [← hn9] at hobl
 refine O.mv (O.extract rfl rfl (O.extract rfl rfl (O.asg (O.asg (K2 (C.sr fun K3 => O.asg (K3 (C.sq fun K4 => C.sr fun K5 => O.asg (K5 (C.bl fun K6 => ?_))))))))))
 refine C.loop0 (σ := Nat × Value × Nat × List EntR × Nat) (fun f0 w0 ⟨k, o, gl, rr, hi9⟩ f wz => f 11 = o ∧ f 12 = .int .i64 ((k : Int)) ∧ f 2 = f0 2 ∧ f 3 = f0 3 ∧ f 9 = f0 9 ∧ f 10 = f0 10 ∧ Ext (fun j => j = b) w wz ∧ Sl (sliE byteE) wz (fun j => j < n9) uv18 ((Bt.split L).map Bt.enc) ∧ OG entF 50 wz o gl rr ∧ EntL wz (fun j => w.heap.size ≤ j ∧ j < hi9 ∧ j ≠ gl) rr ((Bt.split L).take k).flatten ∧ Sl entF.enc wz (fun j => j = gl) o rr ∧ Mx wz ∧ OB 50 112 117 114 71 9 wz b n (if Ob.drE d wl = 0 then [] else l) (if Ob.drE d wl = 0 then [] else d) uov18 udv18 usv18 lov18 hiv18 ∧ Sl entF.enc wz F3 v2 raw3 ∧ EntL wz F3 raw3 l3 ∧ k ≤ (Bt.split L).length ∧ (∀ j, bk o j → n9 ≤ j) ∧ n9 ≤ wz.heap.size ∧ hi9 ≤ wz.heap.size ∧ (gl = b ∨ n9 ≤ gl)) (fun ⟨k, o, gl, rr, hi9⟩ => (Bt.split L).length - k) (0, .slice none 0 0, b, [], 0) ?_ ?_
 ·
  refine ⟨rfl, rfl, rfl, rfl, rfl, rfl, (Ext.new (Ext.refl _ _) e1 (by intro i hi hk; first | exact hk.elim | exact hk | (rcases hgl2 with q | q; exact Eq.trans hk q; (try dsimp only at hk); omega))), ((hv18).weak (fun j hj => by (try dsimp only at hj); omega)), (OG.nil (by omega)), EntL.nil, (Sl.nil _ _ _), (mx.keepM e1 (fun h => hgb h.symm)), hOv18, (hr3.keepM e1 (by intro j hj h; have h0 : j = b := h; first | exact absurd h0 (hb3 j hj) | (have q := mx.lt; omega))), (he3.keepM e1 (by intro j hj h; have h0 : j = b := h; first | exact absurd h0 (hb3 j hj) | (have q := mx.lt; omega))), ?_⟩
  exact ⟨Nat.zero_le _, fun _ h => h.elim, by omega, Nat.zero_le _, .inl rfl⟩
 rintro ⟨k, o, gl, rr, hi9⟩ f_1 w2 ⟨s11_1, s12_1, s2_1, s3_1, s9_1, s10_1, e_1, r0_1, r1_1, r2_1, r3_1, r4_1, r5_1, r6_1, r7_1, ⟨hk, hob, hn9z, hhi, hgl2⟩⟩
 have z_1 := e_1.size
 have hogl := (r1_1).2.2
 have hogu := (r1_1).2.1
 have hrx := (r2_1).1
 refine C.sq fun K7 => C.sr fun K8 => O.mv (O.mv (O.len U38 s9_1 r0_1 (O.lssI s12_1 rfl (K8 (C.condD rfl (fun c24 => ?_) (fun c24 => ?_))))))
 ·
  have hk2 : k < (Bt.split L).length := by rw [List.length_map] at c24; omega
  have sp3_ : ∃ g, g = (Bt.split L)[k] := ⟨_, rfl⟩
  obtain ⟨g, hg⟩ := sp3_
  have hgm : g ∈ Bt.split L := by rw [hg]; exact List.getElem_mem _
  have hgv := Bt.split_valid hD1 hgm
  have hgl9 := Bt.split_len hEL hgm
  have hgn := (Bt.split_good hgm).1
  have hgp := List.length_pos_iff.2 hgn
  have hfn := Bt.flat_next hk2
  have hfl := Bt.flat_le (gs := Bt.split L) (k + 1)
  rw [Bt.split_flat, hfn, ← hg, List.length_append] at hfl
  refine C.skip (K7 (C.sq fun K9 => C.bl fun K10 => C.sr fun K11 => O.mv (O.mv (O.idx U38 Z30 rfl s9_1 r0_1 s12_1 (by omega) (fun a30 h30 => O.loadSl isAgg30 rfl h30 (fun v31 h31 => ?_))))))
  have hg9 : ((Bt.split L).map Bt.enc)[k]'(by rw [List.length_map]; exact hk2) = Bt.enc g := by rw [List.getElem_map, hg]
  replace h31 : Sl byteE w2 (fun j => j < n9) v31 (Bt.enc g) := by rw [← hg9]; exact h31
  refine O.call call37 (args1 rfl) (bdecode_spec _ (Bt.enc g) _ _ h31 (by omega) (fun j hj => by (try dsimp only at hj); omega) r4_1) ?_
  rintro v_32 w3 ⟨uv32, esv32, env32, rfl, hv32, hBv32, hRv32, e3⟩
  have z3 := e3.size
  have hq32 := hRv32.uniq (Bt.DecRes.of_enc hgv)
  rw [hq32.1] at hv32
  have hvr32 := hv32.raws
  obtain ⟨raw32, hra32, hea32⟩ := hvr32
  have hrl32 := hea32.1
  refine O.mv (O.extract rfl rfl (O.extract rfl rfl (O.cast (v' := .int .i64 0) (congrArg (Value.int .i64) hq32.2) (O.asg (O.asg (K11 (C.sq fun K12 => C.sr fun K13 => O.mv (O.neqI rfl rfl (O.cast (v' := .bool false) rfl (K13 (C.condF rfl (C.skip (K12 (C.region (O.mv (O.mv (O.appG (G := entF) U22 ti50 tz50 ts50 rfl s11_1 rfl (r1_1.keep e3) hra32 (by rw [tb50]; (try simp); omega) (by unfold maxLen; (try simp); omega) (fun v39 gg39 w4 h39 hg39 e4 hw39 => ?_))))))))))))))))))
  have e4m := e4.mono (M' := fun k => k = _) (fun k _ hk => (r1_1.keep e3).2.1 k hk)
  have z4 := e4.size
  have hgl39 := h39.2.2
  have hob39 : ∀ j, bk v39 j → n9 ≤ j := fun j hj => by
   rcases hw39 j hj with q | q
   ·exact hob j q
   ·omega
  have hg39 : n9 ≤ gg39 := hob39 _ (h39.bk (by rw [List.length_append]; omega))
  have hgg39 := (hw39 _ (h39.bk (by rw [List.length_append]; omega))).imp (hogu _) id
  have sp4_ : ∃ n, n = w4.heap.size := ⟨_, rfl⟩
  obtain ⟨wa, hwa⟩ := sp4_
  refine O.asg (O.nil (K10 (K9 (C.region (O.mv (O.addI s12_1 rfl (by unfold InI; omega) (O.asg (O.nil ?_))))))))
  refine ⟨(k + 1, v39, gg39, rr ++ raw32, wa), ⟨rfl, rfl, s2_1, s3_1, s9_1, s10_1, (Ext.new (Ext.new (Ext.new (Ext.refl _ _) e_1 (by intro i hi hk; first | exact hk.elim | exact hk | (rcases hgl2 with q | q; exact Eq.trans hk q; (try dsimp only at hk); omega))) e3 (by intro i hi hk; first | exact hk.elim | exact hk | (rcases hgl2 with q | q; exact Eq.trans hk q; (try dsimp only at hk); omega))) e4m (by intro i hi hk; first | exact hk.elim | exact hk | (rcases hgl2 with q | q; exact Eq.trans hk q; (try dsimp only at hk); omega))), ((r0_1.keep e3).keepM e4 (by intro j hj h; have q2 := hob j h; have q3 := hogu j h; first | (have q1 := hF j hj; omega) | (have q1 := hG3 j hj; omega) | ((try dsimp only at hj); omega))), h39, (show EntL _ (fun j => w.heap.size ≤ j ∧ j < wa ∧ j ≠ gg39) (rr ++ raw32) ((Bt.split L).take (k + 1)).flatten by
 rw [hfn, ← hg]
 exact ((((r2_1.keep e3).keepM e4 (by intro j hj h; exact hj.2.2 (hogu j h)))).weakA).append (((hea32.keepM e4 (by intro j hj h; have q2 := hob j h; have q3 := hogu j h; first | (have q1 := hF j hj; omega) | (have q1 := hG3 j hj; omega) | ((try dsimp only at hj); omega)))).weakA)), (h39).sl, ((r4_1.keep e3).keepM e4 (fun h => by have := hob _ h; omega)), ((r5_1.keep e3).keepM e4 (fun k hk h => by have := hob k h; have := hobl k hk; omega)), ((r6_1.keep e3).keepM e4 (by intro j hj h; have q2 := hob j h; have q3 := hogu j h; first | (have q1 := hF j hj; omega) | (have q1 := hG3 j hj; omega) | ((try dsimp only at hj); omega))), ((r7_1.keep e3).keepM e4 (by intro j hj h; have q2 := hob j h; have q3 := hogu j h; first | (have q1 := hF j hj; omega) | (have q1 := hG3 j hj; omega) | ((try dsimp only at hj); omega))), ?_⟩, by first | omega | (simp only []; omega)⟩
  exact ⟨by omega, hob39, by omega, by omega, .inr hg39⟩
 have hk3 : k = (Bt.split L).length := by rw [List.length_map] at c24; omega
 have hen9 := r2_1
 rw [hk3, List.take_length, Bt.split_flat] at hen9
 refine C.exit (K6 (K4 (C.sr fun K14 => O.mv (O.mv (O.call call21 (args2 s11_1 s2_1) (sameL_spec o rr L (fun j => j < w2.heap.size) v2 raw3 l3 F3 _ ((r1_1).1.sl.weak (fun j hj => by have := (r1_1).1.bk_ge j hj; (try dsimp only); omega)) ((hen9).weakA) r6_1 r7_1 (fun j hj => hj) (fun j hj => by have := hG3 j hj; omega)) ?_)))))
 rintro v_42 w5 ⟨rfl, e5⟩
 have z5 := e5.size
 refine O.mv (O.splitD (x := .tmp 43) rfl (fun c43 => ?_) (fun c43 => ?_))
 ·
  refine O.yes rfl (isT rfl c43) (O.mv (O.yes rfl (isT rfl c43) (O.mv (O.yes rfl (isT rfl c43) (O.eqlI s10_1 s3_1 (O.pickT (isT rfl c43) (O.asg (K14 (C.ret (Outs.one rfl rfl ?_))))))))))
  first
  | exact ⟨_, _, _, _, _, congrArg Value.bool (decide_eq_decide.2 ⟨fun h => ⟨hL.symm.trans c43, h⟩, fun h => h.2⟩), (r5_1.keep e5), hSv18, (Ext.new (Ext.new (Ext.refl _ _) e_1 (by intro i hi hk; first | exact hk.elim | exact hk | (rcases hgl2 with q | q; exact Eq.trans hk q; (try dsimp only at hk); omega))) e5 (by intro i hi hk; first | exact hk.elim | exact hk | (rcases hgl2 with q | q; exact Eq.trans hk q; (try dsimp only at hk); omega)))⟩
  | exact ⟨_, _, _, _, _, congrArg Value.bool (decide_eq_false (fun h => c43 (hL.trans h.1))).symm, (r5_1.keep e5), hSv18, (Ext.new (Ext.new (Ext.refl _ _) e_1 (by intro i hi hk; first | exact hk.elim | exact hk | (rcases hgl2 with q | q; exact Eq.trans hk q; (try dsimp only at hk); omega))) e5 (by intro i hi hk; first | exact hk.elim | exact hk | (rcases hgl2 with q | q; exact Eq.trans hk q; (try dsimp only at hk); omega)))⟩
 refine O.no rfl (noB (isF rfl c43) rfl) (O.no rfl (noB (isF rfl c43) rfl) (O.no rfl (noB (isF rfl c43) rfl) (O.pickF (isF rfl c43) (O.asg (K14 (C.ret (Outs.one rfl rfl ?_)))))))
 first
 | exact ⟨_, _, _, _, _, congrArg Value.bool (decide_eq_decide.2 ⟨fun h => ⟨hL.symm.trans c43, h⟩, fun h => h.2⟩), (r5_1.keep e5), hSv18, (Ext.new (Ext.new (Ext.refl _ _) e_1 (by intro i hi hk; first | exact hk.elim | exact hk | (rcases hgl2 with q | q; exact Eq.trans hk q; (try dsimp only at hk); omega))) e5 (by intro i hi hk; first | exact hk.elim | exact hk | (rcases hgl2 with q | q; exact Eq.trans hk q; (try dsimp only at hk); omega)))⟩
 | exact ⟨_, _, _, _, _, congrArg Value.bool (decide_eq_false (fun h => c43 (hL.trans h.1))).symm, (r5_1.keep e5), hSv18, (Ext.new (Ext.new (Ext.refl _ _) e_1 (by intro i hi hk; first | exact hk.elim | exact hk | (rcases hgl2 with q | q; exact Eq.trans hk q; (try dsimp only at hk); omega))) e5 (by intro i hi hk; first | exact hk.elim | exact hk | (rcases hgl2 with q | q; exact Eq.trans hk q; (try dsimp only at hk); omega)))⟩
end Go.Proofs.YtpbcafkcfobngaaGreatDoor
end
