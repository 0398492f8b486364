/-
 The walks of the law of batches: splits, long carts. Conditions: slices as they lie in memory.
-/
import Derived.Test.YtpbcafkcfobngaaGreatDoorBatchSplitsM3
set_option maxHeartbeats 16000000
namespace Go.Proofs.YtpbcafkcfobngaaGreatDoor
open Go.Pn Go.RowKit Go.Proofs _root_.Go.Proofs.Tryz
attribute [local irreducible] O C D
theorem splits_spec (v0 : Value) (raw : List EntR) (l : List EntT) (F : Nat → Prop) (v1 : Value) (ro : List Raw) (F2 : Nat → Prop) (w : World) (hr : Sl entF.enc w F v0 raw) (he : EntL w F raw l) (hF : ∀ k, F k → k < w.heap.size) (hF2 : ∀ k, F2 k → k < w.heap.size) (hB : Bt.Big l) (mx : Mx w) (hw : Sl slF.enc w F2 v1 ro) (hss : SlsL entE w F2 ro (Bt.split l)) (hO : Bt.ordered l = true) (hE : ∀ x ∈ l, (Bt.entB x).length ≤ 300000) (hT : (l.flatMap Bt.entB).length ≤ 100000000) (hn : l.length ≤ 1100) :
 Ret prog 28 #[v0, v1] w (fun v w' => v = .bool true ∧ Le w w') := by
 have hl := he.1
 have hrol := hss.1
 have hrole := hw.le
 have hD := Bt.ord_iff.1 hO
 refine enT [v0, v1] 40 func28 rfl rfl (C.sr fun K1 => O.asg (K1 (C.sr fun K2 => O.mv (O.call call26 (args1 rfl) (bsplit_spec v0 raw l F _ hr he (fun j hj => by have q1 := hF j hj; omega) hB mx (fun x hx => by have := hE x hx; omega) (by omega)) ?_))))
 rintro v_10 w1 ⟨uv10, e9v10, bsv10, rfl, hv10, hRv10, e1⟩
 have z1 := e1.size
 have hq10 : e9v10 = 0 ∧ bsv10 = (Bt.split l).map Bt.enc := by
  rcases hRv10 with ⟨_, h1, h2⟩ | ⟨h1, _⟩
  ·exact ⟨h1, h2⟩
  ·rw [hO] at h1; cases h1
 rw [hq10.2] at hv10
 have sp1_ := hv10.raws1
 obtain ⟨rb, hrb, hsb⟩ := sp1_
 have hrbl := hsb.1
 have hrbe := hrb.le
 rw [List.length_map] at hrbl
 refine O.mv (O.extract rfl rfl (O.extract rfl rfl (O.cast (v' := .int .i64 0) (congrArg (Value.int .i64) hq10.1) (O.asg (O.asg (K2 (C.sq fun K3 => C.sr fun K4 => O.mv (O.len U38 rfl hrb (O.mv (O.len underlying52 rfl (hw.keep e1) (O.neqI rfl rfl (O.cast (v' := .bool false) (congrArg Value.bool (by exact decide_eq_false (by omega))) (O.mv (O.yes rfl rfl (O.mv (O.yes rfl rfl (O.neqI rfl rfl (O.cast (v' := .bool false) rfl (O.pickF rfl (K4 (C.condF rfl (C.skip (K3 (C.sq fun K5 => C.sr fun K6 => O.asg (K6 (C.bl fun K7 => ?_))))))))))))))))))))))))))
 refine C.loop0 (σ := Nat) (fun f0 w0 k f w => f 7 = .int .i64 ((k : Int)) ∧ f 1 = f0 1 ∧ f 5 = f0 5 ∧ Le w0 w ∧ k ≤ (Bt.split l).length) (fun k => (Bt.split l).length - k) 0 ?_ ?_
 ·
  refine ⟨rfl, rfl, rfl, Le.refl _, ?_⟩
  exact Nat.zero_le _
 rintro k f_1 w2 ⟨s7_1, s1_1, s5_1, e_1, hk⟩
 have z_1 := e_1.size
 refine C.sq fun K8 => C.sr fun K9 => O.mv (O.mv (O.len U38 s5_1 (hrb.keep e_1) (O.lssI s7_1 rfl (K9 (C.condD rfl (fun c25 => ?_) (fun c25 => ?_))))))
 ·
  have hk2 : k < (Bt.split l).length := by omega
  have sp2_ : ∃ g, g = (Bt.split l)[k] := ⟨_, rfl⟩
  obtain ⟨g, hg⟩ := sp2_
  have hgm : g ∈ Bt.split l := by rw [hg]; exact List.getElem_mem _
  have hsub := Bt.split_sub hgm
  have hgB : Bt.Big g := hB.sub (fun y hy => hsub.subset hy)
  have hgl := hsub.length_le
  have hgf := Bt.flat_sub hsub
  have sp3_ : ∃ q : Raw, q = rb[k]'(by omega) := ⟨_, rfl⟩
  obtain ⟨q, hq⟩ := sp3_
  have sp4_ : ∃ q : Raw, q = ro[k]'(by omega) := ⟨_, rfl⟩
  obtain ⟨q2, hq2⟩ := sp4_
  have hb9 := ((hsb.keep e_1)).2 k (by omega) (by rw [List.length_map]; omega)
  rw [List.getElem_map, ← hg, ← hq] at hb9
  have hw9 := (((hss.keep e1).keep e_1)).2 k (by omega) hk2
  rw [← hg, ← hq2] at hw9
  have sp5_ := hw9.ents
  obtain ⟨rawg, hrg, heg⟩ := sp5_
  refine C.skip (K8 (C.sq fun K10 => C.bl fun K11 => C.sd fun K12 w3 e3 z3 => D.mv 0 rfl (Le.refl _) (D.mv 1 rfl (Le.refl _) ?_)))
  have sp6_ := Sl.at (i := (k : Int)) (P := prog) U38 Z30 rfl ((hrb.keep e_1).keep e3) (by omega)
  obtain ⟨a30, h30, hr30⟩ := sp6_
  refine D.t 2 rfl (Le.refl _) (fun _ _ _ hN => O.idxR s5_1 s7_1 hr30 (O.nil hN)) (D.t 3 rfl (Le.refl _) (fun _ hw_ _ hN => O.load1F (G := slF) isAgg30 rfl rfl rfl (h30.keep hw_) (O.nil hN)) (D.cast (v' := slv q) (by rw [hq]; rfl) (D.t 4 rfl (Le.refl _) (fun _ hw_ _ hN => O.bytesS U30 U5 U9 rfl ((hb9.keep e3).keep hw_) (O.nil hN)) (D.mv 5 rfl (Le.refl _) (D.mv 6 rfl (Le.refl _) ?_)))))
  have sp7_ := Sl.at (i := (k : Int)) (P := prog) underlying52 sizeOf22 rfl (((hw.keep e1).keep e_1).keep e3) (by omega)
  obtain ⟨a35, h35, hr35⟩ := sp7_
  refine D.t 7 rfl (Le.refl _) (fun _ _ _ hN => O.idxR s1_1 s7_1 hr35 (O.nil hN)) (D.t 8 rfl (Le.refl _) (fun _ hw_ _ hN => O.load1F (G := slF) isAgg22 rfl rfl rfl (h35.keep hw_) (O.nil hN)) (D.cast (v' := slv q2) (by rw [hq2]; rfl) (D.on 9 rfl rfl (O.call call22 (args1 rfl) (lwhole_spec (slv q2) rawg g F2 _ (hrg.keep e3) (heg.keep e3) (fun j hj => by have q1 := hF2 j hj; omega) hgB (by omega) (by omega)) ?_))))
  rintro v_37 w4 ⟨e4, h37⟩
  have z4 := e4.size
  refine O.nil ⟨e4, ?_⟩
  have h37s := h37.sl
  refine D.on 10 rfl rfl (O.bytesS U30 U5 U9 rfl h37s (O.nil ⟨e4, D.t 11 rfl e4 (fun _ _ _ hN => O.neqS rfl rfl (O.nil hN)) (D.cast (v' := .bool false) (congrArg Value.bool (by exact decide_eq_false (fun h => h rfl))) (K12 (C.condF rfl (C.skip (K11 (K10 (C.region (O.mv (O.addI s7_1 rfl (by unfold InI; omega) (O.asg (O.nil (⟨(k + 1), ⟨rfl, s1_1, s5_1, (Ext.trans (Ext.trans e_1 e3) e4), ?_⟩, by first | omega | (simp only []; omega)⟩))))))))))))⟩))
  omega
 refine C.exit (K7 (K5 (C.sr fun K13 => O.asg (K13 (C.ret (Outs.one rfl rfl ?_))))))
 exact ⟨rfl, (Ext.trans e1 e_1)⟩
theorem great_spec (m : Nat) (w : World) (hm : m ≤ 1000) :
 Ret prog 27 #[.int .i64 ((m : Int))] w (fun v w' => ∃ (p1 p2 p3 : Raw) (cc : CartT), v = .agg #[slv p1, slv p2, slv p3] ∧ CartAt w' (fun j => w.heap.size ≤ j ∧ j < w'.heap.size) ((p1, p2), p3) cc ∧ Bt.Grt cc ∧ Le w w') := by
 obtain ⟨ie112, ti112, ts112, tb112, tz112⟩ := inf112
 obtain ⟨ie114, ti114, ts114, tb114, tz114⟩ := inf114
 obtain ⟨ie117, ti117, ts117, tb117, tz117⟩ := inf117
 obtain ⟨ie5, ti5, ts5, tb5, tz5⟩ := inf5
 have sp8_ : ∃ n, n = w.heap.size := ⟨_, rfl⟩
 obtain ⟨n0, hn0⟩ := sp8_
 refine enT [.int .i64 ((m : Int))] 60 func27 rfl rfl (C.sr fun K1 => O.alloc zeroValue47 (fun b2 w1 hb2 hz2 e1 => ?_))
 have z1 := e1.size
 have h2 := hz2.own
 have hl2 := h2.lt
 replace h2 : Own w1 b2 47 [.slice none 0 0, .slice none 0 0, .slice none 0 0] := h2
 refine K1 (C.sr fun K2 => O.alloc zeroValue47 (fun b3 w2 hb3 hz3 e2 => ?_))
 have z2 := e2.size
 have h3 := hz3.own
 have hl3 := h3.lt
 replace h3 : Own w2 b3 47 [.slice none 0 0, .slice none 0 0, .slice none 0 0] := h3
 refine K2 (C.sq fun K3 => C.sr fun K4 => O.mv (O.gtrI rfl rfl (K4 (C.join (fun f w f' w' => Ext (fun k => k = b3) w w' ∧ f' 0 = f 0 ∧ f' 2 = f 2 ∧ f' 3 = f 3 ∧ ∃ (v1 : Value) (ds : List Dt.Dot), Own w' b3 47 [v1, .slice none 0 0, .slice none 0 0] ∧ Sl Dt.dotF.enc w' (fun j => n0 ≤ j ∧ j < w'.heap.size ∧ j ≠ b3 ∧ j ≠ b2) v1 ds ∧ ds.length ≤ 1) ?_ ?_))))
 ·
  refine C.condD rfl (fun c8 => ?_) (fun c8 => ?_)
  ·
   have hm0 : 0 < m := by omega
   refine C.region (O.mv (O.build (cells := #[.int .i64 9, .int .i64 (m : Int)]) rfl (by kernel_rfl) (O.litG (G := Dt.dotF) [((9 : Int), (m : Int))] U42 ti112 ts112 tz112 rfl (by decide) (by decide) rfl (fun b11 w3 hb11 hz11 e3 => ?_))))
   have z3 := e3.size
   have h11 := hz11.own
   have hq11 := Sl.litG (n := 1) h11 rfl (by unfold maxLen; omega)
   have hl11 := h11.lt
   refine O.fa U47 rfl Z44 rfl (O.fa U44 rfl Z42 rfl (O.store Z42 rfl rfl rfl (h3.keep e3) (by simp) (fun w4 hs4 e4 z4 => ?_)))
   try simp only [Nat.zero_add] at hs4
   have hsv : Sl Dt.dotF.enc w4 (fun j => j = b11) (.slice (some ⟨b11, 0, none⟩) 1 1) [((9 : Int), (m : Int))] := (hq11.keepM e4 (by intro k hk h; (try dsimp only at hk); (try dsimp only at h); omega))
   refine O.nil ?_
   exact ⟨(Ext.nw (Ext.nw (Ext.refl _ _) e3) e4), rfl, rfl, rfl, ⟨_, _, hs4, ((hsv).weakA), (by simp)⟩⟩
  have hnl : Sl Dt.dotF.enc w2 (fun j => n0 ≤ j ∧ j < w2.heap.size ∧ j ≠ b3 ∧ j ≠ b2) (.slice none 0 0) [] := Sl.nil _ _ _
  refine C.skip ?_
  exact ⟨(Ext.refl _ _), rfl, rfl, rfl, ⟨_, _, h3, ((hnl).weakA), (by simp)⟩⟩
 rintro f_1 w5 ⟨e_1, s0_1, s2_1, s3_1, ⟨v1, ds, q0_1, q1_1, q2_1⟩⟩
 have z_1 := e_1.size
 have hds := q2_1
 have sp9_ : ∃ n, n = w5.heap.size := ⟨_, rfl⟩
 obtain ⟨n1, hn1⟩ := sp9_
 refine K3 (C.sq fun K5 => C.sr fun K6 => O.asg (K6 (C.bl fun K7 => ?_)))
 refine C.loop0 (σ := Nat × Value × Nat × List (List UInt8 × Raw) × List ItemT) (fun f0 w0 ⟨k, o, gl, raw, its⟩ f wz => f 4 = .int .i64 ((k : Int)) ∧ f 0 = f0 0 ∧ f 2 = f0 2 ∧ f 3 = f0 3 ∧ Le w wz ∧ Own wz b2 47 [.slice none 0 0, .slice none 0 0, .slice none 0 0] ∧ Own wz b3 47 [v1, .slice none 0 0, o] ∧ OG itemF 117 wz o gl raw ∧ Items wz (fun j => n0 ≤ j ∧ j < wz.heap.size ∧ j ≠ gl ∧ j ≠ b3 ∧ j ≠ b2) raw its ∧ Sl Dt.dotF.enc wz (fun j => n0 ≤ j ∧ j < n1 ∧ j ≠ b3 ∧ j ≠ b2) v1 ds ∧ k ≤ m ∧ its.length = k ∧ (∀ x ∈ its, x.1.length = 64 ∧ x.2.length = 1) ∧ (∀ j, bk o j → n1 ≤ j ∧ j ≠ b3 ∧ j ≠ b2) ∧ n1 ≤ wz.heap.size ∧ gl ≠ b2) (fun ⟨k, o, gl, raw, its⟩ => m - k) (0, .slice none 0 0, b3, [], []) ?_ ?_
 ·
  refine ⟨rfl, rfl, rfl, rfl, (Ext.new (Ext.trans e1 e2) e_1 (by intro i hi h; have h : i = b3 := h; omega)), ((h2.keep e2).keepM e_1 (by intro h; have h : _ = b3 := h; omega)), q0_1, (OG.nil (by omega)), Items.nil, ((q1_1).weakA), ?_⟩
  exact ⟨Nat.zero_le _, rfl, (fun x hx => by cases hx), fun _ h => h.elim, by omega, by omega⟩
 rintro ⟨k, o, gl, raw, its⟩ f_2 w6 ⟨s4_2, s0_2, s2_2, s3_2, e_2, r0_2, r1_2, r2_2, r3_2, r4_2, ⟨hk, hitn, hS, hob, hn1z, hglb⟩⟩
 have z_2 := e_2.size
 have hit := r3_2
 have hitl := hit.1
 have hogl := (r2_2).2.2
 have hogu := (r2_2).2.1
 have hbl3 := (r1_2).lt
 have hbl2 := (r0_2).lt
 have sp10_ : ∃ n, n = w6.heap.size := ⟨_, rfl⟩
 obtain ⟨n2, hn2⟩ := sp10_
 refine C.sq fun K8 => C.sr fun K9 => O.mv (O.mv (O.lssI s4_2 (Eq.trans s0_2 s0_1) (K9 (C.condD rfl (fun c16 => ?_) (fun c16 => ?_)))))
 ·
  have hk2 : k < m := by omega
  refine C.skip (K8 (C.sq fun K10 => C.bl fun K11 => C.sr fun K12 => O.mkF (G := byteF) (zx := 0) (m := 64) U30 ti5 tz5 ts5 rfl rfl rfl (by rw [tb5]; omega) (by unfold maxLen; omega) (Nat.le_refl _) (fun b19 w7 hb19 hz19 ho19 e7 => ?_)))
  have z7 := e7.size
  have ho19s := ho19.sl
  have hxl0 : (List.replicate 64 (0 : UInt8)).length = 64 := List.length_replicate ..
  refine O.asg (K12 (C.sq fun K13 => C.sr fun K14 => O.asg (K14 (C.bl fun K15 => C.loop0 (σ := Nat × List UInt8) (fun f0 w0 ⟨j, xs⟩ f wz => f 6 = .int .i64 ((j : Int)) ∧ f 0 = f0 0 ∧ f 2 = f0 2 ∧ f 3 = f0 3 ∧ f 4 = f0 4 ∧ f 5 = f0 5 ∧ Le w wz ∧ Own wz b2 47 [.slice none 0 0, .slice none 0 0, .slice none 0 0] ∧ Own wz b3 47 [v1, .slice none 0 0, o] ∧ OG itemF 117 wz o gl raw ∧ Items wz (fun j => n0 ≤ j ∧ j < n2 ∧ j ≠ gl ∧ j ≠ b3 ∧ j ≠ b2) raw its ∧ Sl Dt.dotF.enc wz (fun j => n0 ≤ j ∧ j < n1 ∧ j ≠ b3 ∧ j ≠ b2) v1 ds ∧ OwnF byteF 5 n2 wz (.slice (some ⟨b19, 0, none⟩) 64 64) xs ∧ j ≤ 64 ∧ xs.length = 64 ∧ n2 ≤ wz.heap.size) (fun ⟨j, xs⟩ => 64 - j) (0, List.replicate 64 0) ?_ ?_))))
  ·
   refine ⟨rfl, rfl, rfl, rfl, rfl, rfl, (Ext.trans e_2 e7), (r0_2.keep e7), (r1_2.keep e7), (r2_2.keep e7), (((r3_2.keep e7)).weakA), (r4_2.keep e7), ((ho19).low (by omega)), ?_⟩
   exact ⟨Nat.zero_le _, hxl0, by omega⟩
  rintro ⟨j, xs⟩ f_3 w8 ⟨s6_3, s0_3, s2_3, s3_3, s4_3, s5_3, e_3, r0_3, r1_3, r2_3, r3_3, r4_3, r5_3, ⟨hj, hxs, hn2z⟩⟩
  have z_3 := e_3.size
  have r5_3s := r5_3.sl
  refine C.sq fun K16 => C.sr fun K17 => O.mv (O.lssI s6_3 rfl (K17 (C.condD rfl (fun c21 => ?_) (fun c21 => ?_))))
  ·
   refine C.skip (K16 (C.sq fun K18 => C.bl fun K19 => C.region (O.mv (O.mv ?_))))
   have sp11_ := OwnF.ptr r5_3 (by omega)
   obtain ⟨g26, cap26, hv26⟩ := sp11_
   have ho26 := r5_3
   rw [hv26] at ho26
   refine O.idxO U30 Z5 (Eq.trans s5_3 hv26) s6_3 (by omega) (O.storeF (G := byteF) (110) Z5 rfl (fun _ => rfl) rfl rfl rfl ho26 (by omega) (fun w9 hs9 e9 z9 => ?_))
   rw [← hv26] at hs9
   refine O.nil (K19 (K18 (C.region (O.mv (O.addI s6_3 rfl (by unfold InI; omega) (O.asg (O.nil ?_)))))))
   refine ⟨(j + 1, _), ⟨rfl, s0_3, s2_3, s3_3, s4_3, s5_3, (Ext.new e_3 e9 (by intro i hi h; have h0 : i = g26 := h; have q1 := ho26.bk_ge g26 rfl; omega)), (r0_3.keepM e9 (by intro h; have h0 : _ = g26 := h; have q1 := ho26.bk_ge g26 rfl; omega)), (r1_3.keepM e9 (by intro h; have h0 : _ = g26 := h; have q1 := ho26.bk_ge g26 rfl; omega)), (r2_3.keepM e9 (by intro k hk h; have h0 : k = g26 := h; have q1 := ho26.bk_ge g26 rfl; omega)), (r3_3.keepM e9 (by intro k hk h; have h0 : k = g26 := h; have q1 := ho26.bk_ge g26 rfl; (try dsimp only at hk); omega)), (r4_3.keepM e9 (by intro k hk h; have h0 : k = g26 := h; have q1 := ho26.bk_ge g26 rfl; (try dsimp only at hk); omega)), hs9, ?_⟩, by first | omega | (simp only []; omega)⟩
   exact ⟨by omega, by rw [List.length_set]; exact hxs, by omega⟩
  have hj3 : j = 64 := by omega
  refine C.exit (K15 (K13 (C.sr fun K20 => O.mv (O.mv (O.mv (O.mv (O.quoI (Eq.trans s4_3 s4_2) rfl (by omega) (O.addI rfl rfl (by unfold InI; omega) (O.convIU (m' := 8) U3 U5 rfl rfl rfl (O.cast (v' := .int .u8 ((⟨_⟩ : UInt8).toNat : Int)) rfl (O.mv (O.quoI (Eq.trans s4_3 s4_2) rfl (by omega) (O.remI rfl rfl (by omega) (O.addI rfl rfl (by unfold InI; omega) (O.convIU (m' := 8) U3 U5 rfl rfl rfl (O.cast (v' := .int .u8 ((⟨_⟩ : UInt8).toNat : Int)) rfl (O.mv (O.remI (Eq.trans s4_3 s4_2) rfl (by omega) (O.addI rfl rfl (by unfold InI; omega) (O.convIU (m' := 8) U3 U5 rfl rfl rfl ?_))))))))))))))))))))
  refine O.cast (v' := .int .u8 ((⟨_⟩ : UInt8).toNat : Int)) rfl ?_
  have sp12_ := OwnF.ptr r5_3 (by (try simp only [List.length_set]); omega)
  obtain ⟨g43, cap43, hv43⟩ := sp12_
  have ho43 := r5_3
  rw [hv43] at ho43
  refine O.idxO U30 Z5 (Eq.trans s5_3 hv43) rfl (by (try simp only [List.length_set]); omega) (O.storeF (G := byteF) (⟨_⟩) Z5 rfl (fun _ => rfl) rfl rfl rfl ho43 (by (try simp only [List.length_set]); omega) (fun w10 hs10 e10 z10 => ?_))
  rw [← hv43] at hs10
  have sp13_ := OwnF.ptr hs10 (by (try simp only [List.length_set]); omega)
  obtain ⟨g44, cap44, hv44⟩ := sp13_
  have ho44 := hs10
  rw [hv44] at ho44
  refine O.idxO U30 Z5 (Eq.trans s5_3 hv44) rfl (by (try simp only [List.length_set]); omega) (O.storeF (G := byteF) (⟨_⟩) Z5 rfl (fun _ => rfl) rfl rfl rfl ho44 (by (try simp only [List.length_set]); omega) (fun w11 hs11 e11 z11 => ?_))
  rw [← hv44] at hs11
  have sp14_ := OwnF.ptr hs11 (by (try simp only [List.length_set]); omega)
  obtain ⟨g45, cap45, hv45⟩ := sp14_
  have ho45 := hs11
  rw [hv45] at ho45
  refine O.idxO U30 Z5 (Eq.trans s5_3 hv45) rfl (by (try simp only [List.length_set]); omega) (O.storeF (G := byteF) (⟨_⟩) Z5 rfl (fun _ => rfl) rfl rfl rfl ho45 (by (try simp only [List.length_set]); omega) (fun w12 hs12 e12 z12 => ?_))
  rw [← hv45] at hs12
  have hnme : ∃ nm : List UInt8, nm.length = 64 ∧ Sl byteE w12 (fun j => j = b19) (.slice (some ⟨b19, 0, none⟩) 64 64) nm := ⟨_, by simp only [List.length_set]; exact hxs, (hs12).sl.weak (fun j hj => hj)⟩
  obtain ⟨nm, hnml, hnms⟩ := hnme
  refine K20 (C.region (O.fa U47 rfl Z45 (Eq.trans s3_3 (Eq.trans s3_2 s3_1)) ?_))
  have t0 := r1_3.keepM e10 (by intro h; have h0 : _ = g43 := h; have q1 := ho43.bk_ge g43 rfl; omega)
  have t1 := t0.keepM e11 (by intro h; have h0 : _ = g44 := h; have q1 := ho44.bk_ge g44 rfl; omega)
  have t2 := t1.keepM e12 (by intro h; have h0 : _ = g45 := h; have q1 := ho45.bk_ge g45 rfl; omega)
  refine O.loadO isAgg45 rfl t2 rfl (O.mv (O.bytesS U30 U5 U9 s5_3 hnms (O.mv (O.addI (Eq.trans s4_3 s4_2) rfl (by unfold InI; omega) (O.build (cells := #[.int .i64 9, .int .i64 ((k : Int) + 1)]) rfl (by kernel_rfl) (O.build (cells := #[.int .i64 9, .int .i64 ((k : Int) + 1), .int .i64 1, .int .u64 1]) rfl (by kernel_rfl) (O.litG (G := markF) [(((9 : Int), (k : Int) + 1), 1, 1#64)] U115 ti114 ts114 tz114 rfl (by decide) (by decide) rfl (fun b54 w13 hb54 hz54 e13 => ?_))))))))
  have z13 := e13.size
  have h54 := hz54.own
  have hq54 := Sl.litG (n := 1) h54 rfl (by unfold maxLen; omega)
  have hl54 := h54.lt
  refine O.build (cells := #[str nm, .slice (some ⟨b54, 0, none⟩) 1 1]) rfl (by kernel_rfl) (O.litG (G := itemF) [(nm, (some ⟨b54, 0, none⟩, 1, 1))] U45 ti117 ts117 tz117 rfl (by decide) (by decide) rfl (fun b56 w14 hb56 hz56 e14 => ?_))
  have z14 := e14.size
  have h56 := hz56.own
  have hq56 := Sl.litG (n := 1) h56 rfl (by unfold maxLen; omega)
  have t3 := r2_3.keepM e10 (by intro k hk h; have h0 : k = g43 := h; have q1 := ho43.bk_ge g43 rfl; omega)
  have t4 := t3.keepM e11 (by intro k hk h; have h0 : k = g44 := h; have q1 := ho44.bk_ge g44 rfl; omega)
  have t5 := t4.keepM e12 (by intro k hk h; have h0 : k = g45 := h; have q1 := ho45.bk_ge g45 rfl; omega)
  refine O.appG (G := itemF) U45 ti117 tz117 ts117 rfl rfl rfl ((t5.keep e13).keep e14) hq56 (by rw [tb117, hit.1]; simp; omega) (by unfold maxLen; rw [hit.1]; simp; omega) (fun v57 gg57 w15 h57 hg57 e15 hw57 => ?_)
  have e15m := e15.mono (M' := fun k => k = _) (fun k _ hk => ((t5.keep e13).keep e14).2.1 k hk)
  have z15 := e15.size
  have hgl57 := h57.2.2
  have hob57 : ∀ j, bk v57 j → n1 ≤ j ∧ j ≠ b3 ∧ j ≠ b2 := by
   intro j hj
   rcases hw57 j hj with q | q
   ·exact hob j q
   ·omega
  have hg57 := hob57 gg57 (h57.bk (by simp))
  have hgg57 := (hw57 _ (h57.bk (by simp))).imp (hogu _) id
  have hit57 : Items w15 (fun j => n0 ≤ j ∧ j < w15.heap.size ∧ j ≠ gg57 ∧ j ≠ b3 ∧ j ≠ b2) (raw ++ [(nm, (some ⟨b54, 0, none⟩, 1, 1))]) (its ++ [(nm, [(((9 : Int), (k : Int) + 1), 1, 1#64)])]) := ((((((((r3_3.keepM e10 (by intro k hk h; have h0 : k = g43 := h; have q1 := ho43.bk_ge g43 rfl; (try dsimp only at hk); omega)).keepM e11 (by intro k hk h; have h0 : k = g44 := h; have q1 := ho44.bk_ge g44 rfl; (try dsimp only at hk); omega)).keepM e12 (by intro k hk h; have h0 : k = g45 := h; have q1 := ho45.bk_ge g45 rfl; (try dsimp only at hk); omega)).keep e13).keep e14).keepM e15 (by intro j hj h; exact hj.2.2.1 (hogu j h)))).weakA).snoc rfl ((((hq54.keep e14).keepM e15 (by intro j hj h; have hj : j = b54 := hj; have := hogu j h; omega))).weak (by intro j hj; have hj : j = b54 := hj; (try dsimp only); omega))
  have hS57 : ∀ x ∈ its ++ [(nm, [(((9 : Int), (k : Int) + 1), 1, 1#64)])], x.1.length = 64 ∧ x.2.length = 1 := by
   intro x hx
   rcases List.mem_append.1 hx with h | h
   ·exact hS x h
   ·obtain rfl := List.mem_singleton.1 h
    exact ⟨hnml, rfl⟩
  refine O.fa U47 rfl Z45 (Eq.trans s3_3 (Eq.trans s3_2 s3_1)) (O.store Z45 rfl rfl h57.1.one (((t2.keep e13).keep e14).keepM e15 (fun h => (hob _ h).2.1 rfl)) (by simp) (fun w16 hs16 e16 z16 => ?_))
  try simp only [Nat.zero_add] at hs16
  refine O.nil (K11 (K10 (C.region (O.mv (O.addI (Eq.trans s4_3 s4_2) rfl (by unfold InI; omega) (O.asg (O.nil ?_)))))))
  refine ⟨(k + 1, _, _, _, _), ⟨rfl, (Eq.trans s0_3 s0_2), (Eq.trans s2_3 s2_2), (Eq.trans s3_3 s3_2), (Ext.nr (Ext.new (Ext.trans (Ext.trans (Ext.new (Ext.new (Ext.new e_3 e10 (by intro i hi h; have h0 : i = g43 := h; have q1 := ho43.bk_ge g43 rfl; omega)) e11 (by intro i hi h; have h0 : i = g44 := h; have q1 := ho44.bk_ge g44 rfl; omega)) e12 (by intro i hi h; have h0 : i = g45 := h; have q1 := ho45.bk_ge g45 rfl; omega)) e13) e14) e15 (by intro i hi h; have := hob i h; omega)) e16), (((((((r0_3.keepM e10 (by intro h; have h0 : _ = g43 := h; have q1 := ho43.bk_ge g43 rfl; omega)).keepM e11 (by intro h; have h0 : _ = g44 := h; have q1 := ho44.bk_ge g44 rfl; omega)).keepM e12 (by intro h; have h0 : _ = g45 := h; have q1 := ho45.bk_ge g45 rfl; omega)).keep e13).keep e14).keepM e15 (fun h => (hob _ h).2.2 rfl)).keepO e16), hs16, (h57.keepA e16), (((hit57.keepA e16)).weakA), (((((((r4_3.keepM e10 (by intro k hk h; have h0 : k = g43 := h; have q1 := ho43.bk_ge g43 rfl; (try dsimp only at hk); omega)).keepM e11 (by intro k hk h; have h0 : k = g44 := h; have q1 := ho44.bk_ge g44 rfl; (try dsimp only at hk); omega)).keepM e12 (by intro k hk h; have h0 : k = g45 := h; have q1 := ho45.bk_ge g45 rfl; (try dsimp only at hk); omega)).keep e13).keep e14).keepM e15 (by intro j hj h; have q3 := hogu j h; have q4 := hob j h; omega)).keepA e16), ?_⟩, by first | omega | (simp only []; omega)⟩
  exact ⟨by omega, by rw [List.length_append, hitn]; rfl, hS57, hob57, by omega, hg57.2.2⟩
 refine C.exit (K7 (K5 (C.sr fun K21 => O.loadOA isAgg47 Z47 (Eq.trans s3_2 s3_1) r1_2 (leB rfl) (O.storeA (vs := [v1, .slice none 0 0, o]) Z47 rfl (Eq.trans s2_2 s2_1) rfl (ones3c (r4_2).oneC rfl (r2_2).1.one) r0_2 (leB rfl) (fun w17 hs17 e17 z17 => K21 (C.ret (Outs.cellA rfl isAgg47 Z47 (Eq.trans s2_2 s2_1) hs17 rfl ?_)))))))
 have sp15_ := ((r4_2.keepA e17)).slv
 obtain ⟨q1, hq1⟩ := sp15_
 have sp16_ := ((r2_2.keepA e17)).1.sl.slv
 obtain ⟨q3, hq3⟩ := sp16_
 have hog9 := (r2_2.keepA e17)
 have hbk9 := hog9.1.bk_ge
 have hc1 := ((r4_2.keepA e17)).weak (F' := fun j => w.heap.size ≤ j ∧ j < w17.heap.size) (fun j hj => by (try dsimp only at hj); (try dsimp only); omega)
 have hc3 := (((r3_2.keepA e17)).weak (F' := fun j => w.heap.size ≤ j ∧ j < w17.heap.size) (fun j hj => by (try dsimp only at hj); (try dsimp only); omega)).sl (hog9.1.sl.weak (fun j hj => by have := hbk9 j hj; have := hob j hj; (try dsimp only); omega))
 subst hq1
 subst hq3
 exact ⟨q1, (none, 0, 0), q3, ((ds, []), its), rfl, ⟨hc1, Sl.nil _ _ _, hc3⟩, ⟨hds, rfl, by show its.length ≤ 1000; omega, hS⟩, (Ext.nr e_2 e17)⟩
theorem batchSplits0_spec (v0 : Value) (raw : List EntR) (l : List EntT) (F : Nat → Prop) (x1 : BitVec 16) (v2 : Value) (m : List UInt8) (F2 : Nat → Prop) (w : World) (hr : Sl entF.enc w F v0 raw) (he : EntL w F raw l) (hm : Sl byteE w F2 v2 m) (hF : ∀ k, F k → k < w.heap.size) (hF2 : ∀ k, F2 k → k < w.heap.size) (mx : Mx w) :
 Ret prog 6 #[v0, .int .u16 ((x1).toNat : Int), v2] w (fun v w' => v = .bool true ∧ Le w w') := by
 obtain ⟨ie50, ti50, ts50, tb50, tz50⟩ := inf50
 have hl := he.1
 have hrl := hr.le
 have hml := hm.le
 have hgl := mx.lt
 have hx1 := x1.isLt
 have _hF9 := hF
 have _hF8 := hF2
 refine enT [v0, .int .u16 ((x1).toNat : Int), v2] 80 func6 rfl rfl (C.sr fun K1 => O.asg (K1 (C.sq fun K2 => C.sr fun K3 => O.mv (O.call call15 (args2 rfl rfl) (smallL_spec v0 raw l F 12 _ hr he) ?_))))
 rintro v_12 w1 ⟨rfl, e1⟩
 have z1 := e1.size
 refine O.not rfl (O.mv (O.split (x := .tmp 14) rfl (fun c14 => ?_) (fun c14 => ?_)))
 ·
  refine O.no rfl (noB (isT' rfl c14) rfl) (O.no rfl (noB (isT' rfl c14) rfl) (O.pickT (isT' rfl c14) (O.mv (O.no rfl (noB rfl rfl) (O.no rfl (noB rfl rfl) (O.no rfl (noB rfl rfl) (O.pickT rfl (K3 (C.condT rfl (C.sr fun K4 => O.call call16 (argsN) (bknown_spec _ (mx.keep e1)) ?_))))))))))
  rintro v_23 w2 ⟨rfl, e2⟩
  have z2 := e2.size
  refine O.asg (K4 (C.ret (Outs.one rfl rfl ?_)))
  exact ⟨rfl, (Ext.trans e1 e2)⟩
 have hsm : Bt.small l 12 = true := by simpa using c14
 have hsmB := Bt.small_Big hsm
 have hsml := Bt.small_len hsm
 have hsmf := Bt.small_flat hsm
 have hsme := Bt.enc_le hsm
 have hsmv := Bt.small_valid hsm (by omega)
 have hsmM := Bt.small_mid hsm
 refine O.yes rfl (isF' rfl c14) (O.mv (O.yes rfl (isF' rfl c14) (O.gtrU (m := 16) (b := 1000#16) rfl rfl (O.pickF (isF' rfl c14) (O.mv (O.splitD (x := .tmp 18) rfl (fun c18 => ?_) (fun c18 => ?_)))))))
 ·
  refine O.no rfl (noB (isT rfl c18) rfl) (O.no rfl (noB (isT rfl c18) rfl) (O.no rfl (noB (isT rfl c18) rfl) (O.pickT (isT rfl c18) (K3 (C.condT rfl (C.sr fun K5 => O.call call16 (argsN) (bknown_spec _ (mx.keep e1)) ?_))))))
  rintro v_23 w3 ⟨rfl, e3⟩
  have z3 := e3.size
  refine O.asg (K5 (C.ret (Outs.one rfl rfl ?_)))
  exact ⟨rfl, (Ext.trans e1 e3)⟩
 have hxm : x1.toNat ≤ 1000 := by
  have q : ¬ (1000#16).toNat < x1.toNat := fun q => c18 (BitVec.lt_def.2 q)
  simpa using q
 refine O.yes rfl (isF rfl c18) (O.mv (O.yes rfl (isF rfl c18) (O.len U30 rfl (hm.keep e1) (O.yes rfl (isF rfl c18) (O.gtrI rfl rfl (O.pickF (isF rfl c18) (K3 (C.condD rfl (fun c22 => ?_) (fun c22 => ?_)))))))))
 ·
  refine C.sr fun K6 => O.call call16 (argsN) (bknown_spec _ (mx.keep e1)) ?_
  rintro v_23 w4 ⟨rfl, e4⟩
  have z4 := e4.size
  refine O.asg (K6 (C.ret (Outs.one rfl rfl ?_)))
  exact ⟨rfl, (Ext.trans e1 e4)⟩
 refine C.skip (K2 (C.sq fun K7 => C.sr fun K8 => O.mv (O.call call19 (args1 rfl) (lordered_spec v0 raw l F _ (hr.keep e1) (he.keep e1) (fun j hj => by have q1 := hF j hj; omega) hsmB (mx.keep e1)) ?_)))
 rintro v_25 w5 ⟨rfl, e5⟩
 have z5 := e5.size
 refine O.not rfl (K8 (C.cond rfl (fun c26 => ?_) (fun c26 => ?_)))
 ·
  have hoN : Bt.ordered l = false := by simpa using c26
  refine C.sr fun K9 => O.mv (O.call call26 (args1 rfl) (bsplit_spec v0 raw l F _ ((hr.keep e1).keep e5) ((he.keep e1).keep e5) (fun j hj => by have q1 := hF j hj; omega) hsmB ((mx.keep e1).keep e5) (fun x hx => by have := Bt.small_ent hsm x hx; omega) (by omega)) ?_)
  rintro v_29 w6 ⟨uv29, e9v29, bsv29, rfl, hv29, hRv29, e6⟩
  have z6 := e6.size
  have hq29 : e9v29 = 2 ∧ bsv29 = [] := by
   rcases hRv29 with ⟨h1, _⟩ | ⟨_, h1, h2⟩
   ·rw [hoN] at h1; cases h1
   ·exact ⟨h1, h2⟩
  rw [hq29.2] at hv29
  refine O.mv (O.extract rfl rfl (O.extract rfl rfl (O.cast (v' := .int .i64 2) (congrArg (Value.int .i64) hq29.1) (O.asg (O.asg (K9 (C.sr fun K10 => O.mv (O.len U38 rfl hv29 (O.eqlI rfl rfl (O.cast (v' := .bool true) (congrArg Value.bool (by exact decide_eq_true rfl)) (O.mv (O.yes rfl rfl (O.mv (O.yes rfl rfl (O.eqlI rfl rfl (O.cast (v' := .bool true) rfl (O.pickT rfl (O.mv (O.yes rfl rfl (O.call call16 (argsN) (bknown_spec _ (((mx.keep e1).keep e5).keep e6)) ?_))))))))))))))))))))
  rintro v_40 w7 ⟨rfl, e7⟩
  have z7 := e7.size
  refine O.pickT rfl (O.asg (K10 (C.ret (Outs.one rfl rfl ?_))))
  exact ⟨rfl, (Ext.trans (Ext.trans (Ext.trans e1 e5) e6) e7)⟩
 refine C.skip (K7 (C.sr fun K11 => O.mv (O.call call17 (args1 rfl) (copyL_spec v0 raw l F _ ((hr.keep e1).keep e5) ((he.keep e1).keep e5) (fun j hj => by have q1 := hF j hj; omega) hsmB (by omega) ((mx.keep e1).keep e5)) ?_)))
 rintro v_43 w8 ⟨h43, e8⟩
 have z8 := e8.size
 obtain ⟨rw43, hra43, hea43⟩ := h43
 have ho43 := hra43.1
 have hobk : ∀ j, bk v_43 j → w.heap.size ≤ j ∧ j < w8.heap.size := fun j hj => by have := hra43.2 j hj; omega
 have sp1_ : ∃ n, n = w8.heap.size := ⟨_, rfl⟩
 obtain ⟨n4, hn4⟩ := sp1_
 rw [← hn4] at hobk
 have he43 := hea43.weak (F' := fun j => j < n4 ∧ ¬ bk v_43 j) (fun j hj => by have := hj.2; (try dsimp only); exact ⟨by omega, hj.2.2⟩)
 refine O.asg (K11 (C.sq fun K12 => C.sr fun K13 => O.asg (K13 (C.bl fun K14 => C.loop0 (σ := Nat × List EntR × List EntT × Nat) (fun f0 w0 ⟨i, rr, lo, hi⟩ f wz => f 10 = .int .i64 ((i : Int)) ∧ f 0 = f0 0 ∧ f 1 = f0 1 ∧ f 2 = f0 2 ∧ f 6 = f0 6 ∧ f 9 = f0 9 ∧ Le w wz ∧ OwnF entF 50 0 wz v_43 rr ∧ EntL wz (fun j => j < hi ∧ ¬ bk v_43 j) rr lo ∧ i ≤ m.length ∧ lo.length = l.length ∧ Bt.Mixd lo ∧ (hi ≤ wz.heap.size ∧ n4 ≤ wz.heap.size)) (fun ⟨i, rr, lo, hi⟩ => m.length - i) (0, rw43, l, n4) ?_ ?_))))
 ·
  refine ⟨rfl, rfl, rfl, rfl, rfl, rfl, (Ext.trans (Ext.trans e1 e5) e8), ho43, he43, ?_⟩
  exact ⟨Nat.zero_le _, rfl, Bt.Mixd.of hsm, by omega⟩
 rintro ⟨i, rr, lo, hi⟩ f_1 w9 ⟨s10_1, s0_1, s1_1, s2_1, s6_1, s9_1, e_1, r0_1, r1_1, ⟨hi9, hlo, hxM, hhz⟩⟩
 have z_1 := e_1.size
 have r0_1s := r0_1.sl
 have hrre := (r1_1).1
 refine C.sq fun K15 => C.sr fun K16 => O.mv (O.mv (O.len U30 s2_1 (hm.keep e_1) (O.lssI s10_1 rfl (O.mv (O.cut 4 (fun f f' => f' 52 = .bool (decide ((i : Int) < (m.length : Int) ∧ (raw.length : Int) > 0)) ∧ f' 0 = f 0 ∧ f' 1 = f 1 ∧ f' 2 = f 2 ∧ f' 6 = f 6 ∧ f' 9 = f 9 ∧ f' 10 = f 10) ?_ ?_)))))
 ·
  refine O.splitD (x := .tmp 48) rfl (fun c48 => ?_) (fun c48 => ?_)
  ·
   refine O.yes rfl (isT rfl c48) (O.mv (O.yes rfl (isT rfl c48) (O.len U22 s0_1 (hr.keep e_1) (O.yes rfl (isT rfl c48) (O.gtrI rfl rfl (O.pickT (isT rfl c48) (O.nil (⟨⟨?_, rfl, rfl, rfl, rfl, rfl, rfl⟩, rfl⟩))))))))
   exact dJ rfl
  refine O.no rfl (noB (isF rfl c48) rfl) (O.no rfl (noB (isF rfl c48) rfl) (O.no rfl (noB (isF rfl c48) rfl) (O.pickF (isF rfl c48) (O.nil (⟨⟨?_, rfl, rfl, rfl, rfl, rfl, rfl⟩, rfl⟩)))))
  exact dJ rfl
 rintro f_2 ⟨s52_2, s0_2, s1_2, s2_2, s6_2, s9_2, s10_2⟩
 refine K16 (C.condD s52_2 (fun c52 => ?_) (fun c52 => ?_))
 ·
  have hk2 : i < m.length := by omega
  have sp2_ : ∃ y : UInt8, y = m[i] := ⟨_, rfl⟩
  obtain ⟨y, hy⟩ := sp2_
  have hyl := y.toBitVec.isLt
  refine C.skip (K15 (C.sq fun K17 => C.bl fun K18 => C.drawB (wB := w) (by kernel_rfl) fun w10 e10 => ?_))
  have z10 := e10.size
  have t0 := Ext.trans e_1 e10
  refine D.mv 0 rfl t0 (D.mv 1 rfl t0 (D.mv 2 rfl t0 ?_))
  have sp3_ := Sl.at (i := (i : Int)) (P := prog) U30 Z5 rfl hm (by omega)
  obtain ⟨a58, h58, hr58⟩ := sp3_
  refine D.t 3 rfl t0 (fun _ _ _ hN => O.idxR (Eq.trans s2_2 s2_1) (Eq.trans s10_2 s10_1) hr58 (O.nil hN)) (D.t 4 rfl t0 (fun _ hw_ _ hN => O.loadB isAgg5 rfl (h58.keep hw_) (O.nil hN)) (D.cast (v' := .int .u8 (y.toBitVec.toNat : Int)) (by rw [hy]; rfl) (D.t 5 rfl t0 (fun _ _ _ hN => O.convUI (m := 8) U5 U3 rfl (by decide) (O.nil hN)) (D.mv 6 rfl t0 (D.tk 7 rfl rfl rfl rfl t0 len_form (fun _ hw_ _ hN => O.len U22 (Eq.trans s0_2 s0_1) (hr.keep hw_) (O.nil hN)) (D.t 8 rfl t0 (fun _ _ _ hN => O.remI rfl rfl (by omega) (O.nil hN)) ?_))))))
  have sp4_ : ∃ j : Nat, (y.toBitVec.toNat : Int) % (raw.length : Int) = (j : Int) ∧ j < raw.length := ⟨y.toBitVec.toNat % raw.length, by rw [Int.natCast_emod], Nat.mod_lt _ (by omega)⟩
  obtain ⟨j, hj, hjl⟩ := sp4_
  refine D.cast (v' := .int .i64 (j : Int)) (congrArg (Value.int .i64) hj) (D.mv 9 rfl t0 (D.t 10 rfl t0 (fun _ _ _ hN => O.convUI (m := 16) underlying36 U3 (Eq.trans s1_2 s1_1) (by decide) (O.nil hN)) (D.on 11 rfl rfl (O.call call27 (args1 rfl) (great_spec x1.toNat _ hxm) ?_))))
  rintro v_66 w11 ⟨pav66, pbv66, pcv66, ccv66, rfl, hcav66, hgrv66, e11⟩
  have z11 := e11.size
  have t1 := Ext.trans t0 e11
  refine O.nil ⟨t1, ?_⟩
  have sp5_ : ∃ n, n = w11.heap.size := ⟨_, rfl⟩
  obtain ⟨wa, hwa⟩ := sp5_
  have sp6_ := OwnF.ptr ((r0_1.keep e10).keep e11) (by omega)
  obtain ⟨g67, cap67, hv67⟩ := sp6_
  have ho67 := ((r0_1.keep e10).keep e11)
  rw [hv67] at ho67
  refine D.t 12 rfl t1 (fun _ _ _ hN => O.idxO U22 Z50 (Eq.trans (Eq.trans s9_2 s9_1) hv67) rfl (by omega) (O.nil hN)) (D.t 13 rfl t1 (fun _ _ _ hN => O.fa U50 rfl Z47 rfl (O.nil hN)) (D.on 14 rfl rfl (O.storeP (G := entF) (i := j) (off := 1) (vs := [slv pav66, slv pbv66, slv pcv66]) (((rr[j]'(by omega)).1, ((pav66, pbv66), pcv66))) (by simp [entF]) Z47 rfl rfl rfl (by intro u hu; simp only [List.mem_cons, List.not_mem_nil, or_false] at hu; rcases hu with rfl | rfl | rfl <;> rfl) ho67 (by omega) (Nat.le_refl _) rfl (fun w12 hs12 e12 z12 => ?_))))
  rw [← hv67] at hs12
  have t2 := ((r1_1.keep e10).keep e11).keepM e12 (by intro k hk h; exact hk.2 (by rw [hv67]; exact h))
  have hex : EntL w12 (fun q => q < wa ∧ ¬ bk v_43 q) (rr.set j ((rr[j]'(by omega)).1, ((pav66, pbv66), pcv66))) (lo.set j ((lo[j]'(by omega)).1, ccv66)) := ((t2).weak (fun q hq => by (try dsimp only at hq); (try dsimp only); exact ⟨by omega, hq.2⟩)).set (by have q := ((t2).2 j (by omega) (by omega)).1; exact q) (((hcav66.keepM e12 (by intro k hk h; have h0 : k = g67 := h; have q1 := hobk g67 (by rw [hv67]; rfl); (try dsimp only at hk); omega))).weak (fun q hq => by (try dsimp only at hq); (try dsimp only); exact ⟨by omega, fun h => by have := hobk q h; omega⟩))
  have t3 := Ext.new t1 e12 (by intro i hi h; have h0 : i = g67 := h; have q1 := hobk g67 (by rw [hv67]; rfl); omega)
  refine O.nil ⟨t3, D.dn (K18 (K17 (C.region (O.mv (O.addI (Eq.trans s10_2 s10_1) rfl (by unfold InI; omega) (O.asg (O.nil (⟨(i + 1, rr.set j ((rr[j]'(by omega)).1, ((pav66, pbv66), pcv66)), lo.set j ((lo[j]'(by omega)).1, ccv66), wa), ⟨rfl, (Eq.trans s0_2 s0_1), (Eq.trans s1_2 s1_1), (Eq.trans s2_2 s2_1), (Eq.trans s6_2 s6_1), (Eq.trans s9_2 s9_1), t3, hs12, hex, ?_⟩, by first | omega | (simp only []; omega)⟩))))))))⟩
  exact ⟨by omega, by rw [List.length_set]; exact hlo, hxM.set (by omega) hgrv66, by omega⟩
 have hsw := (r0_1).sl.weak (F' := fun j => j < w9.heap.size) (fun j hj => by have := hobk j hj; (try dsimp only); omega)
 have hew := (r1_1).weak (F' := fun j => j < w9.heap.size) (fun j hj => by (try dsimp only at hj); (try dsimp only); omega)
 have hxB := hxM.big
 have hxf := hxM.flat
 refine C.exit (K14 (K12 (C.sq fun K19 => C.sr fun K20 => O.mv (O.call call19 (args1 (Eq.trans s9_2 s9_1)) (lordered_spec v_43 rr lo _ _ hsw hew (fun j hj => by (try dsimp only at hj); omega) hxB (mx.keep e_1)) ?_))))
 rintro v_70 w13 ⟨rfl, e13⟩
 have z13 := e13.size
 refine O.not rfl (K20 (C.cond rfl (fun c71 => ?_) (fun c71 => ?_)))
 ·
  refine C.sr fun K21 => O.call call16 (argsN) (bknown_spec _ ((mx.keep e_1).keep e13)) ?_
  rintro v_72 w14 ⟨rfl, e14⟩
  have z14 := e14.size
  refine O.asg (K21 (C.ret (Outs.one rfl rfl ?_)))
  exact ⟨rfl, (Ext.trans (Ext.trans e_1 e13) e14)⟩
 have hoY : Bt.ordered lo = true := by simpa using c71
 refine C.skip (K19 (C.sr fun K22 => O.mv (O.mv ?_)))
 have t4 := (mx.keep e_1).keep e13
 refine O.call call29 (args1 (Eq.trans s9_2 s9_1)) (rsplit_spec v_43 rr lo _ _ (hsw.keep e13) (hew.keep e13) (fun j hj => by (try dsimp only at hj); omega) hxB (by omega) (by omega) t4) ?_
 rintro v_75 w15 ⟨h75, e15⟩
 have z15 := e15.size
 have sp7_ := h75.raws1
 obtain ⟨ro75, hro, hso⟩ := sp7_
 have hrow := hro.weak (F' := fun j => j < w15.heap.size) (fun j hj => by (try dsimp only at hj); (try dsimp only); omega)
 have hsow := hso.weak (F' := fun j => j < w15.heap.size) (fun j hj => by (try dsimp only at hj); (try dsimp only); omega)
 refine O.call call28 (args2 (Eq.trans s9_2 s9_1) rfl) (splits_spec v_43 rr lo _ v_75 ro75 (fun j => j < w15.heap.size) _ ((hsw.keep e13).keep e15) ((hew.keep e13).keep e15) (fun j hj => by (try dsimp only at hj); omega) (fun j hj => hj) hxB (t4.keep e15) hrow hsow hoY (fun x hx => by have := hxM.ent x hx; omega) (by omega) (by omega)) ?_
 rintro v_76 w16 ⟨rfl, e16⟩
 have z16 := e16.size
 refine O.mv (O.yes rfl rfl (O.call call16 (argsN) (bknown_spec _ ((t4.keep e15).keep e16)) ?_))
 rintro v_78 w17 ⟨rfl, e17⟩
 have z17 := e17.size
 refine O.pickT rfl (O.asg (K22 (C.ret (Outs.one rfl rfl ?_))))
 exact ⟨rfl, (Ext.trans (Ext.trans (Ext.trans (Ext.trans e_1 e13) e15) e16) e17)⟩
theorem batchSplits_spec (v0 : Value) (l : List EntT) (x1 : BitVec 16) (v2 : Value) (m : List UInt8) (F : Nat → Prop) (w : World) (hl : Sl entE w F v0 l) (hm : Sl byteE w F v2 m) (hF : ∀ k, F k → k < w.heap.size) (mx : Mx w) : Ret prog 6 #[v0, .int .u16 (x1.toNat : Int), v2] w (fun v w' => v = .bool true ∧ Le w w') := by
 obtain ⟨raw, hr, he⟩ := hl.ents
 exact batchSplits0_spec v0 raw l F x1 v2 m F w hr he hm hF hF mx
end Go.Proofs.YtpbcafkcfobngaaGreatDoor
