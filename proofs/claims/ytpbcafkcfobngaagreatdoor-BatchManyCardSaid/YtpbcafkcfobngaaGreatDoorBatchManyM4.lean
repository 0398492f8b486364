/-
 The walks of the law of batches: splits, long carts. Conditions: slices as they lie in memory.
-/
import Derived.Test.YtpbcafkcfobngaaGreatDoorBatchManyM3
set_option maxHeartbeats 16000000
namespace Go.Proofs.YtpbcafkcfobngaaGreatDoor
open Go.Pn Go.RowKit Go.Proofs _root_.Go.Proofs.Tryz
attribute [local irreducible] O C D
theorem splits_spec (v0 : Value) (raw : List EntR) (l : List EntT) (F : Nat → Prop) (v1 : Value) (ro : List Raw) (F2 : Nat → Prop) (w : World) (hr : Sl entF.enc w F v0 raw) (he : EntL w F raw l) (hF : ∀ k, F k → k < w.heap.size) (hF2 : ∀ k, F2 k → k < w.heap.size) (hB : Bt.Big l) (mx : Mx w) (hw : Sl slF.enc w F2 v1 ro) (hss : SlsL entE w F2 ro (Bt.split l)) (hO : Bt.ordered l = true) (hE : ∀ x ∈ l, (Bt.entB x).length ≤ 300000) (hT : (l.flatMap Bt.entB).length ≤ 100000000) (hn : l.length ≤ 1100) :
 Ret prog 28 #[v0, v1] w (fun v w' => v = .bool true ∧ Le w w') := by
 have hl := he.1
 have hrol := hss.1
 have hrole := hw.le
 have hD := Bt.ord_iff.1 hO
 refine enT [v0, v1] 40 func28 rfl rfl (C.sr fun K1 => O.asg (K1 (C.sr fun K2 => O.mv (O.call call26 (args1 rfl) (bsplit_spec v0 raw l F _ hr he (fun j hj => by have q1 := hF j hj; omega) hB mx (fun x hx => by have := hE x hx; omega) (by omega)) ?_))))
 rintro v_10 w1 ⟨uv10, e9v10, bsv10, rfl, hv10, hRv10, e1⟩
 have z1 := e1.size
 have hq10 : e9v10 = 0 ∧ bsv10 = (Bt.split l).map Bt.enc := by
  rcases hRv10 with ⟨_, h1, h2⟩ | ⟨h1, _⟩
  ·exact ⟨h1, h2⟩
  ·rw [hO] at h1; cases h1
 rw [hq10.2] at hv10
 have sp1_ := hv10.raws1
 obtain ⟨rb, hrb, hsb⟩ := sp1_
 have hrbl := hsb.1
 have hrbe := hrb.le
 rw [List.length_map] at hrbl
 refine O.mv (O.extract rfl rfl (O.extract rfl rfl (O.cast (v' := .int .i64 0) (congrArg (Value.int .i64) hq10.1) (O.asg (O.asg (K2 (C.sq fun K3 => C.sr fun K4 => O.mv (O.len U38 rfl hrb (O.mv (O.len underlying52 rfl (hw.keep e1) (O.neqI rfl rfl (O.cast (v' := .bool false) (congrArg Value.bool (by exact decide_eq_false (by omega))) (O.mv (O.yes rfl rfl (O.mv (O.yes rfl rfl (O.neqI rfl rfl (O.cast (v' := .bool false) rfl (O.pickF rfl (K4 (C.condF rfl (C.skip (K3 (C.sq fun K5 => C.sr fun K6 => O.asg (K6 (C.bl fun K7 => ?_))))))))))))))))))))))))))
 refine C.loop0 (σ := Nat) (fun f0 w0 k f w => f 7 = .int .i64 ((k : Int)) ∧ f 1 = f0 1 ∧ f 5 = f0 5 ∧ Le w0 w ∧ k ≤ (Bt.split l).length) (fun k => (Bt.split l).length - k) 0 ?_ ?_
 ·
  refine ⟨rfl, rfl, rfl, Le.refl _, ?_⟩
  exact Nat.zero_le _
 rintro k f_1 w2 ⟨s7_1, s1_1, s5_1, e_1, hk⟩
 have z_1 := e_1.size
 refine C.sq fun K8 => C.sr fun K9 => O.mv (O.mv (O.len U38 s5_1 (hrb.keep e_1) (O.lssI s7_1 rfl (K9 (C.condD rfl (fun c25 => ?_) (fun c25 => ?_))))))
 ·
  have hk2 : k < (Bt.split l).length := by omega
  have sp2_ : ∃ g, g = (Bt.split l)[k] := ⟨_, rfl⟩
  obtain ⟨g, hg⟩ := sp2_
  have hgm : g ∈ Bt.split l := by rw [hg]; exact List.getElem_mem _
  have hsub := Bt.split_sub hgm
  have hgB : Bt.Big g := hB.sub (fun y hy => hsub.subset hy)
  have hgl := hsub.length_le
  have hgf := Bt.flat_sub hsub
  have sp3_ : ∃ q : Raw, q = rb[k]'(by omega) := ⟨_, rfl⟩
  obtain ⟨q, hq⟩ := sp3_
  have sp4_ : ∃ q : Raw, q = ro[k]'(by omega) := ⟨_, rfl⟩
  obtain ⟨q2, hq2⟩ := sp4_
  have hb9 := ((hsb.keep e_1)).2 k (by omega) (by rw [List.length_map]; omega)
  rw [List.getElem_map, ← hg, ← hq] at hb9
  have hw9 := (((hss.keep e1).keep e_1)).2 k (by omega) hk2
  rw [← hg, ← hq2] at hw9
  have sp5_ := hw9.ents
  obtain ⟨rawg, hrg, heg⟩ := sp5_
  refine C.skip (K8 (C.sq fun K10 => C.bl fun K11 => C.sd fun K12 w3 e3 z3 => D.mv 0 rfl (Le.refl _) (D.mv 1 rfl (Le.refl _) ?_)))
  have sp6_ := Sl.at (i := (k : Int)) (P := prog) U38 Z30 rfl ((hrb.keep e_1).keep e3) (by omega)
  obtain ⟨a30, h30, hr30⟩ := sp6_
  refine D.t 2 rfl (Le.refl _) (fun _ _ _ hN => O.idxR s5_1 s7_1 hr30 (O.nil hN)) (D.t 3 rfl (Le.refl _) (fun _ hw_ _ hN => O.load1F (G := slF) isAgg30 rfl rfl rfl (h30.keep hw_) (O.nil hN)) (D.cast (v' := slv q) (by rw [hq]; rfl) (D.t 4 rfl (Le.refl _) (fun _ hw_ _ hN => O.bytesS U30 U5 U9 rfl ((hb9.keep e3).keep hw_) (O.nil hN)) (D.mv 5 rfl (Le.refl _) (D.mv 6 rfl (Le.refl _) ?_)))))
  have sp7_ := Sl.at (i := (k : Int)) (P := prog) underlying52 sizeOf22 rfl (((hw.keep e1).keep e_1).keep e3) (by omega)
  obtain ⟨a35, h35, hr35⟩ := sp7_
  refine D.t 7 rfl (Le.refl _) (fun _ _ _ hN => O.idxR s1_1 s7_1 hr35 (O.nil hN)) (D.t 8 rfl (Le.refl _) (fun _ hw_ _ hN => O.load1F (G := slF) isAgg22 rfl rfl rfl (h35.keep hw_) (O.nil hN)) (D.cast (v' := slv q2) (by rw [hq2]; rfl) (D.on 9 rfl rfl (O.call call22 (args1 rfl) (lwhole_spec (slv q2) rawg g F2 _ (hrg.keep e3) (heg.keep e3) (fun j hj => by have q1 := hF2 j hj; omega) hgB (by omega) (by omega)) ?_))))
  rintro v_37 w4 ⟨e4, h37⟩
  have z4 := e4.size
  refine O.nil ⟨e4, ?_⟩
  have h37s := h37.sl
  refine D.on 10 rfl rfl (O.bytesS U30 U5 U9 rfl h37s (O.nil ⟨e4, D.t 11 rfl e4 (fun _ _ _ hN => O.neqS rfl rfl (O.nil hN)) (D.cast (v' := .bool false) (congrArg Value.bool (by exact decide_eq_false (fun h => h rfl))) (K12 (C.condF rfl (C.skip (K11 (K10 (C.region (O.mv (O.addI s7_1 rfl (by unfold InI; omega) (O.asg (O.nil (⟨(k + 1), ⟨rfl, s1_1, s5_1, (Ext.trans (Ext.trans e_1 e3) e4), ?_⟩, by first | omega | (simp only []; omega)⟩))))))))))))⟩))
  omega
 refine C.exit (K7 (K5 (C.sr fun K13 => O.asg (K13 (C.ret (Outs.one rfl rfl ?_))))))
 exact ⟨rfl, (Ext.trans e1 e_1)⟩
theorem batchMany_spec (x : Int) (w : World) (mx : Mx w) :
 Ret prog 7 #[.int .i64 (x)] w (fun v w' => v = .bool true ∧ Le w w') := by
 obtain ⟨ie50, ti50, ts50, tb50, tz50⟩ := inf50
 obtain ⟨ie5, ti5, ts5, tb5, tz5⟩ := inf5
 have hgl := mx.lt
 refine enT [.int .i64 (x)] 91 func7 rfl rfl (C.sr fun K1 => O.asg (K1 (C.sq fun K2 => C.sr fun K3 => O.mv (O.lssI rfl rfl (O.mv (O.cut 7 (fun f f' => f' 15 = .bool (decide (x < 0 ∨ x > 300 ∧ x < 1022)) ∧ f' 0 = f 0 ∧ f' 2 = f 2) ?_ ?_))))))
 ·
  refine O.splitD (x := .tmp 8) rfl (fun c8 => ?_) (fun c8 => ?_)
  ·
   refine O.no rfl (noB (isT rfl c8) rfl) (O.no rfl (noB (isT rfl c8) rfl) (O.no rfl (noB (isT rfl c8) rfl) (O.no rfl (noU rfl) (O.no rfl (noU rfl) (O.no rfl (noB (isT rfl c8) rfl) (O.pickT (isT rfl c8) (O.nil (⟨⟨?_, rfl, rfl⟩, rfl⟩))))))))
   first | exact Eq.trans rfl (congrArg Value.bool (decide_eq_true (by omega)).symm) | exact Eq.trans rfl (congrArg Value.bool (decide_eq_false (by omega)).symm) | exact Eq.trans rfl (congrArg Value.bool (decide_eq_decide.2 (by omega)))
  refine O.yes rfl (isF rfl c8) (O.mv (O.yes rfl (isF rfl c8) (O.gtrI rfl rfl (O.yes rfl (isF rfl c8) (O.mv (O.splitD (x := .tmp 11) rfl (fun c11 => ?_) (fun c11 => ?_)))))))
  ·
   refine O.yes rfl (isT rfl c11) (O.mv (O.yes rfl (isT rfl c11) (O.lssI rfl rfl (O.yes rfl (isF rfl c8) (O.pickT (isT rfl c11) (O.pickF (isF rfl c8) (O.nil (⟨⟨?_, rfl, rfl⟩, rfl⟩))))))))
   first | exact Eq.trans rfl (congrArg Value.bool (decide_eq_true (by omega)).symm) | exact Eq.trans rfl (congrArg Value.bool (decide_eq_false (by omega)).symm) | exact Eq.trans rfl (congrArg Value.bool (decide_eq_decide.2 (by omega)))
  refine O.no rfl (noB (isF rfl c11) rfl) (O.no rfl (noB (isF rfl c11) rfl) (O.yes rfl (isF rfl c8) (O.pickF (isF rfl c11) (O.pickF (isF rfl c8) (O.nil (⟨⟨?_, rfl, rfl⟩, rfl⟩))))))
  first | exact Eq.trans rfl (congrArg Value.bool (decide_eq_true (by omega)).symm) | exact Eq.trans rfl (congrArg Value.bool (decide_eq_false (by omega)).symm) | exact Eq.trans rfl (congrArg Value.bool (decide_eq_decide.2 (by omega)))
 rintro f_1 ⟨s15_1, s0_1, s2_1⟩
 refine O.mv (O.splitD (x := .tmp 16) s15_1 (fun c16 => ?_) (fun c16 => ?_))
 ·
  refine O.no rfl (noB (isT s15_1 c16) rfl) (O.no rfl (noB (isT s15_1 c16) rfl) (O.pickT (isT s15_1 c16) (K3 (C.condT rfl (C.sr fun K4 => O.call call16 (argsN) (bknown_spec _ mx) ?_)))))
  rintro v_20 w1 ⟨rfl, e1⟩
  have z1 := e1.size
  refine O.asg (K4 (C.ret (Outs.one rfl rfl ?_)))
  exact ⟨rfl, e1⟩
 refine O.yes rfl (isF s15_1 c16) (O.mv (O.yes rfl (isF s15_1 c16) (O.gtrI s0_1 rfl (O.pickF (isF s15_1 c16) (K3 (C.condD rfl (fun c19 => ?_) (fun c19 => ?_)))))))
 ·
  refine C.sr fun K5 => O.call call16 (argsN) (bknown_spec _ mx) ?_
  rintro v_20 w2 ⟨rfl, e2⟩
  have z2 := e2.size
  refine O.asg (K5 (C.ret (Outs.one rfl rfl ?_)))
  exact ⟨rfl, e2⟩
 have sp8_ : ∃ n : Nat, x = (n : Int) := ⟨x.toNat, by omega⟩
 obtain ⟨n, hxn⟩ := sp8_
 subst hxn
 refine C.skip (K2 (C.sr fun K6 => O.asg (K6 (C.sq fun K7 => C.sr fun K8 => O.asg (K8 (C.bl fun K9 => C.loop0 (σ := Nat × Value × Nat) (fun f0 w0 ⟨k, o, gl⟩ f wz => f 3 = o ∧ f 4 = .int .i64 ((k : Int)) ∧ f 0 = f0 0 ∧ f 2 = f0 2 ∧ Le w wz ∧ OG entF 50 wz o gl ((Bt.mkeys k).map ent0) ∧ k ≤ n ∧ (∀ j, bk o j → w.heap.size ≤ j)) (fun ⟨k, o, gl⟩ => n - k) (0, .slice none 0 0, 0) ?_ ?_))))))
 ·
  refine ⟨rfl, rfl, rfl, rfl, (Le.refl _), (OG.nil (by omega)), ?_⟩
  exact ⟨Nat.zero_le _, fun _ h => h.elim⟩
 rintro ⟨k, o, gl⟩ f_2 w3 ⟨s3_2, s4_2, s0_2, s2_2, e_2, r0_2, ⟨hk, hob⟩⟩
 have z_2 := e_2.size
 have hogl := (r0_2).2.2
 have hogu := (r0_2).2.1
 refine C.sq fun K10 => C.sr fun K11 => O.mv (O.mv (O.lssI s4_2 (Eq.trans s0_2 s0_1) (K11 (C.condD rfl (fun c23 => ?_) (fun c23 => ?_)))))
 ·
  have hk2 : k < n := by omega
  refine C.skip (K10 (C.sq fun K12 => C.bl fun K13 => C.region (O.mv (O.mv (O.quoI s4_2 rfl (by omega) (O.addI rfl rfl (by unfold InI; omega) (O.convIU (m' := 8) U3 U5 rfl rfl rfl (O.mv (O.quoI s4_2 rfl (by omega) (O.remI rfl rfl (by omega) (O.addI rfl rfl (by unfold InI; omega) (O.convIU (m' := 8) U3 U5 rfl rfl rfl (O.mv (O.quoI s4_2 rfl (by omega) (O.remI rfl rfl (by omega) (O.addI rfl rfl (by unfold InI; omega) (O.convIU (m' := 8) U3 U5 rfl rfl rfl (O.mv (O.remI s4_2 rfl (by omega) (O.addI rfl rfl (by unfold InI; omega) ?_))))))))))))))))))))
  refine O.convIU (m' := 8) U3 U5 rfl rfl rfl (O.litn [.int .u8 ((BitVec.ofInt 8 (48 + (k : Int) / 1000)).toNat : Int), .int .u8 ((BitVec.ofInt 8 (48 + (k : Int) / 100 % 10)).toNat : Int), .int .u8 ((BitVec.ofInt 8 (48 + (k : Int) / 10 % 10)).toNat : Int), .int .u8 ((BitVec.ofInt 8 (48 + (k : Int) % 10)).toNat : Int)] U30 ti5 ts5 tz5 rfl (by decide) (by decide) rfl (by simp [Value.oneCell']) (fun b45 w4 hb45 hz45 e4 => ?_))
  have z4 := e4.size
  have h45 := hz45.own
  have hl45 := h45.lt
  have hq45 : Sl byteE w4 (fun j => j = b45) (.slice (some ⟨b45, 0, none⟩) 4 4) (Bt.mkey k) := Sl.litG (G := byteF) (n := 4) h45 rfl (by unfold maxLen; omega)
  refine O.bytesS U30 U5 U9 rfl hq45 (O.build (cells := #[str (Bt.mkey k), .slice none 0 0, .slice none 0 0, .slice none 0 0]) rfl (by kernel_rfl) (O.litG (G := entF) [ent0 (Bt.mkey k)] U22 ti50 ts50 tz50 rfl (by decide) (by decide) rfl (fun b48 w5 hb48 hz48 e5 => ?_)))
  have z5 := e5.size
  have h48 := hz48.own
  have hq48 := Sl.litG (n := 1) h48 rfl (by unfold maxLen; omega)
  refine O.appG (G := entF) U22 ti50 tz50 ts50 rfl s3_2 rfl ((r0_2.keep e4).keep e5) hq48 (by rw [tb50]; simp [Bt.mkeys_len]; omega) (by unfold maxLen; simp [Bt.mkeys_len]; omega) (fun v49 gg49 w6 h49 hg49 e6 hw49 => ?_)
  have e6m := e6.mono (M' := fun k => k = _) (fun k _ hk => ((r0_2.keep e4).keep e5).2.1 k hk)
  have z6 := e6.size
  have hgl49 := h49.2.2
  have hob49 : ∀ j, bk v49 j → w.heap.size ≤ j := fun j hj => by
   rcases hw49 j hj with q | q
   ·exact hob j q
   ·omega
  have hg49 : w.heap.size ≤ gg49 := hob49 _ (h49.bk (by simp))
  have hgg49 := (hw49 _ (h49.bk (by simp))).imp (hogu _) id
  have hog49 := h49
  rw [show (Bt.mkeys k).map ent0 ++ [ent0 (Bt.mkey k)] = (Bt.mkeys (k + 1)).map ent0 by rw [Bt.mkeys_succ, List.map_append]; rfl] at hog49
  refine O.asg (O.nil (K13 (K12 (C.region (O.mv (O.addI s4_2 rfl (by unfold InI; omega) (O.asg (O.nil (⟨(k + 1, v49, gg49), ⟨rfl, rfl, s0_2, s2_2, (Ext.new (Ext.trans (Ext.trans e_2 e4) e5) e6 (by intro i hi h; have := hob i h; omega)), hog49, ?_⟩, by first | omega | (simp only []; omega)⟩)))))))))
  exact ⟨by omega, hob49⟩
 have hk3 : k = n := by omega
 have hsw := (r0_2).1.sl.weak (F' := fun j => j < w3.heap.size) (fun j hj => by have := (r0_2).1.bk_ge j hj; (try dsimp only); omega)
 rw [hk3] at hsw
 have hew : EntL w3 (fun j => j < w3.heap.size) ((Bt.mkeys n).map ent0) (Bt.manyL n) := EntL.zero
 have hnB := Bt.manyL_big n
 have hnf := Bt.manyL_flat n
 have hnl := Bt.manyL_len n
 have hnO := Bt.manyL_ordered (n := n) (by omega)
 have hnval := Bt.manyL_valid (n := n) (by omega)
 have hnb := Bt.body_le hnf (by omega)
 have hne : (Bt.enc (Bt.manyL n)).length = (Bt.body (Bt.manyL n)).length + 4 := Bt.enc_len _
 refine C.exit (K9 (K7 (C.sq fun K14 => C.sr fun K15 => O.mv (O.call call18 (args1 s3_2) (bvalid_spec o ((Bt.mkeys n).map ent0) (Bt.manyL n) _ _ hsw hew (fun j hj => by (try dsimp only at hj); omega) hnB (mx.keep e_2)) ?_))))
 rintro v_51 w7 ⟨rfl, e7⟩
 have z7 := e7.size
 refine O.mv (O.leqI (Eq.trans s0_2 s0_1) rfl (O.neqB underlying4 rfl rfl (O.cast (v' := .bool false) (congrArg Value.bool (by exact decide_eq_false (fun h => h (by rw [hnval]; exact decide_eq_decide.2 (by omega))))) (O.mv (O.yes rfl rfl (O.mv (O.yes rfl rfl (O.mv (O.yes rfl rfl ?_)))))))))
 have t0 := (mx.keep e_2).keep e7
 refine O.call call29 (args1 s3_2) (rsplit_spec o ((Bt.mkeys n).map ent0) (Bt.manyL n) _ _ (hsw.keep e7) (hew.keep e7) (fun j hj => by (try dsimp only at hj); omega) hnB (by omega) (by omega) t0) ?_
 rintro v_58 w8 ⟨h58, e8⟩
 have z8 := e8.size
 have sp9_ := h58.raws1
 obtain ⟨ro58, hro, hso⟩ := sp9_
 have hrow := hro.weak (F' := fun j => j < w8.heap.size) (fun j hj => by (try dsimp only at hj); (try dsimp only); omega)
 have hsow := hso.weak (F' := fun j => j < w8.heap.size) (fun j hj => by (try dsimp only at hj); (try dsimp only); omega)
 refine O.yes rfl rfl ?_
 have t1 := (hew.keep e7).keep e8
 have t2 := (hsw.keep e7).keep e8
 refine O.call call28 (args2 s3_2 rfl) (splits_spec o ((Bt.mkeys n).map ent0) (Bt.manyL n) _ v_58 ro58 (fun j => j < w8.heap.size) _ t2 t1 (fun j hj => by (try dsimp only at hj); omega) (fun j hj => hj) hnB (t0.keep e8) hrow hsow hnO (fun x hx => by have := Bt.manyL_ent x hx; omega) (by omega) (by omega)) ?_
 rintro v_59 w9 ⟨rfl, e9⟩
 have z9 := e9.size
 refine O.yes rfl rfl (O.not rfl (O.cast (v' := .bool false) rfl (O.pickF rfl (K15 (C.condF rfl (C.skip (K14 (C.sq fun K16 => C.sr fun K17 => O.mv (O.gtrI (Eq.trans s0_2 s0_1) rfl (K17 (C.condD rfl (fun c63 => ?_) (fun c63 => ?_))))))))))))
 ·
  have hnv : Bt.valid (Bt.manyL n) = false := by rw [hnval]; exact decide_eq_false (by omega)
  refine C.sr fun K18 => O.mv (O.call call30 (args1 s3_2) (rbody_spec o ((Bt.mkeys n).map ent0) (Bt.manyL n) _ _ (t2.keep e9) (t1.keep e9) (fun j hj => by (try dsimp only at hj); omega) hnB (by omega) (by omega)) ?_)
  rintro v_65 w10 ⟨e10, h65⟩
  have z10 := e10.size
  have h65s := h65.sl
  refine O.asg (K18 (C.sr fun K19 => O.mv ?_))
  have t3 := (t0.keep e8).keep e9
  refine O.call call20 (args3 s3_2 rfl rfl) (encodes_spec o ((Bt.mkeys n).map ent0) (Bt.manyL n) _ (.slice none 0 0) [] (fun _ => False) 2 _ ((t2.keep e9).keep e10) ((t1.keep e9).keep e10) (fun j hj => by (try dsimp only at hj); omega) hnB (t3.keep e10) (fun _ => by omega) (Sl.nil _ _ _) (.inr ⟨hnv, rfl, rfl⟩)) ?_
  rintro v_67 w11 ⟨rfl, e11⟩
  have z11 := e11.size
  refine O.mv (O.yes rfl rfl (O.mv (O.yes rfl rfl (O.mv (O.yes rfl rfl (O.call call25 (args1 rfl) (csum_spec _ (Bt.body (Bt.manyL n)) _ _ (h65s.keep e11)) ?_))))))
  rintro v_71 w12 ⟨rfl, e12⟩
  have z12 := e12.size
  refine O.yes rfl rfl (O.call call24 (args2 rfl rfl) (rend_spec _ (Bt.body (Bt.manyL n)) _ (Bt.sumOf (Bt.body (Bt.manyL n))) _ ((h65s.keep e11).keep e12) (by omega)) ?_)
  rintro v_72 w13 ⟨e13, h72⟩
  have z13 := e13.size
  have h72s := h72.sl
  refine O.yes rfl rfl ?_
  have t4 := ((t3.keep e10).keep e11).keep e12
  refine O.call call31 (args3 rfl rfl rfl) (decodes_spec _ (Bt.enc (Bt.manyL n)) _ (.slice none 0 0) [] [] (fun _ => False) 12 _ h72s (by omega) (fun j hj => by have := (h72).bk_ge j hj; omega) (t4.keep e13) (Sl.nil _ _ _) EntL.nil (fun _ h => h.elim) (Bt.manyL_none (by omega) (by omega))) ?_
  rintro v_73 w14 ⟨rfl, e14⟩
  have z14 := e14.size
  refine O.pickT rfl (O.mv (O.yes rfl rfl (O.call call16 (argsN) (bknown_spec _ ((t4.keep e13).keep e14)) ?_)))
  rintro v_76 w15 ⟨rfl, e15⟩
  have z15 := e15.size
  refine O.pickT rfl (O.asg (K19 (C.ret (Outs.one rfl rfl ?_))))
  exact ⟨rfl, (Ext.trans (Ext.trans (Ext.trans (Ext.trans (Ext.trans (Ext.trans (Ext.trans (Ext.trans (Ext.trans e_2 e7) e8) e9) e10) e11) e12) e13) e14) e15)⟩
 have hnv : Bt.valid (Bt.manyL n) = true := by rw [hnval]; exact decide_eq_true (by omega)
 refine C.skip (K16 (C.sr fun K20 => O.mv (O.mv (O.call call22 (args1 s3_2) (lwhole_spec o ((Bt.mkeys n).map ent0) (Bt.manyL n) _ _ (t2.keep e9) (t1.keep e9) (fun j hj => by (try dsimp only at hj); omega) hnB (by omega) (by omega)) ?_))))
 rintro v_80 w16 ⟨e16, h80⟩
 have z16 := e16.size
 have h80s := h80.sl
 have t5 := (t0.keep e8).keep e9
 have t6 := (t1.keep e9).keep e16
 have t7 := (t2.keep e9).keep e16
 refine O.call call20 (args3 s3_2 rfl rfl) (encodes_spec o ((Bt.mkeys n).map ent0) (Bt.manyL n) _ _ (Bt.enc (Bt.manyL n)) _ 0 _ t7 t6 (fun j hj => by (try dsimp only at hj); omega) hnB (t5.keep e16) (fun _ => by omega) h80s (.inl ⟨hnv, rfl, rfl⟩)) ?_
 rintro v_81 w17 ⟨rfl, e17⟩
 have z17 := e17.size
 refine O.mv (O.yes rfl rfl (O.mv (O.yes rfl rfl (O.call call22 (args1 s3_2) (lwhole_spec o ((Bt.mkeys n).map ent0) (Bt.manyL n) _ _ (t7.keep e17) (t6.keep e17) (fun j hj => by (try dsimp only at hj); omega) hnB (by omega) (by omega)) ?_))))
 rintro v_84 w18 ⟨e18, h84⟩
 have z18 := e18.size
 have h84s := h84.sl
 refine O.yes rfl rfl (O.mv (O.yes rfl rfl ?_))
 have t8 := ((t5.keep e16).keep e17).keep e18
 refine O.call call31 (args3 rfl s3_2 rfl) (decodes_spec _ (Bt.enc (Bt.manyL n)) _ o ((Bt.mkeys n).map ent0) (Bt.manyL n) _ 0 _ h84s (by omega) (fun j hj => by have := (h84).bk_ge j hj; omega) t8 ((t7.keep e17).keep e18) ((t6.keep e17).keep e18) (fun j hj => by (try dsimp only at hj); omega) (Bt.DecRes.of_enc hnv)) ?_
 rintro v_86 w19 ⟨rfl, e19⟩
 have z19 := e19.size
 refine O.pickT rfl (O.mv (O.yes rfl rfl (O.call call16 (argsN) (bknown_spec _ (t8.keep e19)) ?_)))
 rintro v_89 w20 ⟨rfl, e20⟩
 have z20 := e20.size
 refine O.pickT rfl (O.asg (K20 (C.ret (Outs.one rfl rfl ?_))))
 exact ⟨rfl, (Ext.trans (Ext.trans (Ext.trans (Ext.trans (Ext.trans (Ext.trans (Ext.trans (Ext.trans e_2 e7) e8) e9) e16) e17) e18) e19) e20)⟩
end Go.Proofs.YtpbcafkcfobngaaGreatDoor
