/-
 The walks of discounts: what is known; the laws of prices and of the best rule. Conditions: what the library's variable holds; slices as they lie in memory.
-/
import Derived.Test.YtbadfphdniliaaaGreatDoorDiscountMeansM3
section
namespace Go.Proofs.YtbadfphdniliaaaGreatDoor
open Go.Pn Go.RowKit Go.Proofs _root_.Go.Proofs.Tryz
attribute [local irreducible] O C D
def rule1 : Ds.Rule := ⟨[109, 97, 110, 121], 20, 4602678819172646912#64, by decide⟩
def rule2 : Ds.Rule := ⟨[115, 111, 109, 101], 5, 4604930618986332160#64, by decide⟩
def rule3 : Ds.Rule := ⟨[97, 110, 121], 1, 4604930618986332160#64, by decide⟩
def rule4 : Ds.Rule := ⟨[104, 97, 108, 102], 1, 4602678819172646912#64, by decide⟩
theorem csign_spec (w : World) :
 Ret Tryz.prog 25 #[fl (0#64), fl (13830554455654793216#64)] w (fun v w' => v = fl 9223372036854775808#64 ∧ w' = w) := by
 refine enT [fl (0#64), fl (13830554455654793216#64)] 13 func25 rfl rfl (C.sr fun K1 => O.asg (K1 (C.sr fun K2 => O.mv (O.ext ext30 (args1 rfl) (run_bitsOf _) (O.andNotU (m := 64) (b := 9223372036854775808#64) rfl rfl rfl rfl (O.mv (O.ext ext30 (args1 rfl) (run_bitsOf _) (O.andU (m := 64) (b := 9223372036854775808#64) rfl rfl rfl rfl (O.orU (m := 64) rfl rfl rfl rfl (O.ext ext28 (args1 rfl) (run_fromBits _) (O.asg (K2 (C.ret (Outs.one rfl rfl ?_))))))))))))))
 exact ⟨congrArg fl (by decide), rfl⟩
theorem minf_p_spec (w : World) :
 Ret Tryz.prog 33 #[.int .i64 (1)] w (fun v w' => v = fl 9218868437227405312#64 ∧ w' = w) := by
 refine enT [.int .i64 (1)] 8 func33 rfl rfl (C.sr fun K1 => O.asg (K1 (C.sr fun K2 => O.asg (K2 (C.sq fun K3 => C.sr fun K4 => O.mv (O.geqI rfl rfl (O.cast (v' := .bool true) rfl (K4 (C.condT rfl (C.region (O.asg (O.nil (K3 (C.sr fun K5 => O.mv (O.ext ext28 (args1 rfl) (run_fromBits (9218868437227405312#64)) (O.asg (K5 (C.ret (Outs.one rfl rfl ?_)))))))))))))))))))
 exact ⟨rfl, rfl⟩
theorem minf_n_spec (w : World) :
 Ret Tryz.prog 33 #[.int .i64 (-1)] w (fun v w' => v = fl 18442240474082181120#64 ∧ w' = w) := by
 refine enT [.int .i64 (-1)] 8 func33 rfl rfl (C.sr fun K1 => O.asg (K1 (C.sr fun K2 => O.asg (K2 (C.sq fun K3 => C.sr fun K4 => O.mv (O.geqI rfl rfl (O.cast (v' := .bool false) rfl (K4 (C.condF rfl (C.region (O.asg (O.nil (K3 (C.sr fun K5 => O.mv (O.ext ext28 (args1 rfl) (run_fromBits (18442240474082181120#64)) (O.asg (K5 (C.ret (Outs.one rfl rfl ?_)))))))))))))))))))
 exact ⟨rfl, rfl⟩
theorem ranksS_spec (p0 : Option Addr × Nat × Nat) (l : List (BitVec 64)) (F : Nat → Prop) (v1 : Value) (ws : List Int) (F2 : Nat → Prop) (m : Nat) (w : World) (hl : Sl flE w F (slv p0) l) (hF : ∀ k, F k → k < w.heap.size) (hw : Sl Dt.intF.enc w F2 v1 ws) (hlm : l.length = m + 1) (hm : m ≤ 18) (hr : ((rankS l m).map fun i => (i.val : Int)) = ws) :
 Ret Tryz.prog 20 #[slv p0, v1, .int .i64 (0)] w (fun v w' => v = .bool true ∧ Le w w') := by
 subst hr
 have hwl := hw.le
 refine enT [slv p0, v1, .int .i64 (0)] 40 func20 rfl rfl (C.sr fun K1 => O.asg (K1 (C.sr fun K2 => O.mv (O.call call34 (args1 rfl) (drank_spec p0 l F m _ hl (fun j hj => by have q1 := hF j hj; omega) hlm hm) ?_))))
 rintro v_12 w1 ⟨e1, uv12, rfl, h12⟩
 have z1 := e1.size
 have h12s := h12.sl
 refine O.mv (O.extract rfl rfl (O.extract rfl rfl (O.asg (O.asg (K2 (C.sq fun K3 => C.sr fun K4 => O.mv (O.len underlying43 rfl h12s (O.mv (O.len underlying43 rfl (hw.keep e1) (O.neqI rfl rfl (O.cast (v' := .bool false) (congrArg Value.bool (by exact decide_eq_false (fun h => h rfl))) (O.mv (O.yes rfl rfl (O.mv (O.yes rfl rfl (O.mv (O.yes rfl rfl (O.neqI rfl rfl (O.cast (v' := .bool false) (congrArg Value.bool (by exact decide_eq_false (fun h => h rfl))) (O.pickF rfl (K4 (C.condF rfl (C.skip (K3 (C.sq fun K5 => C.sr fun K6 => O.asg (K6 (C.bl fun K7 => ?_)))))))))))))))))))))))))))
 refine C.loop0 (σ := Nat) (fun f0 w0 k f w => f 9 = .int .i64 (k) ∧ f 1 = f0 1 ∧ f 7 = f0 7 ∧ Le w0 w ∧ k ≤ ((rankS l m).map fun i => (i.val : Int)).length) (fun k => ((rankS l m).map fun i => (i.val : Int)).length - k) 0 ?_ ?_
 ·
  refine ⟨rfl, rfl, rfl, Le.refl _, ?_⟩
  exact Nat.zero_le _
 rintro k f_1 w2 ⟨s9_1, s1_1, s7_1, e_1, hk⟩
 have z_1 := e_1.size
 refine C.sq fun K8 => C.sr fun K9 => O.mv (O.mv (O.len underlying43 s7_1 (h12s.keep e_1) (O.lssI s9_1 rfl (K9 (C.condD rfl (fun c28 => ?_) (fun c28 => ?_))))))
 ·
  have hk2 : k < ((rankS l m).map fun i => (i.val : Int)).length := by omega
  refine C.skip (K8 (C.sq fun K10 => C.bl fun K11 => C.sd fun K12 w3 e3 z3 => D.mv 0 rfl (Le.refl _) (D.mv 1 rfl (Le.refl _) ?_)))
  obtain ⟨a33, h33, hr33⟩ := Sl.at (i := (k : Int)) (P := Tryz.prog) underlying43 sizeOf3 rfl ((h12s.keep e_1).keep e3) (by omega)
  refine D.t 2 rfl (Le.refl _) (fun _ _ _ hN => O.idxR s7_1 s9_1 hr33 (O.nil hN)) (D.t 3 rfl (Le.refl _) (fun _ hw_ _ hN => O.load1F (G := Dt.intF) isAgg3 rfl rfl rfl (h33.keep hw_) (O.nil hN)) (D.mv 4 rfl (Le.refl _) (D.mv 5 rfl (Le.refl _) ?_)))
  obtain ⟨a37, h37, hr37⟩ := Sl.at (i := (k : Int)) (P := Tryz.prog) underlying43 sizeOf3 rfl (((hw.keep e1).keep e_1).keep e3) (by omega)
  refine D.t 6 rfl (Le.refl _) (fun _ _ _ hN => O.idxR s1_1 s9_1 hr37 (O.nil hN)) (D.t 7 rfl (Le.refl _) (fun _ hw_ _ hN => O.load1F (G := Dt.intF) isAgg3 rfl rfl rfl (h37.keep hw_) (O.nil hN)) (D.t 8 rfl (Le.refl _) (fun _ _ _ hN => O.neqI rfl rfl (O.nil hN)) (D.cast (v' := .bool false) (congrArg Value.bool (by exact decide_eq_false (fun h => h rfl))) (K12 (C.condF rfl (C.skip (K11 (K10 (C.region (O.mv (O.ad s9_1 rfl (O.asg (O.nil (⟨k + 1, ⟨rfl, s1_1, s7_1, (Ext.trans e_1 e3), ?_⟩, by first | omega | (simp only []; omega)⟩))))))))))))))
  omega
 refine C.exit (K7 (K5 (C.sr fun K13 => O.asg (K13 (C.ret (Outs.one rfl rfl ?_))))))
 exact ⟨rfl, (Ext.trans e1 e_1)⟩
set_option maxHeartbeats 8000000 in
theorem known_spec (w : World) (mx : Mx w) :
 Ret Tryz.prog 13 #[] w (fun v w' => v = .bool true ∧ Le w w') := by
 obtain ⟨ie24, ti24, ts24, tb24, tz24⟩ := inf24
 obtain ⟨ie22, ti22, ts22, tb22, tz22⟩ := inf22
 obtain ⟨ie3, ti3, ts3, tb3, tz3⟩ := inf3
 refine enT [] 70 func13 rfl rfl (C.sr fun K1 => O.asg (K1 (C.sr fun K2 => O.call call25 (args2 rfl rfl) (csign_spec _) ?_)))
 rintro v_3 w1 ⟨rfl, hw_⟩
 replace hw_ := hw_.symm
 subst hw_
 refine O.asg (K2 (C.sq fun K3 => C.sr fun K4 => O.call call12 (args5 rfl rfl rfl rfl rfl) (prices_spec 999 3 4602678819172646912#64 1498 0 _ (by decide +kernel) (by decide +kernel)) ?_))
 rintro v_4 w1 ⟨rfl, e1⟩
 have z1 := e1.size
 refine O.not rfl (O.cast (v' := .bool false) rfl (O.mv (O.yes rfl rfl (O.call call12 (args5 rfl rfl rfl rfl rfl) (prices_spec 10 1 4607182418800017408#64 10 0 _ (by decide +kernel) (by decide +kernel)) ?_))))
 rintro v_7 w2 ⟨rfl, e2⟩
 have z2 := e2.size
 refine O.yes rfl rfl (O.not rfl (O.cast (v' := .bool false) rfl (O.pickF rfl (O.mv (O.yes rfl rfl (O.mv (O.yes rfl rfl (O.call call12 (args5 rfl rfl rfl rfl rfl) (prices_spec 10 1 9223372036854775808#64 0 0 _ (by decide +kernel) (by decide +kernel)) ?_))))))))
 rintro v_12 w3 ⟨rfl, e3⟩
 have z3 := e3.size
 refine O.yes rfl rfl (O.not rfl (O.cast (v' := .bool false) rfl (O.pickF rfl (O.mv (O.yes rfl rfl (O.call call21 (argsN) (nan_spec _) ?_))))))
 rintro v_16 w4 ⟨rfl, hw_⟩
 replace hw_ := hw_.symm
 subst hw_
 refine O.yes rfl rfl (O.call call12 (args5 rfl rfl rfl rfl rfl) (prices_spec 7 1 9221120237041090560#64 0 2 _ (by decide +kernel) (by decide +kernel)) ?_)
 rintro v_17 w4 ⟨rfl, e4⟩
 have z4 := e4.size
 refine O.yes rfl rfl (O.not rfl (O.cast (v' := .bool false) rfl (O.pickF rfl (O.mv (O.yes rfl rfl (O.call call12 (args5 rfl rfl rfl rfl rfl) (prices_spec 7 1 4609434218613702656#64 0 2 _ (by decide +kernel) (by decide +kernel)) ?_))))))
 rintro v_21 w5 ⟨rfl, e5⟩
 have z5 := e5.size
 refine O.yes rfl rfl (O.not rfl (O.cast (v' := .bool false) rfl (O.pickF rfl (O.mv (O.yes rfl rfl (O.call call12 (args5 rfl rfl rfl rfl rfl) (prices_spec 7 0 4607182418800017408#64 0 2 _ (by decide +kernel) (by decide +kernel)) ?_))))))
 rintro v_25 w6 ⟨rfl, e6⟩
 have z6 := e6.size
 refine O.yes rfl rfl (O.not rfl (O.cast (v' := .bool false) rfl (O.pickF rfl (K4 (C.condF rfl (C.skip (K3 (C.sr fun K5 => O.build (cells := (Ds.ruleF.e rule1).toArray) rfl (by kernel_rfl) (O.build (cells := (Ds.ruleF.e rule2).toArray) rfl (by kernel_rfl) (O.build (cells := (Ds.ruleF.e rule3).toArray) rfl (by kernel_rfl) (O.litG (G := Ds.ruleF) [rule1, rule2, rule3] underlying32 ti24 ts24 tz24 rfl (by decide) (by decide) rfl (fun b31 w7 hb31 hz31 e7 => ?_))))))))))))
 have z7 := e7.size
 have h31 := hz31.own
 have hq31 := Sl.litG (n := 3) h31 rfl (by unfold maxLen; omega)
 refine O.asg (K5 (C.sq fun K6 => C.sr fun K7 => O.mv ?_))
 have t0 := (mx.keep e1).keep e2
 have t1 := (t0.keep e3).keep e4
 have t2 := (t1.keep e5).keep e6
 refine O.call call16 (args6 rfl rfl rfl rfl rfl rfl) (bests_spec 100 10 (.slice (some ⟨b31, 0, none⟩) 3 3) [rule1, rule2, rule3] _ 1 750 0 _ hq31 (t2.keep e7) (by decide +kernel) (by decide +kernel) (by decide +kernel)) ?_
 rintro v_33 w8 ⟨rfl, e8⟩
 have z8 := e8.size
 refine O.not rfl (O.cast (v' := .bool false) rfl (O.mv (O.yes rfl rfl (O.mv (O.yes rfl rfl ?_)))))
 have hb37 := Sl.sub (P := Tryz.prog) (0) (1) underlying32 sizeOf24 (by rfl) (hq31.keep e8) (Nat.zero_le _) (by decide)
 obtain ⟨v37, hs37, hr37⟩ := hb37
 refine O.subR rfl hr37 (.inl ⟨rfl, rfl⟩) (.inr ⟨_, _, rfl, rfl⟩) (O.yes rfl rfl (O.call call16 (args6 rfl rfl rfl rfl rfl rfl) (bests_spec 100 1 v37 (([rule1, rule2, rule3].take 1).drop 0) _ (-1) 100 0 _ hs37 ((t2.keep e7).keep e8) (by decide +kernel) (by decide +kernel) (by decide +kernel)) ?_))
 rintro v_38 w9 ⟨rfl, e9⟩
 have z9 := e9.size
 refine O.yes rfl rfl (O.not rfl (O.cast (v' := .bool false) rfl (O.pickF rfl (O.mv (O.yes rfl rfl (O.mv (O.yes rfl rfl (O.idx underlying32 sizeOf24 rfl rfl ((hq31.keep e8).keep e9) rfl (by decide) (fun a43 h43 => O.yes rfl rfl (O.loadG (G := Ds.ruleF) isAgg24 sizeOf24 rfl h43 (O.yes rfl rfl (O.build (cells := (Ds.ruleF.e rule4).toArray) rfl (by kernel_rfl) (O.yes rfl rfl (O.litG (G := Ds.ruleF) [rule1, rule4] underlying32 ti24 ts24 tz24 rfl (by decide) (by decide) rfl (fun b46 w10 hb46 hz46 e10 => ?_)))))))))))))))
 have z10 := e10.size
 have h46 := hz46.own
 have hq46 := Sl.litG (n := 2) h46 rfl (by unfold maxLen; omega)
 refine O.yes rfl rfl (O.call call17 (args6 rfl rfl rfl rfl rfl rfl) (together_spec 100 20 (.slice (some ⟨b46, 0, none⟩) 2 2) [rule1, rule4] _ 500 4598175219545276416#64 0 _ hq46 ((((t2.keep e7).keep e8).keep e9).keep e10) (by decide +kernel) (by decide +kernel) (by decide +kernel) (by decide +kernel)) ?_)
 rintro v_47 w11 ⟨rfl, e11⟩
 have z11 := e11.size
 refine O.yes rfl rfl (O.not rfl (O.cast (v' := .bool false) rfl (O.pickF rfl (K7 (C.condF rfl (C.skip (K6 (C.sr fun K8 => O.litn [fl 4607182418800017408#64, fl 4611686018427387904#64, fl 4618441417868443648#64] underlying37 ti22 ts22 tz22 rfl (by decide) (by decide) rfl (by simp [fl, Value.oneCell']) (fun b50 w12 hb50 hz50 e12 => ?_)))))))))
 have z12 := e12.size
 have h50 := hz50.own
 have hl50 := h50.lt
 have h1050 : Sl flF.enc w12 (fun k => k = b50) (.slice (some ⟨b50, 0, none⟩) 3 3) [4607182418800017408#64, 4611686018427387904#64, 4618441417868443648#64] := Sl.of_own (G := flF) h50 rfl (Nat.le_refl _) (by unfold maxLen; simp) (by simp [flF])
 refine O.call call19 (args3 rfl rfl rfl) (means_spec (.slice (some ⟨b50, 0, none⟩) 3 3) [4607182418800017408#64, 4611686018427387904#64, 4618441417868443648#64] _ 4613937818241073152#64 0 _ h1050 (by decide +kernel) (by decide +kernel)) ?_
 rintro v_51 w13 ⟨rfl, e13⟩
 have z13 := e13.size
 refine O.mv (O.yes rfl rfl (O.call call21 (argsN) (nan_spec _) ?_))
 rintro v_53 w14 ⟨rfl, hw_⟩
 replace hw_ := hw_.symm
 subst hw_
 refine O.yes rfl rfl (O.call call19 (args3 rfl rfl rfl) (means_spec (.slice none 0 0) [] (fun _ => False) 9221120237041090560#64 0 _ (Sl.nil _ _ _) (by decide +kernel) (by decide +kernel)) ?_)
 rintro v_54 w14 ⟨rfl, e14⟩
 have z14 := e14.size
 refine O.pickT rfl (O.mv (O.yes rfl rfl (O.call call33 (args1 rfl) (minf_p_spec _) ?_)))
 rintro v_57 w15 ⟨rfl, hw_⟩
 replace hw_ := hw_.symm
 subst hw_
 refine O.yes rfl rfl (O.call call33 (args1 rfl) (minf_n_spec _) ?_)
 rintro v_58 w15 ⟨rfl, hw_⟩
 replace hw_ := hw_.symm
 subst hw_
 refine O.yes rfl rfl (O.litn [fl 9218868437227405312#64, fl 18442240474082181120#64] underlying37 ti22 ts22 tz22 rfl (by decide) (by decide) rfl (by simp [fl, Value.oneCell']) (fun b59 w15 hb59 hz59 e15 => ?_))
 have z15 := e15.size
 have h59 := hz59.own
 have hl59 := h59.lt
 have h1059 : Sl flF.enc w15 (fun k => k = b59) (.slice (some ⟨b59, 0, none⟩) 2 2) [9218868437227405312#64, 18442240474082181120#64] := Sl.of_own (G := flF) h59 rfl (Nat.le_refl _) (by unfold maxLen; simp) (by simp [flF])
 refine O.yes rfl rfl (O.call call21 (argsN) (nan_spec _) ?_)
 rintro v_60 w16 ⟨rfl, hw_⟩
 replace hw_ := hw_.symm
 subst hw_
 refine O.yes rfl rfl (O.call call19 (args3 rfl rfl rfl) (means_spec (.slice (some ⟨b59, 0, none⟩) 2 2) [9218868437227405312#64, 18442240474082181120#64] _ 9221120237041090560#64 0 _ h1059 (by decide +kernel) (by decide +kernel)) ?_)
 rintro v_61 w16 ⟨rfl, e16⟩
 have z16 := e16.size
 refine O.pickT rfl (O.mv (O.yes rfl rfl (O.call call21 (argsN) (nan_spec _) ?_)))
 rintro v_64 w17 ⟨rfl, hw_⟩
 replace hw_ := hw_.symm
 subst hw_
 refine O.yes rfl rfl (O.call call33 (args1 rfl) (minf_n_spec _) ?_)
 rintro v_65 w17 ⟨rfl, hw_⟩
 replace hw_ := hw_.symm
 subst hw_
 refine O.yes rfl rfl (O.litn [fl 4607182418800017408#64, fl 9221120237041090560#64, fl 18442240474082181120#64, fl 4611686018427387904#64, fl 4607182418800017408#64] underlying37 ti22 ts22 tz22 rfl (by decide) (by decide) rfl (by simp [fl, Value.oneCell']) (fun b66 w17 hb66 hz66 e17 => ?_))
 have z17 := e17.size
 have h66 := hz66.own
 have hl66 := h66.lt
 have h1066 : Sl flF.enc w17 (fun k => k = b66) (.slice (some ⟨b66, 0, none⟩) 5 5) [4607182418800017408#64, 9221120237041090560#64, 18442240474082181120#64, 4611686018427387904#64, 4607182418800017408#64] := Sl.of_own (G := flF) h66 rfl (Nat.le_refl _) (by unfold maxLen; simp) (by simp [flF])
 refine O.yes rfl rfl (O.litn [.int .i64 1, .int .i64 3, .int .i64 0, .int .i64 4, .int .i64 2] underlying43 ti3 ts3 tz3 rfl (by decide) (by decide) rfl (by intro u hu; simp only [List.mem_cons, List.not_mem_nil, or_false] at hu; rcases hu with rfl | rfl | rfl | rfl | rfl <;> rfl) (fun b67 w18 hb67 hz67 e18 => ?_))
 have z18 := e18.size
 have h67 := hz67.own
 have hl67 := h67.lt
 have h1067 : Sl Dt.intF.enc w18 (fun k => k = b67) (.slice (some ⟨b67, 0, none⟩) 5 5) [1, 3, 0, 4, 2] := Sl.of_own (G := Dt.intF) h67 rfl (Nat.le_refl _) (by unfold maxLen; simp) (by simp [Dt.intF])
 refine O.yes rfl rfl (O.call call20 (args3 rfl rfl rfl) (ranksS_spec (some ⟨b66, 0, none⟩, 5, 5) [4607182418800017408#64, 9221120237041090560#64, 18442240474082181120#64, 4611686018427387904#64, 4607182418800017408#64] _ (.slice (some ⟨b67, 0, none⟩) 5 5) [1, 3, 0, 4, 2] _ 4 _ (h1066.keep e18) (fun j hj => by have hj : j = b66 := hj; have := ((h66.keep e18)).lt; omega) h1067 rfl (by decide) (by decide +kernel)) ?_)
 rintro v_68 w19 ⟨rfl, e19⟩
 have z19 := e19.size
 refine O.pickT rfl (O.asg (K8 (C.ret (Outs.one rfl rfl ?_))))
 exact ⟨rfl, (Ext.trans (Ext.trans (Ext.trans (Ext.trans (Ext.trans (Ext.trans (Ext.trans (Ext.trans (Ext.trans (Ext.trans (Ext.trans (Ext.trans (Ext.trans (Ext.trans (Ext.trans (Ext.trans (Ext.trans (Ext.trans e1 e2) e3) e4) e5) e6) e7) e8) e9) e10) e11) e12) e13) e14) e15) e16) e17) e18) e19)⟩
end Go.Proofs.YtbadfphdniliaaaGreatDoor
end
section
namespace Go.Proofs.YtbadfphdniliaaaGreatDoor
open Go.Pn Go.RowKit Go.Proofs _root_.Go.Proofs.Tryz
attribute [local irreducible] O C D
theorem _root_.Go.Pn.Ds.meanV_some {l : List (BitVec 64)} {r : BitVec 64} (h : ¬ 1000 < l.length) (h0 : ¬ l.length = 0) (hr : Fl.canon r = Fl.canon (Ds.resv (FloatKind.f64.format.div (Fl.tot l).toNat (ofI (l.length : Int)).toNat))) : fl (Fl.canon r) = fl (Ds.meanV l) := by
 rw [show Ds.meanV l = _ from (if_neg h).trans (if_neg h0), hr]
theorem _root_.Go.Pn.Ds.meanV_none {l : List (BitVec 64)} (h : l.length = 0) : fl 9221120237041090560#64 = fl (Ds.meanV l) := by
 rw [show Ds.meanV l = 9221120237041090560#64 from (if_neg (by omega)).trans (if_pos h)]
theorem _root_.Go.Pn.Ds.cmp_L {l : List (BitVec 64)} {q i : Nat} (hq : q < l.length) (hi : i < l.length) : (Fl.cmp (Fl.canon l[q]) (Fl.canon l[i]) > 0 ∨ (Fl.cmp (Fl.canon l[q]) (Fl.canon l[i]) = 0 ∧ (q : Int) < (i : Int))) ↔ Ss.L (Ds.kx l) (q : Int) (i : Int) := by
 have e : ∀ j : Nat, ∀ h : j < l.length, Ds.kx l (j : Int) = (Fl.key (Fl.canon l[j])).toNat := fun j h => by
  unfold Ds.kx
  rw [Int.toNat_natCast, List.getD_eq_getElem?_getD, List.getElem?_eq_getElem h]
  rfl
 unfold Ss.L
 rw [e q hq, e i hi]
 unfold Fl.cmp Fl.ucmp
 generalize Fl.key (Fl.canon l[q]) = a
 generalize Fl.key (Fl.canon l[i]) = b
 simp only [BitVec.lt_def]
 split
 ·omega
 ·split <;> omega
set_option maxHeartbeats 4000000 in
theorem meansL_spec (p0 : Option Addr × Nat × Nat) (l : List (BitVec 64)) (F : Nat → Prop) (w : World) (hl : Sl flE w F (slv p0) l) (hF : ∀ k, F k → k < w.heap.size) (mx : Mx w) :
 Ret Tryz.prog 6 #[slv p0] w (fun v w' => v = .bool true ∧ Le w w') := by
 have _hF9 := hF
 obtain ⟨ie3, ti3, ts3, tb3, tz3⟩ := inf3
 refine enT [slv p0] 94 func6 rfl rfl (C.sr fun K1 => O.asg (K1 (C.sq fun K2 => C.sr fun K3 => O.mv (O.len underlying37 rfl hl (O.gtrI rfl rfl (K3 (C.condD rfl (fun c11 => ?_) (fun c11 => ?_))))))))
 ·
  refine C.sr fun K4 => O.call call13 (argsN) (known_spec _ mx) ?_
  rintro v_12 w1 ⟨rfl, e1⟩
  have z1 := e1.size
  refine O.asg (K4 (C.ret (Outs.one rfl rfl ?_)))
  exact ⟨rfl, e1⟩
 refine C.skip (K2 (C.sq fun K5 => C.sr fun K6 => O.mv (O.len underlying37 rfl hl (O.gtrI rfl rfl (K6 (C.condD rfl (fun c15 => ?_) (fun c15 => ?_)))))))
 ·
  refine C.sr fun K7 => O.mv (O.call call19 (args3 rfl rfl rfl) (means_spec (slv p0) l F 0#64 5 _ hl (if_pos (by omega)) (if_pos (by omega))) ?_)
  rintro v_17 w2 ⟨rfl, e2⟩
  have z2 := e2.size
  refine O.mv (O.yes rfl rfl (O.mv (O.yes rfl rfl (O.call call20 (args3 rfl rfl rfl) (ranksN_spec p0 l F _ (hl.keep e2) (by omega)) ?_))))
  rintro v_20 w3 ⟨rfl, e3⟩
  have z3 := e3.size
  refine O.pickT rfl (O.mv (O.yes rfl rfl (O.call call13 (argsN) (known_spec _ ((mx.keep e2).keep e3)) ?_)))
  rintro v_23 w4 ⟨rfl, e4⟩
  have z4 := e4.size
  refine O.pickT rfl (O.asg (K7 (C.ret (Outs.one rfl rfl ?_))))
  exact ⟨rfl, (Ext.trans (Ext.trans e2 e3) e4)⟩
 refine C.skip (K5 (C.sr fun K8 => O.call call21 (argsN) (nan_spec _) ?_))
 rintro v_25 w5 ⟨rfl, hw_⟩
 replace hw_ := hw_.symm
 subst hw_
 refine O.asg (K8 (C.sq fun K9 => C.sr fun K10 => O.mv (O.len underlying37 rfl hl (O.gtrI rfl rfl (K10 (C.join (fun f w f' w' => Le w w' ∧ f' 0 = f 0 ∧ f' 2 = f 2 ∧ f' 3 = fl (Ds.meanV l)) ?_ ?_))))))
 ·
  refine C.condD rfl (fun c28 => ?_) (fun c28 => ?_)
  ·
   refine C.region (O.mv (O.call call22 (args1 rfl) (fsum_spec _ l _ _ hl (by omega)) ?_))
   rintro v_30 w5 ⟨e5, rfl⟩
   have z5 := e5.size
   refine O.mv (O.len underlying37 rfl (hl.keep e5) (O.convIF underlying3 underlying22 rfl (O.quoF rfl rfl (fun r34 w6 e6 hf34 => ?_))))
   have z6 := e6.size
   refine O.call call18 (args1 rfl) (lcanon_spec _ _) ?_
   rintro v_35 w7 ⟨rfl, hw_⟩
   replace hw_ := hw_.symm
   subst hw_
   have hdv := Ds.canon_res hf34
   refine O.cast (v' := fl (Ds.meanV l)) (Ds.meanV_some (by omega) (by omega) hdv) (O.asg (O.nil ?_))
   exact ⟨(Ext.trans e5 e6), rfl, rfl, rfl⟩
  have hl0 : l.length = 0 := by omega
  refine C.skip ?_
  exact ⟨(Le.refl _), rfl, rfl, (Eq.trans rfl (Ds.meanV_none hl0))⟩
 rintro f_1 w7 ⟨e_1, s0_1, s2_1, s3_1⟩
 have z_1 := e_1.size
 refine K9 (C.sr fun K11 => O.mv (O.len underlying37 s0_1 (hl.keep e_1) (O.mkF (G := Dt.intF) (zx := (0 : Int)) underlying43 ti3 tz3 ts3 rfl rfl rfl (by rw [tb3]; omega) (by unfold maxLen; omega) (Nat.le_refl _) (fun b38 w8 hb38 hz38 ho38 e8 => ?_))))
 have z8 := e8.size
 have ho38s := ho38.sl
 have ho38z : OwnF Dt.intF 3 w.heap.size w8 (.slice (some ⟨b38, 0, none⟩) l.length l.length) (Ss.ordL (Ds.kx l) l.length 0) := ho38.low (by omega)
 refine O.asg (K11 (C.sq fun K12 => C.sr fun K13 => O.asg (K13 (C.bl fun K14 => C.loop0 (σ := Nat) (fun f0 w0 i f wz => f 5 = .int .i64 ((i : Int)) ∧ f 0 = f0 0 ∧ f 2 = f0 2 ∧ f 3 = f0 3 ∧ f 4 = f0 4 ∧ Le w wz ∧ OwnF Dt.intF 3 w.heap.size wz (.slice (some ⟨b38, 0, none⟩) l.length l.length) (Ss.ordL (Ds.kx l) l.length i) ∧ i ≤ l.length) (fun i => l.length - i) 0 ?_ ?_))))
 ·
  refine ⟨rfl, rfl, rfl, rfl, rfl, (Ext.trans e_1 e8), ho38z, ?_⟩
  exact Nat.zero_le _
 rintro i f_2 w9 ⟨s5_2, s0_2, s2_2, s3_2, s4_2, e_2, r0_2, hi⟩
 have z_2 := e_2.size
 have r0_2s := r0_2.sl
 refine C.sq fun K15 => C.sr fun K16 => O.mv (O.mv (O.len underlying37 (Eq.trans s0_2 s0_1) (hl.keep e_2) (O.lssI s5_2 rfl (K16 (C.condD rfl (fun c42 => ?_) (fun c42 => ?_))))))
 ·
  refine C.skip (K15 (C.sq fun K17 => C.bl fun K18 => C.sr fun K19 => O.asg (K19 (C.sq fun K20 => C.sr fun K21 => O.asg (K21 (C.bl fun K22 => C.loop0 (σ := Nat) (fun f0 w0 kk f wz => f 7 = .int .i64 ((kk : Int)) ∧ f 6 = .int .i64 (((Ss.cntT (Ds.kx l) (i : Int) kk : Nat) : Int)) ∧ f 0 = f0 0 ∧ f 2 = f0 2 ∧ f 3 = f0 3 ∧ f 4 = f0 4 ∧ f 5 = f0 5 ∧ Le w wz ∧ OwnF Dt.intF 3 w.heap.size wz (.slice (some ⟨b38, 0, none⟩) l.length l.length) (Ss.ordL (Ds.kx l) l.length i) ∧ kk ≤ l.length) (fun kk => l.length - kk) 0 ?_ ?_))))))
  ·
   refine ⟨rfl, (Eq.trans rfl rfl), rfl, rfl, rfl, rfl, rfl, e_2, r0_2, ?_⟩
   exact Nat.zero_le _
  rintro kk f_3 w10 ⟨s7_3, s6_3, s0_3, s2_3, s3_3, s4_3, s5_3, e_3, r0_3, hkk⟩
  have z_3 := e_3.size
  have r0_3s := r0_3.sl
  have hct := Ss.cntT_le (Ds.kx l) (i : Int) kk
  refine C.sq fun K23 => C.sr fun K24 => O.mv (O.mv (O.len underlying37 (Eq.trans s0_3 (Eq.trans s0_2 s0_1)) (hl.keep e_3) (O.lssI s7_3 rfl (K24 (C.condD rfl (fun c48 => ?_) (fun c48 => ?_))))))
  ·
   refine C.skip (K23 (C.sq fun K25 => C.bl fun K26 => C.sd fun K27 w11 e11 z11 => D.mv 0 rfl (Le.refl _) (D.mv 1 rfl (Le.refl _) ?_)))
   obtain ⟨a53, h53, hr53⟩ := Sl.at (i := (kk : Int)) (P := Tryz.prog) underlying37 sizeOf22 rfl ((hl.keep e_3).keep e11) (by omega)
   refine D.t 2 rfl (Le.refl _) (fun _ _ _ hN => O.idxR (Eq.trans s0_3 (Eq.trans s0_2 s0_1)) s7_3 hr53 (O.nil hN)) (D.t 3 rfl (Le.refl _) (fun _ hw_ _ hN => O.loadF isAgg22 rfl (h53.keep hw_) (O.nil hN)) (D.mv 5 rfl (Le.refl _) (D.mv 6 rfl (Le.refl _) ?_)))
   obtain ⟨a58, h58, hr58⟩ := Sl.at (i := (i : Int)) (P := Tryz.prog) underlying37 sizeOf22 rfl ((hl.keep e_3).keep e11) (by omega)
   refine D.t 7 rfl (Le.refl _) (fun _ _ _ hN => O.idxR (Eq.trans s0_3 (Eq.trans s0_2 s0_1)) (Eq.trans s5_3 s5_2) hr58 (O.nil hN)) (D.t 8 rfl (Le.refl _) (fun _ hw_ _ hN => O.loadF isAgg22 rfl (h58.keep hw_) (O.nil hN)) (D.on 4 rfl rfl (O.call call18 (args1 rfl) (lcanon_spec _ _) ?_)))
   rintro v_55 w12 ⟨rfl, hw_⟩
   replace hw_ := hw_.symm
   subst hw_
   refine O.nil ⟨(Le.refl _), D.on 9 rfl rfl (O.call call18 (args1 rfl) (lcanon_spec _ _) ?_)⟩
   rintro v_60 w12 ⟨rfl, hw_⟩
   replace hw_ := hw_.symm
   subst hw_
   refine O.nil ⟨(Le.refl _), D.on 10 rfl rfl (O.call call23 (args2 rfl rfl) (cmp_spec _ _ _) ?_)⟩
   rintro v_61 w12 ⟨rfl, hw_⟩
   replace hw_ := hw_.symm
   subst hw_
   refine O.nil ⟨(Le.refl _), ?_⟩
   obtain ⟨z, hz⟩ : ∃ z, z = Fl.cmp (Fl.canon l[kk]) (Fl.canon l[i]) := ⟨_, rfl⟩
   have hzL := Ds.cmp_L (l := l) (q := kk) (i := i) (by omega) (by omega)
   rw [← hz] at hzL
   refine D.cast (v' := .int .i64 z) (congrArg (Value.int .i64) hz.symm) (D.as 11 rfl (Le.refl _) (K27 (C.sr fun K28 => O.mv (O.gtrI rfl rfl (O.mv (O.cut 8 (fun f f' => f' 72 = .bool (decide (z > 0 ∨ (z = 0 ∧ (kk : Int) < (i : Int)))) ∧ f' 0 = f 0 ∧ f' 2 = f 2 ∧ f' 3 = f 3 ∧ f' 4 = f 4 ∧ f' 5 = f 5 ∧ f' 6 = f 6 ∧ f' 7 = f 7) ?_ ?_))))))
   ·
    refine O.splitD (x := .tmp 64) rfl (fun c64 => ?_) (fun c64 => ?_)
    ·
     refine O.no rfl (noB (isT rfl c64) rfl) (O.no rfl (noB (isT rfl c64) rfl) (O.no rfl (noB (isT rfl c64) rfl) (O.no rfl (noU rfl) (O.no rfl (noU rfl) (O.no rfl (noU rfl) (O.no rfl (noB (isT rfl c64) rfl) (O.pickT (isT rfl c64) (O.nil (⟨⟨?_, rfl, rfl, rfl, rfl, rfl, rfl, rfl⟩, rfl⟩)))))))))
     exact Eq.trans rfl (congrArg Value.bool (by first | exact (decide_eq_true (by omega)).symm | exact (decide_eq_false (by omega)).symm | exact decide_eq_decide.2 ⟨fun h9 => .inr ⟨by omega, h9⟩, fun h9 => by omega⟩))
    refine O.yes rfl (isF rfl c64) (O.mv (O.yes rfl (isF rfl c64) (O.eqlI rfl rfl (O.yes rfl (isF rfl c64) (O.mv (O.splitD (x := .tmp 67) rfl (fun c67 => ?_) (fun c67 => ?_)))))))
    ·
     refine O.yes rfl (isT rfl c67) (O.mv (O.yes rfl (isT rfl c67) (O.mv (O.yes rfl (isT rfl c67) (O.lssI s7_3 (Eq.trans s5_3 s5_2) (O.yes rfl (isF rfl c64) (O.pickT (isT rfl c67) (O.pickF (isF rfl c64) (O.nil (⟨⟨?_, rfl, rfl, rfl, rfl, rfl, rfl, rfl⟩, rfl⟩))))))))))
     exact Eq.trans rfl (congrArg Value.bool (by first | exact (decide_eq_true (by omega)).symm | exact (decide_eq_false (by omega)).symm | exact decide_eq_decide.2 ⟨fun h9 => .inr ⟨by omega, h9⟩, fun h9 => by omega⟩))
    refine O.no rfl (noB (isF rfl c67) rfl) (O.no rfl (noB (isF rfl c67) rfl) (O.no rfl (noB (isF rfl c67) rfl) (O.yes rfl (isF rfl c64) (O.pickF (isF rfl c67) (O.pickF (isF rfl c64) (O.nil (⟨⟨?_, rfl, rfl, rfl, rfl, rfl, rfl, rfl⟩, rfl⟩)))))))
    exact Eq.trans rfl (congrArg Value.bool (by first | exact (decide_eq_true (by omega)).symm | exact (decide_eq_false (by omega)).symm | exact decide_eq_decide.2 ⟨fun h9 => .inr ⟨by omega, h9⟩, fun h9 => by omega⟩))
   rintro f_4 ⟨s72_4, s0_4, s2_4, s3_4, s4_4, s5_4, s6_4, s7_4⟩
   refine K28 (C.condD s72_4 (fun c72 => ?_) (fun c72 => ?_))
   ·
    have hcn := Ss.cntT_yes (hzL.1 c72)
    refine C.region (O.mv (O.ad (Eq.trans s6_4 s6_3) rfl (O.asg (O.nil (K26 (K25 (C.region (O.mv (O.ad (Eq.trans s7_4 s7_3) rfl (O.asg (O.nil (⟨kk + 1, ⟨rfl, (Eq.trans rfl (i64_eq (by omega))), (Eq.trans s0_4 s0_3), (Eq.trans s2_4 s2_3), (Eq.trans s3_4 s3_3), (Eq.trans s4_4 s4_3), (Eq.trans s5_4 s5_3), (Ext.trans e_3 e11), (r0_3.keep e11), ?_⟩, by first | omega | (simp only []; omega)⟩))))))))))))
    omega
   have hcn := Ss.cntT_no (fun h9 => c72 (hzL.2 h9))
   refine C.skip (K26 (K25 (C.region (O.mv (O.ad (Eq.trans s7_4 s7_3) rfl (O.asg (O.nil (⟨kk + 1, ⟨rfl, (Eq.trans (Eq.trans s6_4 s6_3) (i64_eq (by omega))), (Eq.trans s0_4 s0_3), (Eq.trans s2_4 s2_3), (Eq.trans s3_4 s3_3), (Eq.trans s4_4 s4_3), (Eq.trans s5_4 s5_3), (Ext.trans e_3 e11), (r0_3.keep e11), ?_⟩, by first | omega | (simp only []; omega)⟩))))))))
   omega
  obtain rfl : kk = l.length := by omega
  refine C.exit (K22 (K20 (C.sr fun K29 => O.mv (O.mv (O.lenL underlying43 (Eq.trans s4_3 s4_2) (O.lssI s6_3 rfl (K29 (C.condD rfl (fun c78 => ?_) (fun c78 => ?_)))))))))
  ·
   refine C.region (O.mv (O.mv (O.mv ?_)))
   obtain ⟨g82, cap82, hv82⟩ := OwnF.ptr r0_3 (by rw [Ss.ordL_length]; omega)
   have ho82 := r0_3
   rw [hv82] at ho82
   refine O.idxO underlying43 sizeOf3 (Eq.trans (Eq.trans s4_3 s4_2) hv82) s6_3 (by rw [Ss.ordL_length]; omega) (O.storeF (G := Dt.intF) ((i : Int)) sizeOf3 rfl (fun _ => rfl) rfl rfl (Eq.trans s5_3 s5_2) ho82 (by rw [Ss.ordL_length]; omega) (fun w12 hs12 e12 z12 => ?_))
   rw [← hv82] at hs12
   replace e12 : Ext (fun j => j = b38) w10 w12 := e12.mono (fun k _ hk => by have h9 := (Value.slice.inj hv82).1; cases h9; exact hk)
   simp only [Int.toNat_natCast, Nat.zero_add, Nat.mul_one] at hs12
   refine O.nil (K18 (K17 (C.region (O.mv (O.ad (Eq.trans s5_3 s5_2) rfl (O.asg (O.nil (⟨i + 1, ⟨rfl, (Eq.trans s0_3 s0_2), (Eq.trans s2_3 s2_2), (Eq.trans s3_3 s3_2), (Eq.trans s4_3 s4_2), (Ext.new e_3 e12 (by intro i9 hi9 h9; have h0 : i9 = b38 := h9; have := (r0_3).bk_ge b38 rfl; omega)), hs12, ?_⟩, by first | omega | (simp only []; omega)⟩))))))))
   omega
  have h38n : OwnF Dt.intF 3 w.heap.size w10 (.slice (some ⟨b38, 0, none⟩) l.length l.length) (Ss.ordL (Ds.kx l) l.length (i + 1)) := by rw [Ss.ordL_skip (by omega)]; exact r0_3
  refine C.skip (K18 (K17 (C.region (O.mv (O.ad (Eq.trans s5_3 s5_2) rfl (O.asg (O.nil (⟨i + 1, ⟨rfl, (Eq.trans s0_3 s0_2), (Eq.trans s2_3 s2_2), (Eq.trans s3_3 s3_2), (Eq.trans s4_3 s4_2), e_3, h38n, ?_⟩, by first | omega | (simp only []; omega)⟩))))))))
  omega
 obtain rfl : i = l.length := by omega
 refine C.exit (K14 (K12 (C.sr fun K30 => O.mv (O.mv (O.call call19 (args3 (Eq.trans s0_2 s0_1) (Eq.trans s3_2 s3_1) rfl) (means_spec (slv p0) l F (Ds.meanV l) 0 _ (hl.keep e_2) rfl (if_neg (by omega))) ?_)))))
 rintro v_85 w13 ⟨rfl, e13⟩
 have z13 := e13.size
 refine O.mv (O.yes rfl rfl (O.mv (O.yes rfl rfl (O.mv (O.yes rfl rfl (O.call call20 (args3 (Eq.trans s0_2 s0_1) s4_2 rfl) (ranksL_spec p0 l F (.slice (some ⟨b38, 0, none⟩) l.length l.length) (Ss.ordL (Ds.kx l) l.length l.length) _ _ ((hl.keep e_2).keep e13) (fun j hj => by have q1 := hF j hj; omega) ((r0_2.keep e13)).sl (by omega) (Ss.ordL_length _ _ _) (fun M ha hp => Ss.ordL_eq ha hp)) ?_))))))
 rintro v_89 w14 ⟨rfl, e14⟩
 have z14 := e14.size
 refine O.pickT rfl (O.mv (O.yes rfl rfl (O.call call13 (argsN) (known_spec _ (((mx.keep e_2).keep e13).keep e14)) ?_)))
 rintro v_92 w15 ⟨rfl, e15⟩
 have z15 := e15.size
 refine O.pickT rfl (O.asg (K30 (C.ret (Outs.one rfl rfl ?_))))
 exact ⟨rfl, (Ext.trans (Ext.trans (Ext.trans e_2 e13) e14) e15)⟩
theorem discountMeans_spec (v0 : Value) (l : List (BitVec 64)) (F : Nat → Prop) (w : World) (hl : Sl flE w F v0 l) (hF : ∀ k, F k → k < w.heap.size) (mx : Mx w) : Ret Tryz.prog 6 #[v0] w (fun v w' => v = .bool true ∧ Le w w') := by
 obtain ⟨p0, rfl⟩ := hl.slv
 exact meansL_spec p0 l F w hl hF mx
end Go.Proofs.YtbadfphdniliaaaGreatDoor
end
