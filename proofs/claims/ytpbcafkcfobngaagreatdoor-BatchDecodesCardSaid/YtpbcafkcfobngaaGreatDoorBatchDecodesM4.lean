/-
 The walk of the law of batches: what is right. Conditions: slices as they lie in memory.
-/
import Derived.Test.YtpbcafkcfobngaaGreatDoorBatchDecodesM3
set_option maxHeartbeats 16000000
namespace Go.Proofs.YtpbcafkcfobngaaGreatDoor
open Go.Pn Go.RowKit Go.Proofs _root_.Go.Proofs.Tryz
attribute [local irreducible] O C D
theorem right_spec (v0 : Value) (p : List UInt8) (F : Nat → Prop) (w : World) (hl : Sl byteE w F v0 p) (hL : p.length ≤ 900000) (hF : ∀ j, F j → j < w.heap.size) (mx : Mx w) :
 Ret prog 23 #[v0] w (fun v w' => v = .bool true ∧ Le w w') := by
 obtain ⟨ie5, ti5, ts5, tb5, tz5⟩ := inf5
 have hgl := mx.lt
 have hll := hl.le
 have _hF9 := hF
 refine enT [v0] 67 func23 rfl rfl (C.sr fun K1 => O.asg (K1 (C.sr fun K2 => O.mv (O.appF (G := byteF) U30 ti5 tz5 ts5 rfl rfl rfl (OwnF.nil _ _ _ _) hl (by rw [tb5]; simp; omega) (by unfold maxLen; simp; omega) (Nat.le_refl _) (fun v12 w1 h12 e1 => ?_)))))
 replace e1 : Le w w1 := e1.mono (fun _ _ h => h)
 have z1 := e1.size
 have h12s := h12.sl
 replace h12 : OwnF byteF 5 w.heap.size w1 v12 p := h12
 replace h12s := h12.sl
 refine O.asg (K2 (C.sr fun K3 => O.asg (K3 (C.sr fun K4 => O.asg (K4 (C.sq fun K5 => C.sr fun K6 => O.mv (O.len U30 rfl (hl.keep e1) (O.subI rfl rfl (by unfold InI; omega) (O.asg (K6 (C.sq fun K7 => C.join (fun f w f' w' => Le w w' ∧ f' 0 = f 0 ∧ f' 2 = f 2 ∧ f' 3 = f 3 ∧ f' 4 = f 4 ∧ f' 5 = f 5 ∧ f' 6 = f 6 ∧ f' 31 = .bool (decide (p = Bt.end4 (p.take (p.length - 4))))) ?_ ?_)))))))))))
 ·
  refine C.draw (by kernel_rfl) fun w2 e2 => ?_
  have z2 := e2.size
  refine D.mv 0 rfl (Le.refl _) (D.t 1 rfl (Le.refl _) (fun _ _ _ hN => O.geqI rfl rfl (O.nil hN)) (D.mv 2 rfl (Le.refl _) (D.splitD (x := .tmp 18) rfl (fun c18 => ?_) (fun c18 => ?_))))
  ·
   refine D.ty 3 rfl rfl rfl rfl (isT rfl c18) (Le.refl _) ⟨pure _, rfl⟩ (fun _ hw_ _ hN => O.mv (O.nil hN)) ?_
   have t0 := (hl.keep e1).keep e2
   refine D.ty 4 rfl rfl rfl rfl (isT rfl c18) (Le.refl _) ⟨_, rfl⟩ (fun _ hw_ _ hN => O.bytesS U30 U5 U9 rfl (t0.keep hw_) (O.nil hN)) (D.ty 5 rfl rfl rfl rfl (isT rfl c18) (Le.refl _) ⟨pure _, rfl⟩ (fun _ hw_ _ hN => O.mv (O.nil hN)) (D.ty 6 rfl rfl rfl rfl (isT rfl c18) (Le.refl _) ⟨pure _, rfl⟩ (fun _ hw_ _ hN => O.mv (O.nil hN)) ?_))
   have hb23 := Sl.sub (P := prog) (0) ((p.length - 4)) U30 Z5 (by rfl) t0 (Nat.zero_le _) (by omega)
   obtain ⟨v23, hs23, hr23⟩ := hb23
   refine D.ty 7 rfl rfl rfl rfl (isT rfl c18) (Le.refl _) ⟨_, rfl⟩ (fun _ hw_ _ hN => O.subR rfl hr23 (.inl ⟨rfl, rfl⟩) (.inr ⟨_, _, rfl, (Eq.trans rfl (i64_eq (show (p.length : Int) - 4 = ((p.length - 4 : Nat) : Int) by omega)))⟩) (O.nil hN)) ?_
   rw [List.drop_zero] at hs23
   refine D.ty 8 rfl rfl rfl rfl (isT rfl c18) (Le.refl _) ⟨pure _, rfl⟩ (fun _ hw_ _ hN => O.mv (O.nil hN)) (D.ty 9 rfl rfl rfl rfl (isT rfl c18) (Le.refl _) ⟨pure _, rfl⟩ (fun _ hw_ _ hN => O.mv (O.nil hN)) ?_)
   have hb26 := Sl.sub (P := prog) (0) ((p.length - 4)) U30 Z5 (by rfl) t0 (Nat.zero_le _) (by omega)
   obtain ⟨v26, hs26, hr26⟩ := hb26
   refine D.ty 10 rfl rfl rfl rfl (isT rfl c18) (Le.refl _) ⟨_, rfl⟩ (fun _ hw_ _ hN => O.subR rfl hr26 (.inl ⟨rfl, rfl⟩) (.inr ⟨_, _, rfl, (Eq.trans rfl (i64_eq (show (p.length : Int) - 4 = ((p.length - 4 : Nat) : Int) by omega)))⟩) (O.nil hN)) ?_
   rw [List.drop_zero] at hs26
   refine D.oneYes (i := 11) rfl rfl (isT rfl c18) (by kernel_rfl) (O.call call25 (args1 rfl) (csum_spec _ (p.take (p.length - 4)) F _ hs26) ?_)
   rintro v_27 w3 ⟨rfl, e3⟩
   have z3 := e3.size
   refine O.nil ⟨e3, D.oneYes (i := 12) rfl rfl (isT rfl c18) (by kernel_rfl) (O.call call24 (args2 rfl rfl) (rend_spec _ (p.take (p.length - 4)) F (Bt.sumOf (p.take (p.length - 4))) _ (hs23.keep e3) (by rw [List.length_take]; omega)) ?_)⟩
   rintro v_28 w4 ⟨e4, h28⟩
   have z4 := e4.size
   refine O.nil ⟨(Ext.trans e3 e4), ?_⟩
   have h28s := h28.sl
   refine D.oneYes (i := 13) rfl rfl (isT rfl c18) (by kernel_rfl) (O.bytesS U30 U5 U9 rfl h28s (O.nil ⟨(Ext.trans e3 e4), D.ty 14 rfl rfl rfl rfl (isT rfl c18) (Ext.trans e3 e4) ⟨_, rfl⟩ (fun _ hw_ _ hN => O.eqlS rfl rfl (O.nil hN)) (D.tk 15 rfl rfl rfl rfl (Ext.trans e3 e4) pick_form (fun _ hw_ _ hN => O.pickT (isT rfl c18) (O.nil hN)) (D.dn ?_))⟩))
   exact ⟨(Ext.trans (Ext.trans e2 e3) e4), rfl, rfl, rfl, rfl, rfl, rfl, (by first | exact rfl | exact Eq.trans rfl (congrArg Value.bool (decide_eq_false (Bt.end4_ne (by omega))).symm))⟩
  refine D.tn 3 rfl rfl (Le.refl _) rfl (noB (isF rfl c18) rfl) (D.tn 4 rfl rfl (Le.refl _) rfl (noB (isF rfl c18) rfl) (D.tn 5 rfl rfl (Le.refl _) rfl (noB (isF rfl c18) rfl) (D.tn 6 rfl rfl (Le.refl _) rfl (noB (isF rfl c18) rfl) (D.tn 7 rfl rfl (Le.refl _) rfl (noB (isF rfl c18) rfl) (D.tn 8 rfl rfl (Le.refl _) rfl (noB (isF rfl c18) rfl) (D.tn 9 rfl rfl (Le.refl _) rfl (noB (isF rfl c18) rfl) (D.tn 10 rfl rfl (Le.refl _) rfl (noB (isF rfl c18) rfl) (D.tn 11 rfl rfl (Le.refl _) rfl (noB (isF rfl c18) rfl) (D.tn 12 rfl rfl (Le.refl _) rfl (noB (isF rfl c18) rfl) (D.tn 13 rfl rfl (Le.refl _) rfl (noB (isF rfl c18) rfl) ?_))))))))))
  refine D.tn 14 rfl rfl (Le.refl _) rfl (noB (isF rfl c18) rfl) (D.tk 15 rfl rfl rfl rfl (Le.refl _) pick_form (fun _ hw_ _ hN => O.pickF (isF rfl c18) (O.nil hN)) (D.dn ?_))
  exact ⟨e2, rfl, rfl, rfl, rfl, rfl, rfl, (by first | exact rfl | exact Eq.trans rfl (congrArg Value.bool (decide_eq_false (Bt.end4_ne (by omega))).symm))⟩
 rintro f_1 w5 ⟨e_1, s0_1, s2_1, s3_1, s4_1, s5_1, s6_1, s31_1⟩
 have z_1 := e_1.size
 refine K7 (C.join (fun f w f' w' => Le w w' ∧ f' 0 = f 0 ∧ f' 2 = f 2 ∧ f' 3 = f 3 ∧ ∃ (vw : Value) (ew : Int) (rw9 : List EntR) (lw : List EntT), f' 4 = vw ∧ f' 5 = .int .i64 ew ∧ Sl entF.enc w' (fun j => j < w'.heap.size) vw rw9 ∧ EntL w' (fun j => j < w'.heap.size) rw9 lw ∧ Bt.DecRes p lw ew) ?_ ?_)
 ·
  refine C.condD s31_1 (fun c31 => ?_) (fun c31 => ?_)
  ·
   have hn4 : 4 ≤ p.length := Nat.le_of_not_lt fun q => Bt.end4_ne q c31
   refine C.sr fun K8 => O.mv (O.mv ?_)
   have hb35 := Sl.sub (P := prog) (0) ((p.length - 4)) U30 Z5 (by rfl) ((hl.keep e1).keep e_1) (Nat.zero_le _) (by omega)
   obtain ⟨v35, hs35, hr35⟩ := hb35
   refine O.subR s0_1 hr35 (.inl ⟨rfl, rfl⟩) (.inr ⟨_, _, rfl, (Eq.trans s6_1 (i64_eq (show (p.length : Int) - 4 = ((p.length - 4 : Nat) : Int) by omega)))⟩) ?_
   rw [List.drop_zero] at hs35
   refine O.call call63 (args1 rfl) (rread_spec _ (p.take (p.length - 4)) F _ hs35 (by rw [List.length_take]; omega) (fun j hj => by have q1 := hF j hj; omega) ((mx.keep e1).keep e_1)) ?_
   rintro v_36 w6 ⟨uv36, esv36, okv36, rfl, hv36, hBv36, hRv36, e6⟩
   have z6 := e6.size
   have hv36b := hv36.ents
   obtain ⟨raw36, hra, hea⟩ := hv36b
   have hrl36 := hea.1
   refine O.mv (O.extract rfl rfl (O.extract rfl rfl (O.asg (O.asg (K8 (C.sr fun K9 => O.mv (O.mv (O.split (x := .tmp 40) rfl (fun c40 => ?_) (fun c40 => ?_)))))))))
   ·
    refine O.yes rfl (isT' rfl c40) (O.mv (O.yes rfl (isT' rfl c40) (O.len U22 rfl hra (O.yes rfl (isT' rfl c40) (O.leqI rfl rfl (O.pickT (isT' rfl c40) (O.mv (O.splitD (x := .tmp 45) rfl (fun c45 => ?_) (fun c45 => ?_)))))))))
    ·
     refine O.yes rfl (isT rfl c45) (O.mv (O.yes rfl (isT rfl c45) (O.call call19 (args1 rfl) (lordered_spec uv36 raw36 esv36 _ _ hra hea (fun j hj => by (try dsimp only at hj); omega) hBv36 (((mx.keep e1).keep e_1).keep e6)) ?_)))
     rintro v_47 w7 ⟨rfl, e7⟩
     have z7 := e7.size
     refine O.pickT (isT rfl c45) (K9 (C.cond rfl (fun c48 => ?_) (fun c48 => ?_)))
     ·
      have hrel : Bt.DecRes p esv36 0 := Bt.rd_fin2 c31 hRv36 (by unfold Bt.valid; rw [show Bt.ordered esv36 = true by simpa using c48, show okv36 = true by simpa using c40, decide_eq_true (by omega)]; rfl)
      have hwr := (hra.keep e7)
      have hwe := (hea.keep e7)
      refine C.region (O.mv (O.asg (O.asg (O.nil ?_))))
      exact ⟨(Ext.trans e6 e7), rfl, rfl, rfl, ⟨_, _, _, _, rfl, rfl, ((hwr).weakA), ((hwe).weakA), hrel⟩⟩
     have hrel : Bt.DecRes p [] 12 := Bt.rd_fin1 c31 hRv36 (by unfold Bt.valid; rw [show Bt.ordered esv36 = false by simpa using c48]; simp)
     have hnw : Sl entF.enc w7 (fun j => j < w7.heap.size) (.slice none 0 0) [] := Sl.nil _ _ _
     have hnl : EntL w7 (fun j => j < w7.heap.size) [] [] := EntL.nil
     refine C.skip ?_
     exact ⟨(Ext.trans e6 e7), rfl, rfl, rfl, ⟨_, _, _, _, s4_1, s5_1, ((hnw).weakA), ((hnl).weakA), hrel⟩⟩
    have hrel : Bt.DecRes p [] 12 := Bt.rd_fin1 c31 hRv36 (by unfold Bt.valid; rw [decide_eq_false (by omega)]; simp)
    have hnw : Sl entF.enc w6 (fun j => j < w6.heap.size) (.slice none 0 0) [] := Sl.nil _ _ _
    have hnl : EntL w6 (fun j => j < w6.heap.size) [] [] := EntL.nil
    refine O.no rfl (noB (isF rfl c45) rfl) (O.no rfl (noB (isF rfl c45) rfl) (O.pickF (isF rfl c45) (K9 (C.condF rfl (C.skip ?_)))))
    exact ⟨e6, rfl, rfl, rfl, ⟨_, _, _, _, s4_1, s5_1, ((hnw).weakA), ((hnl).weakA), hrel⟩⟩
   have hrel : Bt.DecRes p [] 12 := Bt.rd_fin1 c31 hRv36 (by rw [show okv36 = false by simpa using c40]; rfl)
   have hnw : Sl entF.enc w6 (fun j => j < w6.heap.size) (.slice none 0 0) [] := Sl.nil _ _ _
   have hnl : EntL w6 (fun j => j < w6.heap.size) [] [] := EntL.nil
   refine O.no rfl (noB (isF' rfl c40) rfl) (O.no rfl (noB (isF' rfl c40) rfl) (O.no rfl (noB (isF' rfl c40) rfl) (O.pickF (isF' rfl c40) (O.mv (O.no rfl (noB rfl rfl) (O.no rfl (noB rfl rfl) (O.pickF rfl (K9 (C.condF rfl (C.skip ?_))))))))))
   exact ⟨e6, rfl, rfl, rfl, ⟨_, _, _, _, s4_1, s5_1, ((hnw).weakA), ((hnl).weakA), hrel⟩⟩
  have hrel : Bt.DecRes p [] 12 := Bt.dec_sum c31
  have hnw : Sl entF.enc w5 (fun j => j < w5.heap.size) (.slice none 0 0) [] := Sl.nil _ _ _
  have hnl : EntL w5 (fun j => j < w5.heap.size) [] [] := EntL.nil
  refine C.skip ?_
  exact ⟨(Le.refl _), rfl, rfl, rfl, ⟨_, _, _, _, s4_1, s5_1, ((hnw).weakA), ((hnl).weakA), hrel⟩⟩
 rintro f_2 w8 ⟨e_2, s0_2, s2_2, s3_2, ⟨vw, ew, rw9, lw, s4_2, s5_2, q0_2, q1_2, q2_2⟩⟩
 have z_2 := e_2.size
 have hrel := q2_2
 have sp1_ : ∃ n, n = w8.heap.size := ⟨_, rfl⟩
 obtain ⟨w9_, hw9_⟩ := sp1_
 refine K5 (C.sq fun K10 => C.sr fun K11 => O.mv (O.mv (O.mv ?_)))
 have t1 := (h12.keep e_1).keep e_2
 have t2 := (h12s.keep e_1).keep e_2
 have t3 := ((mx.keep e1).keep e_1).keep e_2
 refine O.call call31 (args3 (Eq.trans s3_2 s3_1) s4_2 s5_2) (decodes_spec _ p _ vw rw9 lw _ ew _ t2 (by omega) (fun j hj => by have := (t1).bk_ge j hj; omega) t3 q0_2 q1_2 (fun j hj => by (try dsimp only at hj); omega) hrel) ?_
 rintro v_53 w9 ⟨rfl, e9⟩
 have z9 := e9.size
 refine O.not rfl (O.cast (v' := .bool false) rfl (K11 (C.condF rfl (C.skip (K10 (C.sr fun K12 => O.mv (O.call call37 (args1 (Eq.trans s3_2 s3_1)) (bdecode_spec _ p _ _ (t2.keep e9) (by omega) (fun j hj => by have := ((t1.keep e9)).bk_ge j hj; omega) (t3.keep e9)) ?_)))))))
 rintro v_57 w10 ⟨uv57, esv57, env57, rfl, hv57, hBv57, hRv57, e10⟩
 have z10 := e10.size
 refine O.mv (O.extract rfl rfl (O.extract rfl rfl (O.asg (O.asg (K12 (C.sr fun K13 => O.mv (O.call call35 (args1 rfl) (stainL_spec uv57 uv57 esv57 _ _ _ (.inl rfl) hv57 (Nat.le_refl _) hBv57) ?_)))))))
 rintro v_61 w11 ⟨rfl, e11⟩
 have z11 := e11.size
 refine K13 (C.sr fun K14 => O.mv (O.bytesS U30 U5 U9 (Eq.trans s3_2 s3_1) (((t2.keep e9).keep e10).keepM e11 (fun k hk h => by have := h12.bk_ge k hk; (try dsimp only at h); omega)) (O.mv ?_)))
 have t4 := Ext.trans (Ext.trans e1 e_1) e_2
 have t5 := Ext.trans (Ext.trans t4 e9) e10
 have t6 := Ext.new t5 e11 (by intro i hi h; (try dsimp only at h); omega)
 refine O.bytesS U30 U5 U9 (Eq.trans s0_2 s0_1) (hl.keep t6) (O.eqlS rfl rfl (O.cast (v' := .bool true) (congrArg Value.bool (by exact decide_eq_true rfl)) (O.asg (K14 (C.ret (Outs.one rfl rfl ?_))))))
 exact ⟨rfl, t6⟩
theorem batchDecodes_spec (v0 : Value) (p : List UInt8) (F : Nat → Prop) (w : World) (hl : Sl byteE w F v0 p) (hF : ∀ j, F j → j < w.heap.size) (mx : Mx w) :
 Ret prog 4 #[v0] w (fun v w' => v = .bool true ∧ Le w w') := by
 have hll := hl.le
 refine enT [v0] 19 func4 rfl rfl (C.sr fun K1 => O.asg (K1 (C.sq fun K2 => C.sr fun K3 => O.mv (O.len U30 rfl hl (O.gtrI rfl rfl (K3 (C.condD rfl (fun c5 => ?_) (fun c5 => ?_))))))))
 ·
  refine C.sr fun K4 => O.call call16 (argsN) (bknown_spec _ mx) ?_
  rintro v_6 w1 ⟨rfl, e1⟩
  have z1 := e1.size
  refine O.asg (K4 (C.ret (Outs.one rfl rfl ?_)))
  exact ⟨rfl, e1⟩
 refine C.skip (K2 (C.sr fun K5 => O.mv (O.call call23 (args1 rfl) (right_spec v0 p F _ hl (by omega) (fun j hj => by have q1 := hF j hj; omega) mx) ?_)))
 rintro v_8 w2 ⟨rfl, e2⟩
 have z2 := e2.size
 refine O.mv (O.yes rfl rfl (O.mv (O.yes rfl rfl (O.mv (O.yes rfl rfl (O.call call25 (args1 rfl) (csum_spec _ p F _ (hl.keep e2)) ?_))))))
 rintro v_12 w3 ⟨rfl, e3⟩
 have z3 := e3.size
 refine O.yes rfl rfl (O.call call24 (args2 rfl rfl) (rend_spec _ p F (Bt.sumOf p) _ ((hl.keep e2).keep e3) (by omega)) ?_)
 rintro v_13 w4 ⟨e4, h13⟩
 have z4 := e4.size
 have h13s := h13.sl
 refine O.yes rfl rfl ?_
 have t0 := ((mx.keep e2).keep e3).keep e4
 refine O.call call23 (args1 rfl) (right_spec _ (Bt.end4 p) _ _ h13s (by rw [Bt.end4_len]; omega) (fun j hj => by have := (h13).bk_ge j hj; omega) t0) ?_
 rintro v_14 w5 ⟨rfl, e5⟩
 have z5 := e5.size
 refine O.pickT rfl (O.mv (O.yes rfl rfl (O.call call16 (argsN) (bknown_spec _ (t0.keep e5)) ?_)))
 rintro v_17 w6 ⟨rfl, e6⟩
 have z6 := e6.size
 refine O.pickT rfl (O.asg (K5 (C.ret (Outs.one rfl rfl ?_))))
 exact ⟨rfl, (Ext.trans (Ext.trans (Ext.trans (Ext.trans e2 e3) e4) e5) e6)⟩
end Go.Proofs.YtpbcafkcfobngaaGreatDoor
