/-
 The walks of batches: entries in order, small entries, equal entries. Conditions: slices as they lie in memory.
-/
import Derived.Test.YtpbcafkcfobngaaGreatDoorBatchEncodesM5
import Derived.Test.YtpbcafkcfobngaaGreatDoorBatchEncodesM2
import Derived.Test.YtpbcafkcfobngaaGreatDoorBatchEncodesM3
import Derived.Test.YtpbcafkcfobngaaGreatDoorBatchEncodesM1
section
namespace Go.Proofs.YtpbcafkcfobngaaGreatDoor
open Go.Pn Go.RowKit Go.Proofs _root_.Go.Proofs.Tryz
attribute [local irreducible] O C D
set_option maxHeartbeats 4000000 in
theorem ordered_spec (v0 : Value) (raw : List EntR) (l : List EntT) (F : Nat → Prop) (w : World) (hr : Sl entF.enc w F v0 raw) (he : EntL w F raw l) (hF : ∀ k, F k → k < w.heap.size) (hB : Bt.Big l) (mx : Mx w) :
 Ret Tryz.prog 59 #[v0] w (fun v w' => v = .bool (Bt.ordered l) ∧ Le w w') := by
 have hl := he.1
 have hrl := hr.le
 refine enT [v0] 38 func59 rfl rfl (C.seqK fun K1 hK1 => C.region (O.asg (O.nil (hK1 _ _ (C.seqK fun K2 hK2 => C.seqK fun K3 hK3 => C.region (O.mv (O.len underlying22 rfl hr (O.mv (O.nil (hK3 _ _ (C.block fun K4 hK4 => C.loop0 (σ := Nat) (fun f0 w0 k f w => f 7 = .int .i64 ((k : Int)) ∧ f 0 = f0 0 ∧ f 5 = f0 5 ∧ f 6 = f0 6 ∧ Le w0 w ∧ k ≤ l.length ∧ (∀ i, ∀ h : i < l.length, i < k → Bt.okE l[i] = true) ∧ (∀ i, ∀ h : i + 1 < l.length, i + 1 < k → Op.bytesLess l[i].1 l[i + 1].1 = true)) (fun k => l.length - k) 0 ?_ ?_)))))))))))
 ·
  refine ⟨rfl, rfl, rfl, rfl, Le.refl _, ?_⟩
  exact ⟨Nat.zero_le _, fun i h k => absurd k (Nat.not_lt_zero _), fun i h k => absurd k (Nat.not_lt_zero _)⟩
 ·
  rintro k f_1 w1 ⟨s7_1, s0_1, s5_1, s6_1, e_1, ⟨hk, hI, hJ⟩⟩
  have z_1 := e_1.size
  refine C.seqK fun K5 hK5 => C.region (O.lssI s7_1 s6_1 (O.nil (hK5 _ _ (C.seqK fun K6 hK6 => C.condD rfl (fun c8 => ?_) (fun c8 => ?_)))))
  ·
   have hk2 : k < l.length := by omega
   refine C.skip (hK6 _ _ (C.seqK fun K7 hK7 => C.block fun K8 hK8 => C.seqK fun K9 hK9 => C.region (O.mv (O.idx underlying22 sizeOf50 rfl s5_1 (hr.keep e_1) s7_1 (by omega) (fun a10 h10 => O.loadG (G := entF) isAgg50 sizeOf50 rfl h10 ?_)))))
   have hk9r : k < raw.length := by have q9 := ((he.keep e_1)).1; omega
   have hk8r : k < l.length := by have q9 := ((he.keep e_1)).1; omega
   have sp1_ : ∃ q : EntR, q = raw[k] := ⟨_, rfl⟩
   obtain ⟨r, hrr⟩ := sp1_
   have sp2_ : ∃ q : EntT, q = l[k] := ⟨_, rfl⟩
   obtain ⟨x, hxr⟩ := sp2_
   have t0 := ((he.keep e_1)).2 k hk9r hk8r
   have hkxr : r.1 = x.1 := by rw [hrr, hxr]; exact t0.1
   have hca : CartAt w1 F r.2 x.2 := by rw [hrr, hxr]; exact t0.2
   have hmxr : x ∈ l := by rw [hxr]; exact List.getElem_mem _
   have hbr := hB x hmxr
   refine O.cast (v' := .agg #[str r.1, slv r.2.1.1, slv r.2.1.2, slv r.2.2]) (by rw [hrr]; rfl) (O.alloc zeroValue50 (fun b4 w2 hb4 hz4 e2 => ?_))
   have z2 := e2.size
   have h4 := hz4.own
   have hl4 := h4.lt
   refine O.asg (O.storeA (vs := [str r.1, slv r.2.1.1, slv r.2.1.2, slv r.2.2]) sizeOf50 rfl rfl rfl (by intro u hu; simp only [List.mem_cons, List.not_mem_nil, or_false] at hu; rcases hu with rfl | rfl | rfl | rfl <;> rfl) h4 (leB rfl) (fun w3 hs3 e3 z3 => O.nil (hK9 _ _ (C.seqK fun K10 hK10 => C.draw (by kernel_rfl) fun w4 e4 => ?_))))
   have z4 := e4.size
   refine D.tk 0 rfl rfl rfl rfl (Le.refl _) ⟨_, rfl⟩ (fun _ hw_ _ hN => O.fieldAd underlying50 rfl sizeOf9 (by decide) rfl (O.nil hN)) (D.tk 1 rfl rfl rfl rfl (Le.refl _) ⟨_, rfl⟩ (fun _ hw_ _ hN => O.loadO isAgg9 rfl ((hs3.keep e4).keep hw_) rfl (O.nil hN)) (D.on 2 rfl rfl (O.call call60 (args1 rfl) (okKey_spec r.1 _ (by rw [hkxr]; exact hbr.1)) ?_)))
   rintro v_14 w5 ⟨rfl, e5⟩
   have z5 := e5.size
   refine O.nil ⟨e5, D.tk 3 rfl rfl rfl rfl e5 ⟨_, rfl⟩ (fun _ hw_ _ hN => O.not rfl (O.nil hN)) (D.tk 4 rfl rfl rfl rfl e5 ⟨pure _, rfl⟩ (fun _ hw_ _ hN => O.mv (O.nil hN)) (D.split (x := .tmp 16) rfl (fun c16 => ?_) (fun c16 => ?_)))⟩
   ·
    refine D.tn 5 rfl rfl e5 rfl (noB (isT' rfl c16) rfl) (D.tn 6 rfl rfl e5 rfl (noB (isT' rfl c16) rfl) (D.tn 7 rfl rfl e5 rfl (noB (isT' rfl c16) rfl) (D.tn 8 rfl rfl e5 rfl (noB (isT' rfl c16) rfl) (D.tk 9 rfl rfl rfl rfl e5 pick_form (fun _ hw_ _ hN => O.pickT (isT' rfl c16) (O.nil hN)) (D.tk 10 rfl rfl rfl rfl e5 ⟨pure _, rfl⟩ (fun _ hw_ _ hN => O.mv (O.nil hN)) (D.tn 11 rfl rfl e5 rfl (noB rfl rfl) (D.tn 12 rfl rfl e5 rfl (noB rfl rfl) (D.tn 13 rfl rfl e5 rfl (noB rfl rfl) (D.tn 14 rfl rfl e5 rfl (noU rfl) (D.tn 15 rfl rfl e5 rfl (noU rfl) (D.tn 16 rfl rfl e5 rfl (noU rfl) (D.tn 17 rfl rfl e5 rfl (noU rfl) (D.tn 18 rfl rfl e5 rfl (noU rfl) ?_)))))))))))))
    refine D.tn 19 rfl rfl e5 rfl (noU rfl) (D.tn 20 rfl rfl e5 rfl (noU rfl) (D.tn 21 rfl rfl e5 rfl (noU rfl) (D.tn 22 rfl rfl e5 rfl (noU rfl) (D.tn 23 rfl rfl e5 rfl (noB rfl rfl) (D.tk 24 rfl rfl rfl rfl e5 pick_form (fun _ hw_ _ hN => O.pickT rfl (O.nil hN)) (D.dn (hK10 _ _ (C.condT rfl (C.seqK fun K11 hK11 => C.region (O.asg (O.nil (hK11 _ _ (C.ret (Outs.one rfl rfl ?_))))))))))))))
    exact ⟨congrArg Value.bool (Bt.ordered_no1 hk2 (by rw [← hxr]; exact Bt.okE_no1 (by rw [← hkxr]; simpa using c16))).symm, (Ext.trans (Ext.trans (Ext.nr (Ext.trans e_1 e2) e3) e4) e5)⟩
   ·
    refine D.ty 5 rfl rfl rfl rfl (isF' rfl c16) e5 ⟨_, rfl⟩ (fun _ hw_ _ hN => O.fieldAd underlying50 rfl sizeOf47 (by decide) rfl (O.nil hN)) (D.ty 6 rfl rfl rfl rfl (isF' rfl c16) e5 ⟨_, rfl⟩ (fun _ hw_ _ hN => O.loadOA isAgg47 sizeOf47 rfl ((hs3.keep e4).keep hw_) (leB rfl) (O.nil hN)) (D.oneYes (i := 7) rfl rfl (isF' rfl c16) (by kernel_rfl) ?_))
    have t1 := Ext.trans e_1 e2
    have t2 := (hca.keep e2).keepA e3
    have t3 := (t2.keep e4).keep e5
    have t4 := Ext.trans (Ext.nr t1 e3) e4
    refine O.call call61 (args1 rfl) (cartValid_spec (slv r.2.1.1) (slv r.2.1.2) (slv r.2.2) x.2 F _ (t3).1 (t3).2.1 (t3).2.2 (fun j hj => by have q1 := hF j hj; omega) hbr.2.2.2.1 hbr.2.2.2.2 (mx.keep (Ext.trans t4 e5))) ?_
    rintro v_19 w6 ⟨rfl, e6⟩
    have z6 := e6.size
    refine O.nil ⟨(Ext.trans e5 e6), D.ty 8 rfl rfl rfl rfl (isF' rfl c16) (Ext.trans e5 e6) ⟨_, rfl⟩ (fun _ hw_ _ hN => O.not rfl (O.nil hN)) (D.tk 9 rfl rfl rfl rfl (Ext.trans e5 e6) pick_form (fun _ hw_ _ hN => O.pickF (isF' rfl c16) (O.nil hN)) (D.tk 10 rfl rfl rfl rfl (Ext.trans e5 e6) ⟨pure _, rfl⟩ (fun _ hw_ _ hN => O.mv (O.nil hN)) (D.split (x := .tmp 22) rfl (fun c22 => ?_) (fun c22 => ?_))))⟩
    ·
     refine D.tn 11 rfl rfl (Ext.trans e5 e6) rfl (noB (isT' rfl c22) rfl) (D.tn 12 rfl rfl (Ext.trans e5 e6) rfl (noB (isT' rfl c22) rfl) (D.tn 13 rfl rfl (Ext.trans e5 e6) rfl (noB (isT' rfl c22) rfl) (D.tn 14 rfl rfl (Ext.trans e5 e6) rfl (noU rfl) (D.tn 15 rfl rfl (Ext.trans e5 e6) rfl (noU rfl) (D.tn 16 rfl rfl (Ext.trans e5 e6) rfl (noU rfl) (D.tn 17 rfl rfl (Ext.trans e5 e6) rfl (noU rfl) (D.tn 18 rfl rfl (Ext.trans e5 e6) rfl (noU rfl) (D.tn 19 rfl rfl (Ext.trans e5 e6) rfl (noU rfl) (D.tn 20 rfl rfl (Ext.trans e5 e6) rfl (noU rfl) (D.tn 21 rfl rfl (Ext.trans e5 e6) rfl (noU rfl) (D.tn 22 rfl rfl (Ext.trans e5 e6) rfl (noU rfl) ?_)))))))))))
     refine D.tn 23 rfl rfl (Ext.trans e5 e6) rfl (noB (isT' rfl c22) rfl) (D.tk 24 rfl rfl rfl rfl (Ext.trans e5 e6) pick_form (fun _ hw_ _ hN => O.pickT (isT' rfl c22) (O.nil hN)) (D.dn (hK10 _ _ (C.condT rfl (C.seqK fun K12 hK12 => C.region (O.asg (O.nil (hK12 _ _ (C.ret (Outs.one rfl rfl ?_))))))))))
     first
     | exact ⟨congrArg Value.bool (Bt.ordered_no1 hk2 (by rw [← hxr]; exact Bt.okE_no1 (by rw [← hkxr]; simpa using c16))).symm, (Ext.trans (Ext.trans t4 e5) e6)⟩
     | exact ⟨congrArg Value.bool (Bt.ordered_no1 hk2 (by rw [← hxr]; exact Bt.okE_no2 (by simpa using c22))).symm, (Ext.trans (Ext.trans t4 e5) e6)⟩
    ·
     refine D.ty 11 rfl rfl rfl rfl (isF' rfl c22) (Ext.trans e5 e6) ⟨pure _, rfl⟩ (fun _ hw_ _ hN => O.mv (O.nil hN)) (D.ty 12 rfl rfl rfl rfl (isF' rfl c22) (Ext.trans e5 e6) ⟨_, rfl⟩ (fun _ hw_ _ hN => O.gtrI s7_1 rfl (O.nil hN)) (D.ty 13 rfl rfl rfl rfl (isF' rfl c22) (Ext.trans e5 e6) ⟨pure _, rfl⟩ (fun _ hw_ _ hN => O.mv (O.nil hN)) (D.splitD (x := .tmp 25) rfl (fun c25 => ?_) (fun c25 => ?_))))
     ·
      refine D.ty 14 rfl rfl rfl rfl (isT rfl c25) (Ext.trans e5 e6) ⟨pure _, rfl⟩ (fun _ hw_ _ hN => O.mv (O.nil hN)) (D.ty 15 rfl rfl rfl rfl (isT rfl c25) (Ext.trans e5 e6) ⟨pure _, rfl⟩ (fun _ hw_ _ hN => O.mv (O.nil hN)) (D.ty 16 rfl rfl rfl rfl (isT rfl c25) (Ext.trans e5 e6) ⟨_, rfl⟩ (fun _ hw_ _ hN => O.subI s7_1 rfl (by unfold InI; omega) (O.nil hN)) ?_))
      have sp3_ := Sl.at (i := (k : Int) - 1) (P := Tryz.prog) underlying22 sizeOf50 rfl (hr.keep t4) (by omega)
      obtain ⟨a29, h29, hr29⟩ := sp3_
      refine D.ty 17 rfl rfl rfl rfl (isT rfl c25) (Ext.trans e5 e6) ⟨_, rfl⟩ (fun _ hw_ _ hN => O.idxR s0_1 rfl hr29 (O.nil hN)) (D.ty 18 rfl rfl rfl rfl (isT rfl c25) (Ext.trans e5 e6) ⟨_, rfl⟩ (fun _ hw_ _ hN => O.fieldAt underlying50 rfl sizeOf9 (by decide) rfl (O.nil hN)) (D.ty 19 rfl rfl rfl rfl (isT rfl c25) (Ext.trans e5 e6) ⟨_, rfl⟩ (fun _ hw_ _ hN => O.loadAtF (G := entF) isAgg9 rfl rfl (h29.keep hw_) (O.nil hN)) (D.ty 20 rfl rfl rfl rfl (isT rfl c25) (Ext.trans e5 e6) ⟨_, rfl⟩ (fun _ hw_ _ hN => O.fieldAd underlying50 rfl sizeOf9 (by decide) rfl (O.nil hN)) ?_)))
      refine D.ty 21 rfl rfl rfl rfl (isT rfl c25) (Ext.trans e5 e6) ⟨_, rfl⟩ (fun _ hw_ _ hN => O.loadO isAgg9 rfl ((hs3.keep e4).keep hw_) rfl (O.nil hN)) (D.ty 22 rfl rfl rfl rfl (isT rfl c25) (Ext.trans e5 e6) ⟨_, rfl⟩ (fun _ hw_ _ hN => O.geqS rfl rfl (O.nil hN)) (D.ty 23 rfl rfl rfl rfl (isF' rfl c22) (Ext.trans e5 e6) pick_form (fun _ hw_ _ hN => O.pickT (isT rfl c25) (O.nil hN)) (D.tk 24 rfl rfl rfl rfl (Ext.trans e5 e6) pick_form (fun _ hw_ _ hN => O.pickF (isF' rfl c22) (O.nil hN)) (D.dn (hK10 _ _ (C.cond rfl (fun c36 => ?_) (fun c36 => ?_)))))))
      ·
       have e9 : ((k : Int) - 1).toNat = k - 1 := by omega
       simp only [e9] at c36
       rw [(he.2 (k - 1) (by omega) (by omega)).1, hkxr, hxr] at c36
       refine C.seqK fun K13 hK13 => C.region (O.asg (O.nil (hK13 _ _ (C.ret (Outs.one rfl rfl ?_)))))
       first
       | exact ⟨congrArg Value.bool (Bt.ordered_no1 hk2 (by rw [← hxr]; exact Bt.okE_no1 (by rw [← hkxr]; simpa using c16))).symm, (Ext.trans (Ext.trans t4 e5) e6)⟩
       | exact ⟨congrArg Value.bool (Bt.ordered_no1 hk2 (by rw [← hxr]; exact Bt.okE_no2 (by simpa using c22))).symm, (Ext.trans (Ext.trans t4 e5) e6)⟩
       | exact ⟨congrArg Value.bool (Bt.ordered_no2 (i := k) (j := k - 1) hk2 (by omega) (by omega) (by simpa using c36)).symm, (Ext.trans (Ext.trans t4 e5) e6)⟩
      ·
       have e9 : ((k : Int) - 1).toNat = k - 1 := by omega
       simp only [e9] at c36
       rw [(he.2 (k - 1) (by omega) (by omega)).1, hkxr, hxr] at c36
       refine C.skip (hK8 _ _ (hK7 _ _ (C.region (O.addI s7_1 rfl (by unfold InI; omega) (O.mv (O.nil (⟨k + 1, ⟨rfl, s0_1, s5_1, s6_1, (Ext.trans (Ext.trans t4 e5) e6), ?_⟩, by first | omega | (simp only []; omega)⟩)))))))
       refine ⟨by omega, fun i hi hik => ?_, fun i hi hik => ?_⟩
       ·rcases Nat.lt_or_eq_of_le (Nat.le_of_lt_succ hik) with h | rfl
        ·exact hI i hi h
        ·rw [← hxr]; exact Bt.okE_of (by rw [← hkxr]; simpa using c16) (by simpa using c22)
       ·rcases Nat.lt_or_eq_of_le (Nat.le_of_lt_succ hik) with h | rfl
        ·exact hJ i hi h
        ·first
         | (exfalso; omega)
         | simpa using c36
     ·
      refine D.tn 14 rfl rfl (Ext.trans e5 e6) rfl (noB (isF rfl c25) rfl) (D.tn 15 rfl rfl (Ext.trans e5 e6) rfl (noB (isF rfl c25) rfl) (D.tn 16 rfl rfl (Ext.trans e5 e6) rfl (noB (isF rfl c25) rfl) (D.tn 17 rfl rfl (Ext.trans e5 e6) rfl (noB (isF rfl c25) rfl) (D.tn 18 rfl rfl (Ext.trans e5 e6) rfl (noB (isF rfl c25) rfl) (D.tn 19 rfl rfl (Ext.trans e5 e6) rfl (noB (isF rfl c25) rfl) (D.tn 20 rfl rfl (Ext.trans e5 e6) rfl (noB (isF rfl c25) rfl) (D.tn 21 rfl rfl (Ext.trans e5 e6) rfl (noB (isF rfl c25) rfl) (D.tn 22 rfl rfl (Ext.trans e5 e6) rfl (noB (isF rfl c25) rfl) ?_))))))))
      refine D.ty 23 rfl rfl rfl rfl (isF' rfl c22) (Ext.trans e5 e6) pick_form (fun _ hw_ _ hN => O.pickF (isF rfl c25) (O.nil hN)) (D.tk 24 rfl rfl rfl rfl (Ext.trans e5 e6) pick_form (fun _ hw_ _ hN => O.pickF (isF' rfl c22) (O.nil hN)) (D.dn (hK10 _ _ (C.condF rfl (C.skip (hK8 _ _ (hK7 _ _ (C.region (O.addI s7_1 rfl (by unfold InI; omega) (O.mv (O.nil (⟨k + 1, ⟨rfl, s0_1, s5_1, s6_1, (Ext.trans (Ext.trans t4 e5) e6), ?_⟩, by first | omega | (simp only []; omega)⟩))))))))))))
      refine ⟨by omega, fun i hi hik => ?_, fun i hi hik => ?_⟩
      ·rcases Nat.lt_or_eq_of_le (Nat.le_of_lt_succ hik) with h | rfl
       ·exact hI i hi h
       ·rw [← hxr]; exact Bt.okE_of (by rw [← hkxr]; simpa using c16) (by simpa using c22)
      ·rcases Nat.lt_or_eq_of_le (Nat.le_of_lt_succ hik) with h | rfl
       ·exact hJ i hi h
       ·first
        | (exfalso; omega)
        | simpa using c36
  ·
   refine C.exit (hK4 _ _ (hK2 _ _ (C.seqK fun K14 hK14 => C.region (O.asg (O.nil (hK14 _ _ (C.ret (Outs.one rfl rfl ?_))))))))
   first
   | exact ⟨congrArg Value.bool (Bt.ordered_no1 hk2 (by rw [← hxr]; exact Bt.okE_no1 (by rw [← hkxr]; simpa using c16))).symm, e_1⟩
   | exact ⟨congrArg Value.bool (Bt.ordered_no1 hk2 (by rw [← hxr]; exact Bt.okE_no2 (by simpa using c22))).symm, e_1⟩
   | exact ⟨congrArg Value.bool (Bt.ordered_no2 (i := k) (j := k - 1) hk2 (by omega) (by omega) (by simpa using c36)).symm, e_1⟩
   | exact ⟨congrArg Value.bool (Bt.ordered_yes (fun i hi => hI i hi (by omega)) (fun i hi => hJ i hi (by omega))).symm, e_1⟩
theorem bvalid_spec (v0 : Value) (raw : List EntR) (l : List EntT) (F : Nat → Prop) (w : World) (hr : Sl entF.enc w F v0 raw) (he : EntL w F raw l) (hF : ∀ k, F k → k < w.heap.size) (hB : Bt.Big l) (mx : Mx w) :
 Ret Tryz.prog 18 #[v0] w (fun v w' => v = .bool (Bt.valid l) ∧ Le w w') := by
 have hl := he.1
 refine enT [v0] 10 func18 rfl rfl (C.seqK fun K1 hK1 => C.region (O.asg (O.nil (hK1 _ _ (C.seqK fun K2 hK2 => C.region (O.mv (O.len underlying22 rfl hr (O.leqI rfl rfl (O.mv (O.splitD (x := .tmp 6) rfl (fun c6 => ?_) (fun c6 => ?_)))))))))))
 ·
  refine O.yes rfl (isT rfl c6) (O.mv (O.yes rfl (isT rfl c6) (O.call call59 (args1 rfl) (ordered_spec v0 raw l F _ hr he hF hB mx) ?_)))
  rintro v_8 w1 ⟨rfl, e1⟩
  have z1 := e1.size
  refine O.pickT (isT rfl c6) (O.asg (O.nil (hK2 _ _ (C.ret (Outs.one rfl rfl ?_)))))
  (refine ⟨congrArg Value.bool ?_, e1⟩; unfold Bt.valid; rw [decide_eq_true (by omega), Bool.true_and])
 ·
  refine O.no rfl (noB (isF rfl c6) rfl) (O.no rfl (noB (isF rfl c6) rfl) (O.pickF (isF rfl c6) (O.asg (O.nil (hK2 _ _ (C.ret (Outs.one rfl rfl ?_)))))))
  first
  | (refine ⟨congrArg Value.bool ?_, (Le.refl _)⟩; unfold Bt.valid; rw [decide_eq_true (by omega), Bool.true_and])
  | (refine ⟨congrArg Value.bool ?_, (Le.refl _)⟩; unfold Bt.valid; rw [decide_eq_false (by omega), Bool.false_and])
set_option maxHeartbeats 1000000 in
theorem rises_spec (v0 : Value) (raw : List EntR) (l : List EntT) (F : Nat → Prop) (w : World) (hr : Sl entF.enc w F v0 raw) (he : EntL w F raw l) :
 Ret Tryz.prog 62 #[v0] w (fun v w' => v = .bool (Bt.rises l) ∧ Le w w') := by
 have hl := he.1
 have hrl := hr.le
 refine enT [v0] 22 func62 rfl rfl (C.seqK fun K1 hK1 => C.region (O.asg (O.nil (hK1 _ _ (C.seqK fun K2 hK2 => C.seqK fun K3 hK3 => C.region (O.asg (O.nil (hK3 _ _ (C.block fun K4 hK4 => C.loop0 (σ := Nat) (fun f0 w0 k f w => f 3 = .int .i64 ((k : Int)) ∧ f 0 = f0 0 ∧ Le w0 w ∧ (1 ≤ k ∧ k ≤ l.length + 1) ∧ (∀ i, ∀ h : i + 1 < l.length, i + 1 < k → Op.bytesLess l[i].1 l[i + 1].1 = true)) (fun k => l.length + 1 - k) 1 ?_ ?_)))))))))
 ·
  refine ⟨rfl, rfl, Le.refl _, ?_⟩
  exact ⟨by omega, fun i h k => by omega⟩
 ·
  rintro k f_1 w1 ⟨s3_1, s0_1, e_1, ⟨hk, hJ⟩⟩
  have z_1 := e_1.size
  refine C.seqK fun K5 hK5 => C.seqK fun K6 hK6 => C.region (O.mv (O.mv (O.len underlying22 s0_1 (hr.keep e_1) (O.lssI s3_1 rfl (O.nil (hK6 _ _ (C.condD rfl (fun c7 => ?_) (fun c7 => ?_))))))))
  ·
   have hk2 : k < l.length := by omega
   refine C.skip (hK5 _ _ (C.seqK fun K7 hK7 => C.block fun K8 hK8 => C.seqK fun K9 hK9 => C.draw (by kernel_rfl) fun w2 e2 => ?_))
   have z2 := e2.size
   refine D.tk 0 rfl rfl rfl rfl (Le.refl _) ⟨pure _, rfl⟩ (fun _ hw_ _ hN => O.mv (O.nil hN)) (D.tk 1 rfl rfl rfl rfl (Le.refl _) ⟨pure _, rfl⟩ (fun _ hw_ _ hN => O.mv (O.nil hN)) (D.tk 2 rfl rfl rfl rfl (Le.refl _) ⟨_, rfl⟩ (fun _ hw_ _ hN => O.subI s3_1 rfl (by unfold InI; omega) (O.nil hN)) ?_))
   have sp4_ := Sl.at (i := (k : Int) - 1) (P := Tryz.prog) underlying22 sizeOf50 rfl ((hr.keep e_1).keep e2) (by omega)
   obtain ⟨a13, h13, hr13⟩ := sp4_
   refine D.tk 3 rfl rfl rfl rfl (Le.refl _) ⟨_, rfl⟩ (fun _ hw_ _ hN => O.idxR s0_1 rfl hr13 (O.nil hN)) (D.tk 4 rfl rfl rfl rfl (Le.refl _) ⟨_, rfl⟩ (fun _ hw_ _ hN => O.fieldAt underlying50 rfl sizeOf9 (by decide) rfl (O.nil hN)) (D.tk 5 rfl rfl rfl rfl (Le.refl _) ⟨_, rfl⟩ (fun _ hw_ _ hN => O.loadAtF (G := entF) isAgg9 rfl rfl (h13.keep hw_) (O.nil hN)) (D.tk 6 rfl rfl rfl rfl (Le.refl _) ⟨pure _, rfl⟩ (fun _ hw_ _ hN => O.mv (O.nil hN)) (D.tk 7 rfl rfl rfl rfl (Le.refl _) ⟨pure _, rfl⟩ (fun _ hw_ _ hN => O.mv (O.nil hN)) ?_))))
   have sp5_ := Sl.at (i := (k : Int)) (P := Tryz.prog) underlying22 sizeOf50 rfl ((hr.keep e_1).keep e2) (by omega)
   obtain ⟨a18, h18, hr18⟩ := sp5_
   refine D.tk 8 rfl rfl rfl rfl (Le.refl _) ⟨_, rfl⟩ (fun _ hw_ _ hN => O.idxR s0_1 s3_1 hr18 (O.nil hN)) (D.tk 9 rfl rfl rfl rfl (Le.refl _) ⟨_, rfl⟩ (fun _ hw_ _ hN => O.fieldAt underlying50 rfl sizeOf9 (by decide) rfl (O.nil hN)) (D.tk 10 rfl rfl rfl rfl (Le.refl _) ⟨_, rfl⟩ (fun _ hw_ _ hN => O.loadAtF (G := entF) isAgg9 rfl rfl (h18.keep hw_) (O.nil hN)) (D.tk 11 rfl rfl rfl rfl (Le.refl _) ⟨_, rfl⟩ (fun _ hw_ _ hN => O.geqS rfl rfl (O.nil hN)) (D.dn (hK9 _ _ (C.cond rfl (fun c21 => ?_) (fun c21 => ?_)))))))
   ·
    have e9 : ((k : Int) - 1).toNat = k - 1 := by omega
    simp only [e9, Int.toNat_natCast] at c21
    rw [(he.2 (k - 1) (by omega) (by omega)).1, (he.2 k (by omega) (by omega)).1] at c21
    refine C.seqK fun K10 hK10 => C.region (O.asg (O.nil (hK10 _ _ (C.ret (Outs.one rfl rfl ?_)))))
    exact ⟨congrArg Value.bool (Bt.rises_no (i := k) (j := k - 1) hk2 (by omega) (by omega) (by simpa using c21)).symm, (Ext.trans e_1 e2)⟩
   ·
    have e9 : ((k : Int) - 1).toNat = k - 1 := by omega
    simp only [e9, Int.toNat_natCast] at c21
    rw [(he.2 (k - 1) (by omega) (by omega)).1, (he.2 k (by omega) (by omega)).1] at c21
    refine C.skip (hK8 _ _ (hK7 _ _ (C.region (O.mv (O.addI s3_1 rfl (by unfold InI; omega) (O.asg (O.nil (⟨k + 1, ⟨rfl, s0_1, (Ext.trans e_1 e2), ?_⟩, by first | omega | (simp only []; omega)⟩))))))))
    refine ⟨by omega, fun i hi hik => ?_⟩
    rcases Nat.lt_or_eq_of_le (Nat.le_of_lt_succ hik) with h | rfl
    ·exact hJ i hi h
    ·simpa using c21
  ·
   refine C.exit (hK4 _ _ (hK2 _ _ (C.seqK fun K11 hK11 => C.region (O.asg (O.nil (hK11 _ _ (C.ret (Outs.one rfl rfl ?_))))))))
   first
   | exact ⟨congrArg Value.bool (Bt.rises_no (i := k) (j := k - 1) hk2 (by omega) (by omega) (by simpa using c21)).symm, e_1⟩
   | exact ⟨congrArg Value.bool (Bt.rises_yes (fun i hi => hJ i hi (by omega))).symm, e_1⟩
set_option maxHeartbeats 2000000 in
theorem lordered_spec (v0 : Value) (raw : List EntR) (l : List EntT) (F : Nat → Prop) (w : World) (hr : Sl entF.enc w F v0 raw) (he : EntL w F raw l) (hF : ∀ k, F k → k < w.heap.size) (hB : Bt.Big l) (mx : Mx w) :
 Ret Tryz.prog 19 #[v0] w (fun v w' => v = .bool (Bt.ordered l) ∧ Le w w') := by
 have hl := he.1
 have hrl := hr.le
 refine enT [v0] 28 func19 rfl rfl (C.seqK fun K1 hK1 => C.region (O.asg (O.nil (hK1 _ _ (C.seqK fun K2 hK2 => C.seqK fun K3 hK3 => C.region (O.asg (O.nil (hK3 _ _ (C.block fun K4 hK4 => C.loop0 (σ := Nat) (fun f0 w0 k f w => f 3 = .int .i64 ((k : Int)) ∧ f 0 = f0 0 ∧ Le w0 w ∧ k ≤ l.length ∧ (∀ i, ∀ h : i < l.length, i < k → Bt.okE l[i] = true)) (fun k => l.length - k) 0 ?_ ?_)))))))))
 ·
  refine ⟨rfl, rfl, Le.refl _, ?_⟩
  exact ⟨Nat.zero_le _, fun i h k => absurd k (Nat.not_lt_zero _)⟩
 ·
  rintro k f_1 w1 ⟨s3_1, s0_1, e_1, ⟨hk, hI⟩⟩
  have z_1 := e_1.size
  refine C.seqK fun K5 hK5 => C.seqK fun K6 hK6 => C.region (O.mv (O.mv (O.len underlying22 s0_1 (hr.keep e_1) (O.lssI s3_1 rfl (O.nil (hK6 _ _ (C.condD rfl (fun c7 => ?_) (fun c7 => ?_))))))))
  ·
   have hk2 : k < l.length := by omega
   have hk9r : k < raw.length := by have q9 := ((he.keep e_1)).1; omega
   have hk8r : k < l.length := by have q9 := ((he.keep e_1)).1; omega
   have sp6_ : ∃ q : EntR, q = raw[k] := ⟨_, rfl⟩
   obtain ⟨r, hrr⟩ := sp6_
   have sp7_ : ∃ q : EntT, q = l[k] := ⟨_, rfl⟩
   obtain ⟨x, hxr⟩ := sp7_
   have t0 := ((he.keep e_1)).2 k hk9r hk8r
   have hkxr : r.1 = x.1 := by rw [hrr, hxr]; exact t0.1
   have hca : CartAt w1 F r.2 x.2 := by rw [hrr, hxr]; exact t0.2
   have hmxr : x ∈ l := by rw [hxr]; exact List.getElem_mem _
   have hbr := hB x hmxr
   refine C.skip (hK5 _ _ (C.seqK fun K7 hK7 => C.block fun K8 hK8 => C.seqK fun K9 hK9 => C.region (O.mv (O.mv (O.idx underlying22 sizeOf50 rfl s0_1 (hr.keep e_1) s3_1 (by omega) (fun a12 h12 => O.fieldAt underlying50 rfl sizeOf9 (by decide) rfl (O.loadAtF (G := entF) isAgg9 rfl rfl h12 (O.cast (v' := str r.1) (by rw [hrr]; rfl) (O.call call60 (args1 rfl) (okKey_spec r.1 _ (by rw [hkxr]; exact hbr.1)) ?_)))))))))
   rintro v_15 w2 ⟨rfl, e2⟩
   have z2 := e2.size
   refine O.not rfl (O.mv (O.split (x := .tmp 17) rfl (fun c17 => ?_) (fun c17 => ?_)))
   ·
    refine O.no rfl (noB (isT' rfl c17) rfl) (O.no rfl (noB (isT' rfl c17) rfl) (O.no rfl (noB (isT' rfl c17) rfl) (O.no rfl (noB (isT' rfl c17) rfl) (O.no rfl (noB (isT' rfl c17) rfl) (O.no rfl (noB (isT' rfl c17) rfl) (O.no rfl (noB (isT' rfl c17) rfl) (O.pickT (isT' rfl c17) (O.nil (hK9 _ _ (C.condT rfl (C.seqK fun K10 hK10 => C.region (O.asg (O.nil (hK10 _ _ (C.ret (Outs.one rfl rfl ?_))))))))))))))))
    exact ⟨congrArg Value.bool (Bt.ordered_no1 hk2 (by rw [← hxr]; exact Bt.okE_no1 (by rw [← hkxr]; simpa using c17))).symm, (Ext.trans e_1 e2)⟩
   ·
    refine O.yes rfl (isF' rfl c17) (O.mv (O.yes rfl (isF' rfl c17) (O.mv (O.yes rfl (isF' rfl c17) (O.idx underlying22 sizeOf50 rfl s0_1 ((hr.keep e_1).keep e2) s3_1 (by omega) (fun a20 h20 => O.yes rfl (isF' rfl c17) (O.fieldAt underlying50 rfl sizeOf47 (by decide) rfl (O.yes rfl (isF' rfl c17) (O.loadPart (G := entF) isAgg47 sizeOf47 (by decide) rfl h20 (O.cast (v' := .agg #[slv r.2.1.1, slv r.2.1.2, slv r.2.2]) (by rw [hrr]; rfl) (O.yes rfl (isF' rfl c17) ?_)))))))))))
    refine O.call call61 (args1 rfl) (cartValid_spec (slv r.2.1.1) (slv r.2.1.2) (slv r.2.2) x.2 F _ ((hca.keep e2)).1 ((hca.keep e2)).2.1 ((hca.keep e2)).2.2 (fun j hj => by have q1 := hF j hj; omega) hbr.2.2.2.1 hbr.2.2.2.2 ((mx.keep e_1).keep e2)) ?_
    rintro v_23 w3 ⟨rfl, e3⟩
    have z3 := e3.size
    refine O.yes rfl (isF' rfl c17) (O.not rfl (O.pickF (isF' rfl c17) (O.nil (hK9 _ _ (C.cond rfl (fun c25 => ?_) (fun c25 => ?_))))))
    ·
     refine C.seqK fun K11 hK11 => C.region (O.asg (O.nil (hK11 _ _ (C.ret (Outs.one rfl rfl ?_)))))
     first
     | exact ⟨congrArg Value.bool (Bt.ordered_no1 hk2 (by rw [← hxr]; exact Bt.okE_no1 (by rw [← hkxr]; simpa using c17))).symm, (Ext.trans (Ext.trans e_1 e2) e3)⟩
     | exact ⟨congrArg Value.bool (Bt.ordered_no1 hk2 (by rw [← hxr]; exact Bt.okE_no2 (by simpa using c25))).symm, (Ext.trans (Ext.trans e_1 e2) e3)⟩
    ·
     refine C.skip (hK8 _ _ (hK7 _ _ (C.region (O.mv (O.addI s3_1 rfl (by unfold InI; omega) (O.asg (O.nil (⟨k + 1, ⟨rfl, s0_1, (Ext.trans (Ext.trans e_1 e2) e3), ?_⟩, by first | omega | (simp only []; omega)⟩))))))))
     refine ⟨by omega, fun i hi hik => ?_⟩
     rcases Nat.lt_or_eq_of_le (Nat.le_of_lt_succ hik) with h | rfl
     ·exact hI i hi h
     ·rw [← hxr]; exact Bt.okE_of (by rw [← hkxr]; simpa using c17) (by simpa using c25)
  ·
   have hall : ∀ i, ∀ h : i < l.length, Bt.okE l[i] = true := fun i hi => hI i hi (by omega)
   refine C.exit (hK4 _ _ (hK2 _ _ (C.seqK fun K12 hK12 => C.region (O.mv (O.call call62 (args1 s0_1) (rises_spec v0 raw l F _ (hr.keep e_1) (he.keep e_1)) ?_)))))
   rintro v_27 w4 ⟨rfl, e4⟩
   have z4 := e4.size
   refine O.asg (O.nil (hK12 _ _ (C.ret (Outs.one rfl rfl ?_))))
   first
   | exact ⟨congrArg Value.bool (Bt.ordered_no1 hk2 (by rw [← hxr]; exact Bt.okE_no1 (by rw [← hkxr]; simpa using c17))).symm, (Ext.trans e_1 e4)⟩
   | exact ⟨congrArg Value.bool (Bt.ordered_no1 hk2 (by rw [← hxr]; exact Bt.okE_no2 (by simpa using c25))).symm, (Ext.trans e_1 e4)⟩
   | exact ⟨congrArg Value.bool (Bt.ordered_of hall).symm, (Ext.trans e_1 e4)⟩
set_option maxHeartbeats 1000000 in
theorem smallL_spec (v0 : Value) (raw : List EntR) (l : List EntT) (F : Nat → Prop) (most : Int) (w : World) (hr : Sl entF.enc w F v0 raw) (he : EntL w F raw l) :
 Ret Tryz.prog 15 #[v0, .int .i64 (most)] w (fun v w' => v = .bool (Bt.small l most) ∧ Le w w') := by
 have hl := he.1
 have hrl := hr.le
 refine enT [v0, .int .i64 (most)] 37 func15 rfl rfl (C.seqK fun K1 hK1 => C.region (O.asg (O.nil (hK1 _ _ (C.seqK fun K2 hK2 => C.seqK fun K3 hK3 => C.region (O.asg (O.nil (hK3 _ _ (C.block fun K4 hK4 => C.loop0 (σ := Nat) (fun f0 w0 k f w => f 5 = .int .i64 ((k : Int)) ∧ f 0 = f0 0 ∧ f 1 = f0 1 ∧ Le w0 w ∧ k ≤ l.length ∧ (∀ i, ∀ h : i < l.length, i < k → Bt.smallE l[i] = true)) (fun k => l.length - k) 0 ?_ ?_)))))))))
 ·
  refine ⟨rfl, rfl, rfl, Le.refl _, ?_⟩
  exact ⟨Nat.zero_le _, fun i h k => absurd k (Nat.not_lt_zero _)⟩
 ·
  rintro k f_1 w1 ⟨s5_1, s0_1, s1_1, e_1, ⟨hk, hI⟩⟩
  have z_1 := e_1.size
  refine C.seqK fun K5 hK5 => C.seqK fun K6 hK6 => C.region (O.mv (O.mv (O.len underlying22 s0_1 (hr.keep e_1) (O.lssI s5_1 rfl (O.mv (O.cut 4 (fun f f' => f' 14 = .bool (decide ((k : Int) < (raw.length : Int) ∧ (k : Int) < most)) ∧ f' 0 = f 0 ∧ f' 1 = f 1 ∧ f' 5 = f 5) ?_ ?_))))))
  ·
   refine O.splitD (x := .tmp 10) rfl (fun c10 => ?_) (fun c10 => ?_)
   ·
    refine O.yes rfl (isT rfl c10) (O.mv (O.yes rfl (isT rfl c10) (O.mv (O.yes rfl (isT rfl c10) (O.lssI s5_1 s1_1 (O.pickT (isT rfl c10) (O.nil (⟨⟨?_, rfl, rfl, rfl⟩, rfl⟩))))))))
    first | exact rfl | exact Eq.trans rfl (congrArg Value.bool (dAnd (by assumption))) | exact Eq.trans rfl (congrArg Value.bool (dAndF (by assumption))) | exact Eq.trans rfl (congrArg Value.bool (dOr (by assumption))) | exact Eq.trans rfl (congrArg Value.bool (dOrT (by assumption)))
   ·
    refine O.no rfl (noB (isF rfl c10) rfl) (O.no rfl (noB (isF rfl c10) rfl) (O.no rfl (noB (isF rfl c10) rfl) (O.pickF (isF rfl c10) (O.nil (⟨⟨?_, rfl, rfl, rfl⟩, rfl⟩)))))
    first | exact rfl | exact Eq.trans rfl (congrArg Value.bool (dAnd (by assumption))) | exact Eq.trans rfl (congrArg Value.bool (dAndF (by assumption))) | exact Eq.trans rfl (congrArg Value.bool (dOr (by assumption))) | exact Eq.trans rfl (congrArg Value.bool (dOrT (by assumption)))
  ·
   rintro f_2 ⟨s14_2, s0_2, s1_2, s5_2⟩
   refine O.nil (hK6 _ _ (C.condD s14_2 (fun c14 => ?_) (fun c14 => ?_)))
   ·
    have hk2 : k < l.length := by omega
    have hk9r : k < raw.length := by have q9 := ((he.keep e_1)).1; omega
    have hk8r : k < l.length := by have q9 := ((he.keep e_1)).1; omega
    have sp10_ : ∃ q : EntR, q = raw[k] := ⟨_, rfl⟩
    obtain ⟨r, hrr⟩ := sp10_
    have sp11_ : ∃ q : EntT, q = l[k] := ⟨_, rfl⟩
    obtain ⟨x, hxr⟩ := sp11_
    have t0 := ((he.keep e_1)).2 k hk9r hk8r
    have hkxr : r.1 = x.1 := by rw [hrr, hxr]; exact t0.1
    have hca : CartAt w1 F r.2 x.2 := by rw [hrr, hxr]; exact t0.2
    refine C.skip (hK5 _ _ (C.seqK fun K7 hK7 => C.block fun K8 hK8 => C.seqK fun K9 hK9 => C.region (O.mv (O.mv (O.idx underlying22 sizeOf50 rfl (Eq.trans s0_2 s0_1) (hr.keep e_1) (Eq.trans s5_2 s5_1) (by omega) (fun a19 h19 => O.fieldAt underlying50 rfl sizeOf9 (by decide) rfl (O.loadAtF (G := entF) isAgg9 rfl rfl h19 (O.cast (v' := str r.1) (by rw [hrr]; rfl) (O.lenS underlying9 rfl (O.gtrI rfl rfl (O.mv (O.splitD (x := .tmp 24) rfl (fun c24 => ?_) (fun c24 => ?_)))))))))))))
    ·
     refine O.no rfl (noB (isT rfl c24) rfl) (O.no rfl (noB (isT rfl c24) rfl) (O.no rfl (noB (isT rfl c24) rfl) (O.no rfl (noB (isT rfl c24) rfl) (O.no rfl (noB (isT rfl c24) rfl) (O.no rfl (noB (isT rfl c24) rfl) (O.no rfl (noB (isT rfl c24) rfl) (O.pickT (isT rfl c24) (O.nil (hK9 _ _ (C.condT rfl (C.seqK fun K10 hK10 => C.region (O.asg (O.nil (hK10 _ _ (C.ret (Outs.one rfl rfl ?_))))))))))))))))
     exact ⟨congrArg Value.bool (Bt.small_no hk2 (by rw [← hxr]; exact Bt.smallE_no1 (by rw [← hkxr]; omega))).symm, e_1⟩
    ·
     refine O.yes rfl (isF rfl c24) (O.mv (O.yes rfl (isF rfl c24) (O.mv (O.yes rfl (isF rfl c24) (O.idx underlying22 sizeOf50 rfl (Eq.trans s0_2 s0_1) (hr.keep e_1) (Eq.trans s5_2 s5_1) (by omega) (fun a27 h27 => O.yes rfl (isF rfl c24) (O.fieldAt underlying50 rfl sizeOf47 (by decide) rfl (O.yes rfl (isF rfl c24) (O.loadPart (G := entF) isAgg47 sizeOf47 (by decide) rfl h27 (O.cast (v' := .agg #[slv r.2.1.1, slv r.2.1.2, slv r.2.2]) (by rw [hrr]; rfl) (O.yes rfl (isF rfl c24) (O.call call38 (args1 rfl) (small_spec (slv r.2.1.1) (slv r.2.1.2) (slv r.2.2) x.2 F _ (hca).1 (hca).2.1 (hca).2.2) ?_))))))))))))
     rintro v_30 w2 ⟨rfl, e2⟩
     have z2 := e2.size
     refine O.yes rfl (isF rfl c24) (O.not rfl (O.pickF (isF rfl c24) (O.nil (hK9 _ _ (C.cond rfl (fun c32 => ?_) (fun c32 => ?_))))))
     ·
      refine C.seqK fun K11 hK11 => C.region (O.asg (O.nil (hK11 _ _ (C.ret (Outs.one rfl rfl ?_)))))
      first
      | exact ⟨congrArg Value.bool (Bt.small_no hk2 (by rw [← hxr]; exact Bt.smallE_no1 (by rw [← hkxr]; omega))).symm, (Ext.trans e_1 e2)⟩
      | exact ⟨congrArg Value.bool (Bt.small_no hk2 (by rw [← hxr]; exact Bt.smallE_no2 (by simpa using c32))).symm, (Ext.trans e_1 e2)⟩
     ·
      refine C.skip (hK8 _ _ (hK7 _ _ (C.region (O.mv (O.addI (Eq.trans s5_2 s5_1) rfl (by unfold InI; omega) (O.asg (O.nil (⟨k + 1, ⟨rfl, (Eq.trans s0_2 s0_1), (Eq.trans s1_2 s1_1), (Ext.trans e_1 e2), ?_⟩, by first | omega | (simp only []; omega)⟩))))))))
      refine ⟨by omega, fun i hi hik => ?_⟩
      rcases Nat.lt_or_eq_of_le (Nat.le_of_lt_succ hik) with h | rfl
      ·exact hI i hi h
      ·rw [← hxr]; exact Bt.smallE_of (by rw [← hkxr]; omega) (by simpa using c32)
   ·
    refine C.exit (hK4 _ _ (hK2 _ _ (C.seqK fun K12 hK12 => C.region (O.mv (O.len underlying22 (Eq.trans s0_2 s0_1) (hr.keep e_1) (O.mv (O.leqI rfl (Eq.trans s1_2 s1_1) (O.asg (O.nil (hK12 _ _ (C.ret (Outs.one rfl rfl ?_))))))))))))
    first
    | exact ⟨congrArg Value.bool (Bt.small_no hk2 (by rw [← hxr]; exact Bt.smallE_no1 (by rw [← hkxr]; omega))).symm, e_1⟩
    | exact ⟨congrArg Value.bool (Bt.small_no hk2 (by rw [← hxr]; exact Bt.smallE_no2 (by simpa using c32))).symm, e_1⟩
    | exact ⟨congrArg Value.bool (Bt.small_end (by omega) (fun h i hi => hI i hi (by omega)) trivial), e_1⟩
set_option maxHeartbeats 4000000 in
theorem sameL_spec (v0 : Value) (raw : List EntR) (l : List EntT) (F : Nat → Prop) (v1 : Value) (raw2 : List EntR) (l2 : List EntT) (F2 : Nat → Prop) (w : World) (hr : Sl entF.enc w F v0 raw) (he : EntL w F raw l) (hr2 : Sl entF.enc w F2 v1 raw2) (he2 : EntL w F2 raw2 l2) (hF : ∀ k, F k → k < w.heap.size) (hF2 : ∀ k, F2 k → k < w.heap.size) :
 Ret Tryz.prog 21 #[v0, v1] w (fun v w' => v = .bool (decide (l = l2)) ∧ Le w w') := by
 have hl := he.1
 have hl2 := he2.1
 have hrl := hr.le
 have hrl2 := hr2.le
 refine enT [v0, v1] 42 func21 rfl rfl (C.seqK fun K1 hK1 => C.region (O.asg (O.nil (hK1 _ _ (C.seqK fun K2 hK2 => C.seqK fun K3 hK3 => C.region (O.mv (O.len underlying22 rfl hr (O.mv (O.len underlying22 rfl hr2 (O.neqI rfl rfl (O.nil (hK3 _ _ (C.condD rfl (fun c10 => ?_) (fun c10 => ?_))))))))))))))
 ·
  refine C.seqK fun K4 hK4 => C.region (O.asg (O.nil (hK4 _ _ (C.ret (Outs.one rfl rfl ?_)))))
  exact ⟨congrArg Value.bool (decide_eq_false (fun h => absurd (congrArg Nat.cast (hl.trans ((congrArg List.length h).trans hl2.symm)) : (raw.length : Int) = (raw2.length : Int)) c10)).symm, (Le.refl _)⟩
 ·
  refine C.skip (hK2 _ _ (C.seqK fun K5 hK5 => C.seqK fun K6 hK6 => C.region (O.asg (O.nil (hK6 _ _ (C.block fun K7 hK7 => C.loop0 (σ := Nat) (fun f0 w0 k f w => f 5 = .int .i64 ((k : Int)) ∧ f 0 = f0 0 ∧ f 1 = f0 1 ∧ Le w0 w ∧ k ≤ l.length ∧ (∀ i, ∀ h : i < l.length, ∀ h2 : i < l2.length, i < k → l[i] = l2[i])) (fun k => l.length - k) 0 ?_ ?_))))))
  ·
   refine ⟨rfl, rfl, rfl, Le.refl _, ?_⟩
   exact ⟨Nat.zero_le _, fun i h h2 k => absurd k (Nat.not_lt_zero _)⟩
  ·
   rintro k f_1 w1 ⟨s5_1, s0_1, s1_1, e_1, ⟨hk, hI⟩⟩
   have z_1 := e_1.size
   refine C.seqK fun K8 hK8 => C.seqK fun K9 hK9 => C.region (O.mv (O.mv (O.len underlying22 s0_1 (hr.keep e_1) (O.lssI s5_1 rfl (O.nil (hK9 _ _ (C.condD rfl (fun c14 => ?_) (fun c14 => ?_))))))))
   ·
    have hk2 : k < l.length := by omega
    have hk3 : k < l2.length := by omega
    have hk9r : k < raw.length := by have q9 := ((he.keep e_1)).1; omega
    have hk8r : k < l.length := by have q9 := ((he.keep e_1)).1; omega
    have sp12_ : ∃ q : EntR, q = raw[k] := ⟨_, rfl⟩
    obtain ⟨r, hrr⟩ := sp12_
    have sp13_ : ∃ q : EntT, q = l[k] := ⟨_, rfl⟩
    obtain ⟨x, hxr⟩ := sp13_
    have t0 := ((he.keep e_1)).2 k hk9r hk8r
    have hkxr : r.1 = x.1 := by rw [hrr, hxr]; exact t0.1
    have hca : CartAt w1 F r.2 x.2 := by rw [hrr, hxr]; exact t0.2
    have hk9s : k < raw2.length := by have q9 := ((he2.keep e_1)).1; omega
    have hk8s : k < l2.length := by have q9 := ((he2.keep e_1)).1; omega
    have sp14_ : ∃ q : EntR, q = raw2[k] := ⟨_, rfl⟩
    obtain ⟨s, hrs⟩ := sp14_
    have sp15_ : ∃ q : EntT, q = l2[k] := ⟨_, rfl⟩
    obtain ⟨y, hxs⟩ := sp15_
    have t1 := ((he2.keep e_1)).2 k hk9s hk8s
    have hkxs : s.1 = y.1 := by rw [hrs, hxs]; exact t1.1
    have hcb : CartAt w1 F2 s.2 y.2 := by rw [hrs, hxs]; exact t1.2
    refine C.skip (hK8 _ _ (C.seqK fun K10 hK10 => C.block fun K11 hK11 => C.seqK fun K12 hK12 => C.draw (by kernel_rfl) fun w2 e2 => ?_))
    have z2 := e2.size
    refine D.tk 0 rfl rfl rfl rfl (Le.refl _) ⟨pure _, rfl⟩ (fun _ hw_ _ hN => O.mv (O.nil hN)) (D.tk 1 rfl rfl rfl rfl (Le.refl _) ⟨pure _, rfl⟩ (fun _ hw_ _ hN => O.mv (O.nil hN)) ?_)
    have sp16_ := Sl.at (i := (k : Int)) (P := Tryz.prog) underlying22 sizeOf50 rfl ((hr.keep e_1).keep e2) (by omega)
    obtain ⟨a19, h19, hr19⟩ := sp16_
    refine D.tk 2 rfl rfl rfl rfl (Le.refl _) ⟨_, rfl⟩ (fun _ hw_ _ hN => O.idxR s0_1 s5_1 hr19 (O.nil hN)) (D.tk 3 rfl rfl rfl rfl (Le.refl _) ⟨_, rfl⟩ (fun _ hw_ _ hN => O.fieldAt underlying50 rfl sizeOf9 (by decide) rfl (O.nil hN)) (D.tk 4 rfl rfl rfl rfl (Le.refl _) ⟨_, rfl⟩ (fun _ hw_ _ hN => O.loadAtF (G := entF) isAgg9 rfl rfl (h19.keep hw_) (O.nil hN)) (D.cast (v' := str r.1) (by rw [hrr]; rfl) (D.tk 5 rfl rfl rfl rfl (Le.refl _) ⟨pure _, rfl⟩ (fun _ hw_ _ hN => O.mv (O.nil hN)) (D.tk 6 rfl rfl rfl rfl (Le.refl _) ⟨pure _, rfl⟩ (fun _ hw_ _ hN => O.mv (O.nil hN)) ?_)))))
    have sp17_ := Sl.at (i := (k : Int)) (P := Tryz.prog) underlying22 sizeOf50 rfl ((hr2.keep e_1).keep e2) (by omega)
    obtain ⟨a24, h24, hr24⟩ := sp17_
    refine D.tk 7 rfl rfl rfl rfl (Le.refl _) ⟨_, rfl⟩ (fun _ hw_ _ hN => O.idxR s1_1 s5_1 hr24 (O.nil hN)) (D.tk 8 rfl rfl rfl rfl (Le.refl _) ⟨_, rfl⟩ (fun _ hw_ _ hN => O.fieldAt underlying50 rfl sizeOf9 (by decide) rfl (O.nil hN)) (D.tk 9 rfl rfl rfl rfl (Le.refl _) ⟨_, rfl⟩ (fun _ hw_ _ hN => O.loadAtF (G := entF) isAgg9 rfl rfl (h24.keep hw_) (O.nil hN)) (D.cast (v' := str s.1) (by rw [hrs]; rfl) (D.tk 10 rfl rfl rfl rfl (Le.refl _) ⟨_, rfl⟩ (fun _ hw_ _ hN => O.neqS rfl rfl (O.nil hN)) (D.tk 11 rfl rfl rfl rfl (Le.refl _) ⟨pure _, rfl⟩ (fun _ hw_ _ hN => O.mv (O.nil hN)) (D.splitD (x := .tmp 28) rfl (fun c28 => ?_) (fun c28 => ?_)))))))
    ·
     refine D.tn 12 rfl rfl (Le.refl _) rfl (noB (isT rfl c28) rfl) (D.tn 13 rfl rfl (Le.refl _) rfl (noB (isT rfl c28) rfl) (D.tn 14 rfl rfl (Le.refl _) rfl (noB (isT rfl c28) rfl) (D.tn 15 rfl rfl (Le.refl _) rfl (noB (isT rfl c28) rfl) (D.tn 16 rfl rfl (Le.refl _) rfl (noB (isT rfl c28) rfl) (D.tn 17 rfl rfl (Le.refl _) rfl (noB (isT rfl c28) rfl) (D.tn 18 rfl rfl (Le.refl _) rfl (noB (isT rfl c28) rfl) (D.tn 19 rfl rfl (Le.refl _) rfl (noB (isT rfl c28) rfl) (D.tn 20 rfl rfl (Le.refl _) rfl (noB (isT rfl c28) rfl) (D.tn 21 rfl rfl (Le.refl _) rfl (noB (isT rfl c28) rfl) (D.tn 22 rfl rfl (Le.refl _) rfl (noB (isT rfl c28) rfl) ?_))))))))))
     refine D.tn 23 rfl rfl (Le.refl _) rfl (noB (isT rfl c28) rfl) (D.tk 24 rfl rfl rfl rfl (Le.refl _) pick_form (fun _ hw_ _ hN => O.pickT (isT rfl c28) (O.nil hN)) (D.dn (hK12 _ _ (C.condT rfl (C.seqK fun K13 hK13 => C.region (O.asg (O.nil (hK13 _ _ (C.ret (Outs.one rfl rfl ?_))))))))))
     first
     | exact ⟨congrArg Value.bool (decide_eq_false (fun h => absurd (congrArg Nat.cast (hl.trans ((congrArg List.length h).trans hl2.symm)) : (raw.length : Int) = (raw2.length : Int)) c10)).symm, (Ext.trans e_1 e2)⟩
     | exact ⟨congrArg Value.bool (decide_eq_false (fun h => absurd (hkxr.trans ((show x.1 = y.1 by rw [hxr, hxs]; simp only [h]).trans hkxs.symm)) c28)).symm, (Ext.trans e_1 e2)⟩
    ·
     refine D.ty 12 rfl rfl rfl rfl (isF rfl c28) (Le.refl _) ⟨pure _, rfl⟩ (fun _ hw_ _ hN => O.mv (O.nil hN)) (D.ty 13 rfl rfl rfl rfl (isF rfl c28) (Le.refl _) ⟨pure _, rfl⟩ (fun _ hw_ _ hN => O.mv (O.nil hN)) ?_)
     have sp18_ := Sl.at (i := (k : Int)) (P := Tryz.prog) underlying22 sizeOf50 rfl ((hr.keep e_1).keep e2) (by omega)
     obtain ⟨a31, h31, hr31⟩ := sp18_
     refine D.ty 14 rfl rfl rfl rfl (isF rfl c28) (Le.refl _) ⟨_, rfl⟩ (fun _ hw_ _ hN => O.idxR s0_1 s5_1 hr31 (O.nil hN)) (D.ty 15 rfl rfl rfl rfl (isF rfl c28) (Le.refl _) ⟨_, rfl⟩ (fun _ hw_ _ hN => O.fieldAt underlying50 rfl sizeOf47 (by decide) rfl (O.nil hN)) (D.ty 16 rfl rfl rfl rfl (isF rfl c28) (Le.refl _) ⟨_, rfl⟩ (fun _ hw_ _ hN => O.loadPart (G := entF) isAgg47 sizeOf47 (by decide) rfl (h31.keep hw_) (O.nil hN)) (D.cast (v' := .agg #[slv r.2.1.1, slv r.2.1.2, slv r.2.2]) (by rw [hrr]; rfl) (D.ty 17 rfl rfl rfl rfl (isF rfl c28) (Le.refl _) ⟨pure _, rfl⟩ (fun _ hw_ _ hN => O.mv (O.nil hN)) ?_))))
     refine D.ty 18 rfl rfl rfl rfl (isF rfl c28) (Le.refl _) ⟨pure _, rfl⟩ (fun _ hw_ _ hN => O.mv (O.nil hN)) ?_
     have sp19_ := Sl.at (i := (k : Int)) (P := Tryz.prog) underlying22 sizeOf50 rfl ((hr2.keep e_1).keep e2) (by omega)
     obtain ⟨a36, h36, hr36⟩ := sp19_
     refine D.ty 19 rfl rfl rfl rfl (isF rfl c28) (Le.refl _) ⟨_, rfl⟩ (fun _ hw_ _ hN => O.idxR s1_1 s5_1 hr36 (O.nil hN)) (D.ty 20 rfl rfl rfl rfl (isF rfl c28) (Le.refl _) ⟨_, rfl⟩ (fun _ hw_ _ hN => O.fieldAt underlying50 rfl sizeOf47 (by decide) rfl (O.nil hN)) (D.ty 21 rfl rfl rfl rfl (isF rfl c28) (Le.refl _) ⟨_, rfl⟩ (fun _ hw_ _ hN => O.loadPart (G := entF) isAgg47 sizeOf47 (by decide) rfl (h36.keep hw_) (O.nil hN)) (D.cast (v' := .agg #[slv s.2.1.1, slv s.2.1.2, slv s.2.2]) (by rw [hrs]; rfl) (D.oneYes (i := 22) rfl rfl (isF rfl c28) (by kernel_rfl) ?_))))
     refine O.call call55 (args2 rfl rfl) (same_spec (slv r.2.1.1) (slv r.2.1.2) (slv r.2.2) x.2 F (slv s.2.1.1) (slv s.2.1.2) (slv s.2.2) y.2 F2 _ ((hca.keep e2)).1 ((hca.keep e2)).2.1 ((hca.keep e2)).2.2 ((hcb.keep e2)).1 ((hcb.keep e2)).2.1 ((hcb.keep e2)).2.2 (fun j hj => by have q1 := hF j hj; omega) (fun j hj => by have q1 := hF2 j hj; omega)) ?_
     rintro v_39 w3 ⟨rfl, e3⟩
     have z3 := e3.size
     refine O.nil ⟨e3, D.ty 23 rfl rfl rfl rfl (isF rfl c28) e3 ⟨_, rfl⟩ (fun _ hw_ _ hN => O.not rfl (O.nil hN)) (D.tk 24 rfl rfl rfl rfl e3 pick_form (fun _ hw_ _ hN => O.pickF (isF rfl c28) (O.nil hN)) (D.dn (hK12 _ _ (C.cond rfl (fun c41 => ?_) (fun c41 => ?_)))))⟩
     ·
      refine C.seqK fun K14 hK14 => C.region (O.asg (O.nil (hK14 _ _ (C.ret (Outs.one rfl rfl ?_)))))
      first
      | exact ⟨congrArg Value.bool (decide_eq_false (fun h => absurd (congrArg Nat.cast (hl.trans ((congrArg List.length h).trans hl2.symm)) : (raw.length : Int) = (raw2.length : Int)) c10)).symm, (Ext.trans (Ext.trans e_1 e2) e3)⟩
      | exact ⟨congrArg Value.bool (decide_eq_false (fun h => absurd (hkxr.trans ((show x.1 = y.1 by rw [hxr, hxs]; simp only [h]).trans hkxs.symm)) c28)).symm, (Ext.trans (Ext.trans e_1 e2) e3)⟩
      | exact ⟨congrArg Value.bool (decide_eq_false (fun h => absurd (show x.2 = y.2 by rw [hxr, hxs]; simp only [h]) (by simpa using c41))).symm, (Ext.trans (Ext.trans e_1 e2) e3)⟩
     ·
      refine C.skip (hK11 _ _ (hK10 _ _ (C.region (O.mv (O.addI s5_1 rfl (by unfold InI; omega) (O.asg (O.nil (⟨k + 1, ⟨rfl, s0_1, s1_1, (Ext.trans (Ext.trans e_1 e2) e3), ?_⟩, by first | omega | (simp only []; omega)⟩))))))))
      refine ⟨by omega, fun i hi hi2 hik => ?_⟩
      rcases Nat.lt_or_eq_of_le (Nat.le_of_lt_succ hik) with h | rfl
      ·exact hI i hi hi2 h
      ·rw [← hxr, ← hxs]; exact Prod.ext (by rw [← hkxr, ← hkxs]; simpa using c28) (by simpa using c41)
   ·
    refine C.exit (hK7 _ _ (hK5 _ _ (C.seqK fun K15 hK15 => C.region (O.asg (O.nil (hK15 _ _ (C.ret (Outs.one rfl rfl ?_))))))))
    first
    | exact ⟨congrArg Value.bool (decide_eq_false (fun h => absurd (congrArg Nat.cast (hl.trans ((congrArg List.length h).trans hl2.symm)) : (raw.length : Int) = (raw2.length : Int)) c10)).symm, e_1⟩
    | exact ⟨congrArg Value.bool (decide_eq_false (fun h => absurd (hkxr.trans ((show x.1 = y.1 by rw [hxr, hxs]; simp only [h]).trans hkxs.symm)) c28)).symm, e_1⟩
    | exact ⟨congrArg Value.bool (decide_eq_false (fun h => absurd (show x.2 = y.2 by rw [hxr, hxs]; simp only [h]) (by simpa using c41))).symm, e_1⟩
    | exact ⟨congrArg Value.bool (decide_eq_true (List.ext_getElem (by omega) (fun i h1 h2 => hI i h1 h2 (by omega)))).symm, e_1⟩
end Go.Proofs.YtpbcafkcfobngaaGreatDoor
end
section
namespace Go.Proofs.YtpbcafkcfobngaaGreatDoor
open Go.Pn Go.RowKit Go.Proofs _root_.Go.Proofs.Tryz
attribute [local irreducible] O C D
theorem wlen_spec (bw g : Nat) (xs : List UInt8) (w : World) (hw : Wr 129 5 w bw g (xs)) (hx : xs.length ≤ 139000000000000) :
 Ret Tryz.prog 84 #[.pointer (some ⟨bw, 0, none⟩)] w (fun v w' => v = .int .i64 (xs.length : Int) ∧ Le w w') := by
 refine enT [.pointer (some ⟨bw, 0, none⟩)] 6 func84 rfl rfl (C.seqK fun K1 hK1 => C.region (O.asg (O.nil (hK1 _ _ (C.seqK fun K2 hK2 => C.region (O.mv (O.call call83 (args1 rfl) (wbytes_spec bw g xs _ hw hx) ?_)))))))
 rintro v_4 w1 ⟨e1, h4⟩
 have z1 := e1.size
 have h4s := h4.sl
 refine O.len underlying30 rfl h4s (O.asg (O.nil (hK2 _ _ (C.ret (Outs.one rfl rfl ?_)))))
 exact ⟨rfl, e1⟩
set_option maxHeartbeats 4000000 in
theorem bencode_spec (v0 : Value) (raw : List EntR) (l : List EntT) (F : Nat → Prop) (w : World) (hr : Sl entF.enc w F v0 raw) (he : EntL w F raw l) (hF : ∀ k, F k → k < w.heap.size) (hB : Bt.Big l) (mx : Mx w) (hlen : Bt.valid l = true → (Bt.enc l).length ≤ 9000000) :
 Ret Tryz.prog 36 #[v0] w (fun v w' => ∃ r : Value, v = .tuple #[r, .int .i64 (if Bt.valid l then 0 else 2)] ∧ OwnF byteF 5 w.heap.size w' r (if Bt.valid l then Bt.enc l else []) ∧ Le w w') := by
 obtain ⟨ie5, ti5, ts5, tb5, tz5⟩ := inf5
 have hl := he.1
 have hrl := hr.le
 refine enT [v0] 53 func36 rfl rfl (C.seqK fun K1 hK1 => C.region (O.asg (O.asg (O.nil (hK1 _ _ (C.seqK fun K2 hK2 => C.seqK fun K3 hK3 => C.region (O.mv (O.call call18 (args1 rfl) (bvalid_spec v0 raw l F _ hr he hF hB mx) ?_))))))))
 rintro v_11 w1 ⟨rfl, e1⟩
 have z1 := e1.size
 refine O.not rfl (O.nil (hK3 _ _ (C.cond rfl (fun c12 => ?_) (fun c12 => ?_))))
 ·
  have hv : ¬ Bt.valid l = true := by simpa using c12
  refine C.seqK fun K4 hK4 => C.region (O.asg (O.asg (O.nil (hK4 _ _ (C.ret (Outs.two rfl rfl rfl ?_))))))
  exact ⟨_, by rw [if_neg hv]; rfl, by rw [if_neg hv]; exact OwnF.nil _ _ _ _, e1⟩
 ·
  have hv : Bt.valid l = true := by simpa using c12
  have hlen := hlen hv
  have hel := Bt.enc_len l
  have hbl := Bt.body_len l
  have hvl := Bt.valid_len hv
  refine C.skip (hK2 _ _ (C.seqK fun K5 hK5 => C.region (O.alloc zeroValue129 (fun b4 w2 hb4 hz4 e2 => ?_))))
  have z2 := e2.size
  have h4 := hz4.own
  have hl4 := h4.lt
  have hwr4 : Wr 129 5 w2 b4 b4 ([]) := Wr.new h4
  refine O.nil (hK5 _ _ (C.seqK fun K6 hK6 => C.region (O.mv (O.len underlying22 rfl ((hr.keep e1).keep e2) (O.convIU (m' := 64) underlying3 underlying110 rfl rfl rfl (O.call call79 (args2 rfl rfl) (wnum_spec b4 b4 [] (BitVec.ofInt 64 (raw.length : Int)) _ hwr4 (by simp)) ?_))))))
  rintro v_16 w3 ⟨rfl, gv16, hv16, hgv16, hlv16, e3⟩
  have z3 := e3.size
  rw [Cn.u_def, Cn.u_nat (by omega), hl] at hv16
  refine O.nil (hK6 _ _ (C.seqK fun K7 hK7 => C.seqK fun K8 hK8 => C.region (O.mv ?_)))
  have t0 := Ext.new (Ext.trans e1 e2) e3 (by intro i hi h; (try dsimp only at h); omega)
  refine O.len underlying22 rfl (hr.keep t0) (O.mv (O.nil (hK8 _ _ (C.block fun K9 hK9 => C.loop0 (σ := Nat × Nat) (fun f0 w0 ⟨k, gl⟩ f wz => f 19 = .int .i64 ((k : Int)) ∧ f 2 = f0 2 ∧ f 3 = f0 3 ∧ f 4 = f0 4 ∧ f 17 = f0 17 ∧ f 18 = f0 18 ∧ Le w wz ∧ Wr 129 5 wz b4 gl (Cn.num l.length ++ (l.take k).flatMap Bt.entB) ∧ k ≤ l.length ∧ w.heap.size ≤ gl ∧ b4 < wz.heap.size ∧ gl < wz.heap.size) (fun ⟨k, gl⟩ => l.length - k) (0, gv16) ?_ ?_))))
  ·
   refine ⟨rfl, rfl, rfl, rfl, rfl, rfl, t0, (hv16.lst (by simp)), ?_⟩
   exact ⟨Nat.zero_le _, by omega, by omega, by omega⟩
  ·
   rintro ⟨k, gl⟩ f_1 w4 ⟨s19_1, s2_1, s3_1, s4_1, s17_1, s18_1, e_1, r0_1, ⟨hk, hgl, hb4z, hgl2⟩⟩
   have z_1 := e_1.size
   have htl := Bt.take_len l k
   refine C.seqK fun K10 hK10 => C.region (O.lssI s19_1 s18_1 (O.nil (hK10 _ _ (C.seqK fun K11 hK11 => C.condD rfl (fun c20 => ?_) (fun c20 => ?_)))))
   ·
    have hk2 : k < l.length := by omega
    refine C.skip (hK11 _ _ (C.seqK fun K12 hK12 => C.block fun K13 hK13 => C.seqK fun K14 hK14 => C.region (O.idx underlying22 sizeOf50 rfl s17_1 (hr.keep e_1) s19_1 (by omega) (fun a21 h21 => O.loadG (G := entF) isAgg50 sizeOf50 rfl h21 ?_))))
    have hk9r : k < raw.length := by have q9 := ((he.keep e_1)).1; omega
    have hk8r : k < l.length := by have q9 := ((he.keep e_1)).1; omega
    have sp1_ : ∃ q : EntR, q = raw[k] := ⟨_, rfl⟩
    obtain ⟨r, hrr⟩ := sp1_
    have sp2_ : ∃ q : EntT, q = l[k] := ⟨_, rfl⟩
    obtain ⟨x, hxr⟩ := sp2_
    have t1 := ((he.keep e_1)).2 k hk9r hk8r
    have hkxr : r.1 = x.1 := by rw [hrr, hxr]; exact t1.1
    have hca : CartAt w4 F r.2 x.2 := by rw [hrr, hxr]; exact t1.2
    have hmxr : x ∈ l := by rw [hxr]; exact List.getElem_mem _
    have hbr := hB x hmxr
    refine O.cast (v' := .agg #[str r.1, slv r.2.1.1, slv r.2.1.2, slv r.2.2]) (by rw [hrr]; rfl) ?_
    have hml := Bt.mem_len hmxr
    have hel2 := Bt.entB_len x
    have hsb : (Cn.strB r.1).length ≤ (Bt.entB x).length := by rw [hkxr]; unfold Bt.entB; rw [List.length_append]; omega
    refine O.alloc zeroValue50 (fun b6 w5 hb6 hz6 e5 => ?_)
    have z5 := e5.size
    have h6 := hz6.own
    have hl6 := h6.lt
    refine O.storeA (vs := [str r.1, slv r.2.1.1, slv r.2.1.2, slv r.2.2]) sizeOf50 rfl rfl rfl (by intro u hu; simp only [List.mem_cons, List.not_mem_nil, or_false] at hu; rcases hu with rfl | rfl | rfl | rfl <;> rfl) h6 (leB rfl) (fun w6 hs6 e6 z6 => O.nil (hK14 _ _ (C.seqK fun K15 hK15 => C.region (O.fieldAd underlying50 rfl sizeOf9 (by decide) rfl (O.loadO isAgg9 rfl hs6 rfl (O.call call80 (args2 s4_1 rfl) (wstr_spec b4 gl _ r.1 _ ((r0_1.keep e5).keepA e6) (by simp only [List.length_append]; omega) (by rw [hkxr]; exact hbr.1)) ?_))))))
    rintro v_25 w7 ⟨rfl, gv25, hv25, hgv25, hlv25, e7⟩
    have z7 := e7.size
    refine O.nil (hK15 _ _ (C.seqK fun K16 hK16 => C.region (O.fieldAd underlying50 rfl sizeOf47 (by decide) rfl (O.loadOA isAgg47 sizeOf47 rfl (hs6.keepM e7 (by intro h; (try dsimp only at h); omega)) (leB rfl) ?_))))
    have t2 := (hca.keep e5).keepA e6
    have t3 := Ext.new (Ext.nr (Ext.trans e_1 e5) e6) e7 (by intro i hi h; (try dsimp only at h); omega)
    refine O.call call81 (args1 rfl) (encode_spec (slv r.2.1.1) (slv r.2.1.2) (slv r.2.2) x.2 F _ ((t2.keepA e7)).1 ((t2.keepA e7)).2.1 ((t2.keepA e7)).2.2 (fun j hj => by have q1 := hF j hj; omega) hbr.2.2.2.1 hbr.2.2.2.2 hbr.2.1 hbr.2.2.1 (mx.keep t3)) ?_
    rintro v_29 w8 ⟨rv29, rfl, hv29, e8⟩
    have z8 := e8.size
    have hvx := Bt.valid_cart hv hmxr
    rw [if_pos hvx] at hv29
    have h29s := hv29.sl
    refine O.mv (O.extract rfl rfl (O.extract rfl rfl (O.asg (O.asg (O.nil (hK16 _ _ (C.region (O.mv (O.call call82 (args2 s4_1 rfl) (wput_spec b4 gv25 _ rv29 (Cn.bytes x.2) _ _ (hv25.keep e8) (by simp only [List.length_append]; omega) h29s (by omega)) ?_)))))))))
    rintro v_33 w9 ⟨rfl, gv33, hv33, hgv33, hlv33, e9⟩
    have z9 := e9.size
    refine O.nil (hK13 _ _ (hK12 _ _ (C.region (O.addI s19_1 rfl (by unfold InI; omega) (O.mv (O.nil (⟨(k + 1, gv33), ⟨rfl, s2_1, s3_1, s4_1, s17_1, s18_1, (Ext.new (Ext.trans t3 e8) e9 (by intro i hi h; (try dsimp only at h); omega)), (hv33.lst (by rw [Cn.flatMap_take _ hk2, ← hxr, hkxr]; unfold Bt.entB; simp only [List.append_assoc])), ?_⟩, by first | omega | (simp only []; omega)⟩)))))))
    exact ⟨by omega, by omega, by omega, by omega⟩
   ·
    have hk3 : k = l.length := by omega
    have hwb : Wr 129 5 w4 b4 gl (Bt.body l) := (r0_1).lst (by rw [hk3, List.take_length]; rfl)
    refine C.exit (hK9 _ _ (hK7 _ _ (C.seqK fun K17 hK17 => C.region (O.call call83 (args1 s4_1) (wbytes_spec b4 gl _ _ hwb (by omega)) ?_))))
    rintro v_35 w10 ⟨e10, h35⟩
    have z10 := e10.size
    have h35s := h35.sl
    refine O.call call25 (args1 rfl) (csum_spec _ _ _ _ h35s) ?_
    rintro v_36 w11 ⟨rfl, e11⟩
    have z11 := e11.size
    refine O.asg (O.nil (hK17 _ _ (C.seqK fun K18 hK18 => C.region (O.mv (O.shrU (m := 32) (c := 24) rfl rfl rfl rfl (O.convUU (m := 32) (m' := 8) underlying34 underlying5 rfl rfl rfl (O.mv (O.shrU (m := 32) (c := 16) rfl rfl rfl rfl (O.convUU (m := 32) (m' := 8) underlying34 underlying5 rfl rfl rfl (O.mv (O.shrU (m := 32) (c := 8) rfl rfl rfl rfl (O.convUU (m := 32) (m' := 8) underlying34 underlying5 rfl rfl rfl (O.mv (O.convUU (m := 32) (m' := 8) underlying34 underlying5 rfl rfl rfl ?_))))))))))))))
    refine O.litn [.int .u8 ((((Bt.sumOf (Bt.body l)) >>> 24).setWidth 8).toNat : Int), .int .u8 ((((Bt.sumOf (Bt.body l)) >>> 16).setWidth 8).toNat : Int), .int .u8 ((((Bt.sumOf (Bt.body l)) >>> 8).setWidth 8).toNat : Int), .int .u8 ((((Bt.sumOf (Bt.body l))).setWidth 8).toNat : Int)] underlying30 ti5 ts5 tz5 rfl (by decide) (by decide) rfl (by simp [Value.oneCell']) (fun b48 w12 hb48 hz48 e12 => ?_)
    have z12 := e12.size
    have h48 := hz48.own
    have hl48 := h48.lt
    have hq48 : Sl byteE w12 (fun k => k = b48) (.slice (some ⟨b48, 0, none⟩) 4 4) (Bt.sum4 (Bt.sumOf (Bt.body l))) := Sl.litG (G := byteF) (n := 4) h48 rfl (by unfold maxLen; omega)
    refine O.call call82 (args2 s4_1 rfl) (wput_spec b4 gl _ _ (Bt.sum4 (Bt.sumOf (Bt.body l))) _ _ (((hwb.keep e10).keep e11).keep e12) (by omega) hq48 (by rw [Bt.sum4_len]; decide)) ?_
    rintro v_49 w13 ⟨rfl, gv49, hv49, hgv49, hlv49, e13⟩
    have z13 := e13.size
    have hwe : Wr 129 5 w13 b4 gv49 (Bt.enc l) := hv49
    refine O.nil (hK18 _ _ (C.seqK fun K19 hK19 => C.seqK fun K20 hK20 => C.region (O.call call84 (args1 s4_1) (wlen_spec b4 gv49 (Bt.enc l) _ hwe (by omega)) ?_)))
    rintro v_50 w14 ⟨rfl, e14⟩
    have z14 := e14.size
    refine O.gtrI rfl rfl (O.cast (v' := .bool false) (congrArg Value.bool (by exact decide_eq_false (by omega))) (O.nil (hK20 _ _ (C.condF rfl (C.skip (hK19 _ _ (C.seqK fun K21 hK21 => C.region (O.call call83 (args1 s4_1) (wbytes_spec b4 gv49 (Bt.enc l) _ (hwe.keep e14) (by omega)) ?_))))))))
    rintro v_52 w15 ⟨e15, h52⟩
    have z15 := e15.size
    have h52s := h52.sl
    refine O.asg (O.asg (O.nil (hK21 _ _ (C.ret (Outs.two rfl rfl rfl ?_)))))
    first
    | exact ⟨_, by rw [if_neg hv]; rfl, by rw [if_neg hv]; exact OwnF.nil _ _ _ _, (Ext.trans (Ext.trans (Ext.new (Ext.trans (Ext.trans (Ext.trans e_1 e10) e11) e12) e13 (by intro i hi h; (try dsimp only at h); omega)) e14) e15)⟩
    | exact ⟨_, by rw [if_pos hv]; rfl, by rw [if_pos hv]; exact (h52).low (by omega), (Ext.trans (Ext.trans (Ext.new (Ext.trans (Ext.trans (Ext.trans e_1 e10) e11) e12) e13 (by intro i hi h; (try dsimp only at h); omega)) e14) e15)⟩
end Go.Proofs.YtpbcafkcfobngaaGreatDoor
end
section
namespace Go.Proofs.YtpbcafkcfobngaaGreatDoor
open Go.Pn Go.RowKit Go.Proofs _root_.Go.Proofs.Tryz
attribute [local irreducible] O C D
theorem rest_spec (b : Nat) (vr : Value) (l : List UInt8) (k : Nat) (F : Nat → Prop) (w : World) (ho : Own w b 234 [.bool true, vr, .int .i64 ((k : Int))]) (hl : Sl byteE w F vr l) (hk : k ≤ l.length) (hF : ∀ j, F j → j ≠ b ∧ j < w.heap.size) :
 Ret Tryz.prog 196 #[.pointer (some ⟨b, 0, none⟩)] w (fun v w' => Le w w' ∧ Sl byteE w' F v (l.drop k)) := by
 have _hF9 := hF
 have _hk9 := hk
 have hbl := ho.lt
 have hll := hl.le
 refine enT [.pointer (some ⟨b, 0, none⟩)] 12 func196 rfl rfl (C.seqK fun K1 hK1 => C.region (O.asg (O.nil (hK1 _ _ (C.seqK fun K2 hK2 => C.draw (by kernel_rfl) fun w1 e1 => ?_)))))
 have z1 := e1.size
 refine D.tk 0 rfl rfl rfl rfl (Le.refl _) ⟨pure _, rfl⟩ (fun _ hw_ _ hN => O.mv (O.nil hN)) (D.tk 1 rfl rfl rfl rfl (Le.refl _) (nil_form rfl) (fun _ hw_ _ hN => O.nilChk rfl (O.nil hN)) (D.tk 2 rfl rfl rfl rfl (Le.refl _) ⟨_, rfl⟩ (fun _ hw_ _ hN => O.fieldAd underlying234 rfl sizeOf30 (by decide) rfl (O.nil hN)) (D.tk 3 rfl rfl rfl rfl (Le.refl _) ⟨_, rfl⟩ (fun _ hw_ _ hN => O.loadO isAgg30 rfl ((ho.keep e1).keep hw_) rfl (O.nil hN)) (D.tk 4 rfl rfl rfl rfl (Le.refl _) ⟨pure _, rfl⟩ (fun _ hw_ _ hN => O.mv (O.nil hN)) (D.tk 5 rfl rfl rfl rfl (Le.refl _) (nil_form rfl) (fun _ hw_ _ hN => O.nilChk rfl (O.nil hN)) ?_)))))
 refine D.tk 6 rfl rfl rfl rfl (Le.refl _) ⟨_, rfl⟩ (fun _ hw_ _ hN => O.fieldAd underlying234 rfl sizeOf3 (by decide) rfl (O.nil hN)) (D.tk 7 rfl rfl rfl rfl (Le.refl _) ⟨_, rfl⟩ (fun _ hw_ _ hN => O.loadO isAgg3 rfl ((ho.keep e1).keep hw_) rfl (O.nil hN)) ?_)
 have hb11 := Sl.sub (P := Tryz.prog) (k) (l.length) underlying30 sizeOf5 (by rfl) (hl.keep e1) hk (Nat.le_refl _)
 obtain ⟨v11, hs11, hr11⟩ := hb11
 refine D.tk 8 rfl rfl rfl rfl (Le.refl _) ⟨_, rfl⟩ (fun _ hw_ _ hN => O.subR rfl hr11 (.inr ⟨_, _, rfl, rfl⟩) (.inl ⟨rfl, rfl⟩) (O.nil hN)) (D.tk 9 rfl rfl rfl rfl (Le.refl _) ⟨pure _, rfl⟩ (fun _ hw_ _ hN => O.asg (O.nil hN)) (D.dn (hK2 _ _ (C.ret (Outs.one rfl rfl ?_)))))
 have q := hs11
 rw [List.take_length] at q
 exact ⟨e1, q⟩
theorem zero_spec (b : Nat) (vr : Value) (l : List UInt8) (k : Nat) (F : Nat → Prop) (w : World) (ho : Own w b 234 [.bool true, vr, .int .i64 ((k : Int))]) (hl : Sl byteE w F vr l) (hk : k ≤ l.length) (hF : ∀ j, F j → j ≠ b ∧ j < w.heap.size) :
 Ret Tryz.prog 188 #[.pointer (some ⟨b, 0, none⟩)] w (fun v w' => v = .bool false ∧ w' = w) := by
 have _hF9 := hF
 have _hk9 := hk
 have hbl := ho.lt
 have hll := hl.le
 refine enT [.pointer (some ⟨b, 0, none⟩)] 12 func188 rfl rfl (C.seqK fun K1 hK1 => C.region (O.asg (O.nil (hK1 _ _ (C.seqK fun K2 hK2 => C.region (O.mv (O.eqlP0 underlying176 rfl (O.mv (O.yes rfl rfl (O.mv (O.yes rfl rfl (O.nilChk rfl (O.yes rfl rfl (O.fieldAd underlying234 rfl sizeOf4 (by decide) rfl (O.yes rfl rfl (O.loadO isAgg4 rfl ho rfl (O.yes rfl rfl (O.not rfl (O.pickF rfl (O.asg (O.nil (hK2 _ _ (C.ret (Outs.one rfl rfl ?_))))))))))))))))))))))))
 exact ⟨rfl, rfl⟩
theorem num1_spec (c : BitVec 8) (w : World) :
 Ret Tryz.prog 245 #[.int .u8 ((c).toNat : Int)] w (fun v w' => v = .bool (decide (c < 128#8)) ∧ Le w w') := by
 refine enT [.int .u8 ((c).toNat : Int)] 5 func245 rfl rfl (C.seqK fun K1 hK1 => C.region (O.asg (O.nil (hK1 _ _ (C.seqK fun K2 hK2 => C.region (O.mv (O.lssU (m := 8) (b := 128#8) rfl rfl (O.asg (O.nil (hK2 _ _ (C.ret (Outs.one rfl rfl ?_))))))))))))
 exact ⟨rfl, (Le.refl _)⟩
theorem pred_small (M : Nat → Prop) (w : World) : Pred Tryz.prog M w (.func (.func 245) #[] #[]) (fun c : UInt8 => .int .u8 (c.toNat : Int)) Cn.small7 := ⟨245, [], rfl, call245, fun c w' _ => by
 have h := num1_spec c.toBitVec w'
 refine h.mono ?_
 rintro v w2 ⟨rfl, e⟩
 exact ⟨congrArg Value.bool (decide_eq_decide.2 (by rw [BitVec.lt_def]; exact Iff.rfl)), e⟩⟩
theorem indexB_spec (v0 vf : Value) (l : List UInt8) (F M : Nat → Prop) (p : UInt8 → Bool) (w : World) (hl : Sl byteE w F v0 l) (hp : Pred Tryz.prog M w vf (fun c : UInt8 => .int .u8 (c.toNat : Int)) p) :
 Ret Tryz.prog 244 #[v0, vf] w (fun v w' => v = .int .i64 (Cn.idx p l) ∧ Le w w') := by
 have hle := hl.le
 refine enT [v0, vf] 19 func244 rfl rfl (C.seqK fun K1 hK1 => C.region (O.asg (O.nil (hK1 _ _ (C.seqK fun K2 hK2 => C.seqK fun K3 hK3 => C.region (O.mv (O.len underlying30 rfl hl (O.mv (O.nil (hK3 _ _ (C.block fun K4 hK4 => C.loop0 (σ := Nat) (fun f0 w0 k f wz => f 8 = .int .i64 (k) ∧ f 0 = f0 0 ∧ f 1 = f0 1 ∧ f 7 = f0 7 ∧ Le w wz ∧ k ≤ l.length ∧ ∀ i, ∀ h : i < l.length, i < k → p l[i] = false) (fun k => l.length - k) 0 ?_ ?_)))))))))))
 ·
  refine ⟨rfl, rfl, rfl, rfl, (Le.refl _), ?_⟩
  exact ⟨Nat.zero_le _, fun i h k => absurd k (Nat.not_lt_zero _)⟩
 ·
  rintro k f_1 w1 ⟨s8_1, s0_1, s1_1, s7_1, e_1, ⟨hk, hI⟩⟩
  have z_1 := e_1.size
  refine C.seqK fun K5 hK5 => C.region (O.lssI s8_1 s7_1 (O.nil (hK5 _ _ (C.seqK fun K6 hK6 => C.condD rfl (fun c9 => ?_) (fun c9 => ?_)))))
  ·
   have hk2 : k < l.length := by omega
   refine C.skip (hK6 _ _ (C.seqK fun K7 hK7 => C.block fun K8 hK8 => C.seqK fun K9 hK9 => C.region (O.mv (O.asg (O.nil (hK9 _ _ (C.seqK fun K10 hK10 => C.region (O.mv (O.mv (O.mv (O.idx underlying30 sizeOf5 rfl s0_1 (hl.keep e_1) s8_1 (by omega) (fun a14 h14 => O.loadB isAgg5 rfl h14 (O.callP (l[k]'hk2) (hp.keep e_1) s1_1 rfl (fun w2 e2 => ?_))))))))))))))
   have z2 := e2.size
   refine O.nil (hK10 _ _ (C.cond rfl (fun c16 => ?_) (fun c16 => ?_)))
   ·
    refine C.seqK fun K11 hK11 => C.region (O.mv (O.asg (O.nil (hK11 _ _ (C.ret (Outs.one rfl s8_1 ?_))))))
    exact ⟨congrArg (Value.int .i64) (Cn.idx_yes hk2 c16 hI).symm, (Ext.trans e_1 e2)⟩
   ·
    refine C.skip (hK8 _ _ (hK7 _ _ (C.region (O.addI s8_1 rfl (by unfold InI; omega) (O.mv (O.nil (⟨k + 1, ⟨rfl, s0_1, s1_1, s7_1, (Ext.trans e_1 e2), ?_⟩, by first | omega | (simp only []; omega)⟩)))))))
    refine ⟨by omega, fun i hi hik => ?_⟩
    rcases Nat.lt_or_eq_of_le (Nat.le_of_lt_succ hik) with h | rfl
    ·exact hI i hi h
    ·exact c16
  ·
   refine C.exit (hK4 _ _ (hK2 _ _ (C.seqK fun K12 hK12 => C.region (O.asg (O.nil (hK12 _ _ (C.ret (Outs.one rfl rfl ?_))))))))
   first
   | exact ⟨congrArg (Value.int .i64) (Cn.idx_yes hk2 c16 hI).symm, e_1⟩
   | exact ⟨congrArg (Value.int .i64) (Cn.idx_no fun i hi => hI i hi (by omega)).symm, e_1⟩
set_option maxHeartbeats 4000000 in
theorem rdnum_spec (b : Nat) (vr : Value) (l : List UInt8) (k : Nat) (F : Nat → Prop) (w : World) (ho : Own w b 234 [.bool true, vr, .int .i64 ((k : Int))]) (hl : Sl byteE w F vr l) (hk : k ≤ l.length) (hF : ∀ j, F j → j ≠ b ∧ j < w.heap.size) (hL : l.length ≤ 1000000) :
 Ret Tryz.prog 190 #[.pointer (some ⟨b, 0, none⟩)] w (fun v w' => ∃ (n : BitVec 64) (e : Int) (k' : Nat), v = .tuple #[.int .u64 (n.toNat : Int), .int .i64 e] ∧ Own w' b 234 [.bool true, vr, .int .i64 ((k' : Int))] ∧ ((e = 0 ∧ Cn.Seg (Cn.num n.toNat) l k k') ∨ (0 < e ∧ n = 0#64 ∧ k' = k ∧ Cn.No (fun _ : BitVec 64 => True) (fun q => Cn.num q.toNat) l k)) ∧ Ext (fun j => j = b) w w') := by
 have _hF9 := hF
 have _hk9 := hk
 have hbl := ho.lt
 have hll := hl.le
 obtain ⟨x, hx⟩ : ∃ x, x = l.drop k := ⟨_, rfl⟩
 have hxl : x.length = l.length - k := by rw [hx, List.length_drop]
 refine enT [.pointer (some ⟨b, 0, none⟩)] 73 func190 rfl rfl (C.seqK fun K1 hK1 => C.region (O.asg (O.asg (O.nil (hK1 _ _ (C.seqK fun K2 hK2 => C.region (O.mv (O.call call196 (args1 rfl) (rest_spec b vr l k F _ ho hl hk (fun j hj => by have q1 := hF j hj; omega)) ?_))))))))
 rintro v_9 w1 ⟨e1, h9⟩
 have z1 := e1.size
 rw [← hx] at h9
 refine O.asg (O.nil (hK2 _ _ (C.seqK fun K3 hK3 => C.region (O.mv (O.mv (O.len underlying30 rfl h9 (O.minI rfl rfl (O.cast (v' := .int .i64 ((min x.length 10 : Nat) : Int)) (congrArg (Value.int .i64) (by omega)) ?_))))))))
 have hb14 := Sl.sub (P := Tryz.prog) (0) (min x.length 10) underlying30 sizeOf5 (by rfl) h9 (Nat.zero_le _) (by omega)
 obtain ⟨v14, hs14, hr14⟩ := hb14
 refine O.subR rfl hr14 (.inl ⟨rfl, rfl⟩) (.inr ⟨_, _, rfl, rfl⟩) ?_
 rw [List.drop_zero, Cn.take_min] at hs14
 refine O.call call244 (args2 rfl rfl) (indexB_spec _ _ (x.take 10) _ (fun _ => False) _ _ hs14 (pred_small _ _)) ?_
 rintro v_15 w2 ⟨rfl, e2⟩
 have z2 := e2.size
 obtain ⟨e, he⟩ : ∃ e, e = Cn.endN x := ⟨_, rfl⟩
 have hge : -1 ≤ e := by rw [he]; exact Cn.endN_ge x
 have hat : 0 ≤ e → e.toNat < x.length ∧ e ≤ 9 := fun h => by
  have := Cn.endN_at (x := x) (e := e.toNat) (by omega)
  exact ⟨this.1, by omega⟩
 have hed : e = Cn.endN (l.drop k) := by rw [← hx]; exact he
 obtain ⟨y, hy⟩ : ∃ y, y = x.getD e.toNat 0 := ⟨_, rfl⟩
 have q1 : (y.toBitVec = 0#8) ↔ y.toNat = 0 := ⟨fun h => by rw [← UInt8.toNat_toBitVec, h]; rfl, fun h => BitVec.eq_of_toNat_eq h⟩
 have q2 : (1#8 < y.toBitVec) ↔ 1 < y.toNat := by rw [BitVec.lt_def]; exact Iff.rfl
 refine O.cast (v' := .int .i64 e) (by rw [he]; rfl) (O.asg (O.nil (hK3 _ _ (C.seqK fun K4 hK4 => C.block fun K5 hK5 => C.seqK fun K6 hK6 => C.region (O.mv (O.lssI rfl rfl (O.mv (O.cut 4 (fun f f' => f' 23 = .bool (decide (e < 0 ∧ ((x.length : Nat) : Int) < 10)) ∧ f' 0 = f 0 ∧ f' 2 = f 2 ∧ f' 3 = f 3 ∧ f' 4 = f 4 ∧ f' 5 = f 5) ?_ ?_))))))))
 ·
  refine O.splitD (x := .tmp 19) rfl (fun c19 => ?_) (fun c19 => ?_)
  ·
   refine O.yes rfl (isT rfl c19) (O.mv (O.yes rfl (isT rfl c19) (O.len underlying30 rfl (h9.keep e2) (O.yes rfl (isT rfl c19) (O.lssI rfl rfl (O.pickT (isT rfl c19) (O.nil (⟨⟨?_, rfl, rfl, rfl, rfl, rfl⟩, rfl⟩))))))))
   first | exact rfl | exact Eq.trans rfl (congrArg Value.bool (dAnd (by assumption))) | exact Eq.trans rfl (congrArg Value.bool (dAndF (by assumption))) | exact Eq.trans rfl (congrArg Value.bool (dOr (by assumption))) | exact Eq.trans rfl (congrArg Value.bool (dOrT (by assumption)))
  ·
   refine O.no rfl (noB (isF rfl c19) rfl) (O.no rfl (noB (isF rfl c19) rfl) (O.no rfl (noB (isF rfl c19) rfl) (O.pickF (isF rfl c19) (O.nil (⟨⟨?_, rfl, rfl, rfl, rfl, rfl⟩, rfl⟩)))))
   first | exact rfl | exact Eq.trans rfl (congrArg Value.bool (dAnd (by assumption))) | exact Eq.trans rfl (congrArg Value.bool (dAndF (by assumption))) | exact Eq.trans rfl (congrArg Value.bool (dOr (by assumption))) | exact Eq.trans rfl (congrArg Value.bool (dOrT (by assumption)))
 ·
  rintro f_1 ⟨s23_1, s0_1, s2_1, s3_1, s4_1, s5_1⟩
  refine O.asg (O.nil (hK6 _ _ (C.condD s23_1 (fun c16 => ?_) (fun c16 => ?_))))
  ·
   refine C.seqK fun K7 hK7 => C.region (O.asg (O.asg (O.nil (hK7 _ _ (C.ret (Outs.two rfl rfl rfl ?_))))))
   exact ⟨0#64, 4, k, rfl, ((ho.keep e1).keep e2), .inr ⟨by decide, rfl, rfl, Cn.bad_no hed (.inl (by omega))⟩, (Ext.nw (Ext.nw (Ext.refl _ _) e1) e2)⟩
  ·
   refine C.seqK fun K8 hK8 => C.region (O.mv (O.lssI s5_1 rfl (O.mv (O.cut 21 (fun f f' => f' 48 = .bool (decide (Cn.badN x e)) ∧ f' 0 = f 0 ∧ f' 2 = f 2 ∧ f' 3 = f 3 ∧ f' 4 = f 4 ∧ f' 5 = f 5) ?_ ?_))))
   ·
    refine O.splitD (x := .tmp 27) rfl (fun c27 => ?_) (fun c27 => ?_)
    ·
     refine O.no rfl (noB (isT rfl c27) rfl) (O.no rfl (noB (isT rfl c27) rfl) (O.no rfl (noB (isT rfl c27) rfl) (O.no rfl (noU rfl) (O.no rfl (noU rfl) (O.no rfl (noU rfl) (O.no rfl (noU rfl) (O.no rfl (noU rfl) (O.no rfl (noB (isT rfl c27) rfl) (O.pickT (isT rfl c27) (O.mv (O.no rfl (noB rfl rfl) (O.no rfl (noB rfl rfl) (O.no rfl (noB rfl rfl) (O.no rfl (noU rfl) (O.no rfl (noU rfl) (O.no rfl (noU rfl) (O.no rfl (noU rfl) (O.no rfl (noU rfl) (O.no rfl (noB rfl rfl) (O.pickT rfl (O.nil (⟨⟨?_, rfl, rfl, rfl, rfl, rfl⟩, rfl⟩))))))))))))))))))))))
     refine Eq.trans rfl (congrArg Value.bool ?_)
     try rw [q1] at c38
     (refine (decide_eq_true ?_).symm; unfold Cn.badN; rw [← hy]; omega)
    ·
     have hat2 := hat (by omega)
     refine O.yes rfl (isF rfl c27) (O.mv (O.yes rfl (isF rfl c27) (O.gtrI s5_1 rfl (O.yes rfl (isF rfl c27) (O.mv (O.splitD (x := .tmp 30) rfl (fun c30 => ?_) (fun c30 => ?_)))))))
     ·
      refine O.yes rfl (isT rfl c30) (O.mv (O.yes rfl (isT rfl c30) (O.mv (O.yes rfl (isT rfl c30) (O.idx underlying30 sizeOf5 rfl s4_1 (h9.keep e2) s5_1 (by omega) (fun a33 h33 => O.yes rfl (isT rfl c30) (O.loadB isAgg5 rfl h33 (O.cast (v' := .int .u8 (y.toBitVec.toNat : Int)) (by rw [hy, Cn.getD_at (by omega)]) (O.yes rfl (isT rfl c30) (O.eqlU (m := 8) (b := 0#8) rfl rfl (O.yes rfl (isF rfl c27) (O.pickT (isT rfl c30) (O.pickF (isF rfl c27) (O.mv (O.splitD (x := .tmp 38) rfl (fun c38 => ?_) (fun c38 => ?_))))))))))))))))
      ·
       refine O.no rfl (noB (isT rfl c38) rfl) (O.no rfl (noB (isT rfl c38) rfl) (O.no rfl (noB (isT rfl c38) rfl) (O.no rfl (noU rfl) (O.no rfl (noU rfl) (O.no rfl (noU rfl) (O.no rfl (noU rfl) (O.no rfl (noU rfl) (O.no rfl (noB (isT rfl c38) rfl) (O.pickT (isT rfl c38) (O.nil (⟨⟨?_, rfl, rfl, rfl, rfl, rfl⟩, rfl⟩)))))))))))
       refine Eq.trans rfl (congrArg Value.bool ?_)
       try rw [q1] at c38
       (refine (decide_eq_true ?_).symm; unfold Cn.badN; rw [← hy]; omega)
      ·
       refine O.yes rfl (isF rfl c38) (O.mv (O.yes rfl (isF rfl c38) (O.eqlI s5_1 rfl (O.yes rfl (isF rfl c38) (O.mv (O.splitD (x := .tmp 41) rfl (fun c41 => ?_) (fun c41 => ?_)))))))
       ·
        refine O.yes rfl (isT rfl c41) (O.mv (O.yes rfl (isT rfl c41) (O.mv (O.yes rfl (isT rfl c41) (O.idx underlying30 sizeOf5 rfl s4_1 (h9.keep e2) s5_1 (by omega) (fun a44 h44 => O.yes rfl (isT rfl c41) (O.loadB isAgg5 rfl h44 (O.cast (v' := .int .u8 (y.toBitVec.toNat : Int)) (by rw [hy, Cn.getD_at (by omega)]) (O.yes rfl (isT rfl c41) (O.gtrU (m := 8) (b := 1#8) rfl rfl (O.yes rfl (isF rfl c38) (O.pickT (isT rfl c41) (O.pickF (isF rfl c38) (O.nil (⟨⟨?_, rfl, rfl, rfl, rfl, rfl⟩, rfl⟩)))))))))))))))
        refine Eq.trans rfl (congrArg Value.bool ?_)
        try rw [q1] at c38
        first
        | (refine (decide_eq_true ?_).symm; unfold Cn.badN; rw [← hy]; omega)
        | (refine (decide_eq_false ?_).symm; unfold Cn.badN; rw [← hy]; omega)
        | (refine decide_eq_decide.2 ?_; unfold Cn.badN; rw [← hy, q2]; omega)
       ·
        refine O.no rfl (noB (isF rfl c41) rfl) (O.no rfl (noB (isF rfl c41) rfl) (O.no rfl (noB (isF rfl c41) rfl) (O.no rfl (noB (isF rfl c41) rfl) (O.no rfl (noB (isF rfl c41) rfl) (O.yes rfl (isF rfl c38) (O.pickF (isF rfl c41) (O.pickF (isF rfl c38) (O.nil (⟨⟨?_, rfl, rfl, rfl, rfl, rfl⟩, rfl⟩)))))))))
        refine Eq.trans rfl (congrArg Value.bool ?_)
        try rw [q1] at c38
        first
        | (refine (decide_eq_true ?_).symm; unfold Cn.badN; rw [← hy]; omega)
        | (refine (decide_eq_false ?_).symm; unfold Cn.badN; rw [← hy]; omega)
     ·
      refine O.no rfl (noB (isF rfl c30) rfl) (O.no rfl (noB (isF rfl c30) rfl) (O.no rfl (noB (isF rfl c30) rfl) (O.no rfl (noB (isF rfl c30) rfl) (O.no rfl (noB (isF rfl c30) rfl) (O.yes rfl (isF rfl c27) (O.pickF (isF rfl c30) (O.pickF (isF rfl c27) (O.mv (O.yes rfl rfl (O.mv (O.yes rfl rfl (O.eqlI s5_1 rfl (O.yes rfl rfl (O.mv (O.splitD (x := .tmp 41) rfl (fun c41 => ?_) (fun c41 => ?_))))))))))))))))
      ·
       refine O.yes rfl (isT rfl c41) (O.mv (O.yes rfl (isT rfl c41) (O.mv (O.yes rfl (isT rfl c41) (O.idx underlying30 sizeOf5 rfl s4_1 (h9.keep e2) s5_1 (by omega) (fun a44 h44 => O.yes rfl (isT rfl c41) (O.loadB isAgg5 rfl h44 (O.cast (v' := .int .u8 (y.toBitVec.toNat : Int)) (by rw [hy, Cn.getD_at (by omega)]) (O.yes rfl (isT rfl c41) (O.gtrU (m := 8) (b := 1#8) rfl rfl (O.yes rfl rfl (O.pickT (isT rfl c41) (O.pickF rfl (O.nil (⟨⟨?_, rfl, rfl, rfl, rfl, rfl⟩, rfl⟩)))))))))))))))
       refine Eq.trans rfl (congrArg Value.bool ?_)
       try rw [q1] at c38
       first
       | (refine (decide_eq_true ?_).symm; unfold Cn.badN; rw [← hy]; omega)
       | (refine (decide_eq_false ?_).symm; unfold Cn.badN; rw [← hy]; omega)
       | (refine decide_eq_decide.2 ?_; unfold Cn.badN; rw [← hy, q2]; omega)
      ·
       refine O.no rfl (noB (isF rfl c41) rfl) (O.no rfl (noB (isF rfl c41) rfl) (O.no rfl (noB (isF rfl c41) rfl) (O.no rfl (noB (isF rfl c41) rfl) (O.no rfl (noB (isF rfl c41) rfl) (O.yes rfl rfl (O.pickF (isF rfl c41) (O.pickF rfl (O.nil (⟨⟨?_, rfl, rfl, rfl, rfl, rfl⟩, rfl⟩)))))))))
       refine Eq.trans rfl (congrArg Value.bool ?_)
       try rw [q1] at c38
       first
       | (refine (decide_eq_true ?_).symm; unfold Cn.badN; rw [← hy]; omega)
       | (refine (decide_eq_false ?_).symm; unfold Cn.badN; rw [← hy]; omega)
   ·
    rintro f_2 ⟨s48_2, s0_2, s2_2, s3_2, s4_2, s5_2⟩
    refine O.asg (O.nil (hK8 _ _ (C.condD s48_2 (fun c24 => ?_) (fun c24 => ?_))))
    ·
     refine C.seqK fun K9 hK9 => C.region (O.asg (O.asg (O.nil (hK9 _ _ (C.ret (Outs.two rfl rfl rfl ?_))))))
     first
     | exact ⟨0#64, 4, k, rfl, ((ho.keep e1).keep e2), .inr ⟨by decide, rfl, rfl, Cn.bad_no hed (.inl (by omega))⟩, (Ext.nw (Ext.nw (Ext.refl _ _) e1) e2)⟩
     | exact ⟨0#64, 12, k, rfl, ((ho.keep e1).keep e2), .inr ⟨by decide, rfl, rfl, Cn.bad_no hed (by rw [← hx]; exact c24)⟩, (Ext.nw (Ext.nw (Ext.refl _ _) e1) e2)⟩
    ·
     have hgood := Cn.good_num hk hed (by rw [← hx]; exact c24)
     have he0 : 0 ≤ e := by unfold Cn.badN at c24; omega
     have hat2 := hat he0
     refine C.skip (hK5 _ _ (hK4 _ _ (C.seqK fun K10 hK10 => C.region (O.asg (O.nil (hK10 _ _ (C.seqK fun K11 hK11 => C.seqK fun K12 hK12 => C.region (O.mv (O.asg (O.nil (hK12 _ _ (C.block fun K13 hK13 => C.loop0 (σ := Nat) (fun f0 w0 j f w => f 6 = .int .u64 ((BitVec.ofNat 64 (Cn.valN ((x.take (e.toNat + 1)).drop j))).toNat : Int) ∧ f 7 = .int .i64 ((j : Int) - 1) ∧ f 0 = f0 0 ∧ f 2 = f0 2 ∧ f 3 = f0 3 ∧ f 4 = f0 4 ∧ f 5 = f0 5 ∧ Le w0 w ∧ j ≤ e.toNat + 1) (fun j => j) (e.toNat + 1) ?_ ?_))))))))))))
     ·
      refine ⟨(Eq.trans rfl (by rw [List.drop_of_length_le (by rw [List.length_take]; omega)]; rfl)), (Eq.trans (Eq.trans s5_2 s5_1) (i64_eq (by omega))), rfl, rfl, rfl, rfl, rfl, Le.refl _, ?_⟩
      exact Nat.le_refl _
     ·
      rintro j f_3 w3 ⟨s6_3, s7_3, s0_3, s2_3, s3_3, s4_3, s5_3, e_3, hj⟩
      have z_3 := e_3.size
      refine C.seqK fun K14 hK14 => C.seqK fun K15 hK15 => C.region (O.mv (O.geqI s7_3 rfl (O.nil (hK15 _ _ (C.condD rfl (fun c51 => ?_) (fun c51 => ?_))))))
      ·
       refine C.skip (hK14 _ _ (C.seqK fun K16 hK16 => C.block fun K17 hK17 => C.region (O.mv (O.shlU (m := 64) (c := 7) rfl rfl s6_3 rfl (O.mv (O.mv (O.idx underlying30 sizeOf5 rfl (Eq.trans s4_3 (Eq.trans s4_2 s4_1)) ((h9.keep e2).keep e_3) s7_3 (by omega) (fun a58 h58 => O.loadB isAgg5 rfl h58 (O.andNotU (m := 8) (b := 128#8) rfl rfl rfl rfl (O.convUU (m := 8) (m' := 64) underlying5 underlying110 rfl rfl rfl (O.orU (m := 64) rfl rfl rfl rfl (O.asg (O.nil (hK17 _ _ (hK16 _ _ (C.region (O.mv (O.subI s7_3 rfl (by unfold InI; omega) (O.asg (O.nil ?_))))))))))))))))))))
       refine ⟨(j - 1), ⟨(Eq.trans rfl (congrArg (fun q : BitVec 64 => Value.int .u64 (q.toNat : Int)) (by rw [Cn.valN_step (i := j - 1) (by omega) (by omega), show j - 1 + 1 = j by omega]; simp only [show ((j : Int) - 1).toNat = j - 1 by omega]; exact Cn.group _ _))), (Eq.trans rfl (i64_eq (by omega))), s0_3, s2_3, s3_3, s4_3, s5_3, e_3, ?_⟩, by first | omega | (simp only []; omega)⟩
       omega
      ·
       refine C.exit (hK13 _ _ (hK11 _ _ (C.seqK fun K18 hK18 => C.region (O.mv (O.nilChk (Eq.trans s0_3 (Eq.trans s0_2 s0_1)) (O.fieldAd underlying234 rfl sizeOf3 (by decide) rfl (O.loadO isAgg3 rfl (((ho.keep e1).keep e2).keep e_3) rfl (O.mv (O.addI (Eq.trans s5_3 (Eq.trans s5_2 s5_1)) rfl (by unfold InI; omega) (O.addI rfl rfl (by unfold InI; omega) (O.cast (v' := .int .i64 ((k + (e.toNat + 1) : Nat) : Int)) (congrArg (Value.int .i64) (by omega)) (O.nilChk (Eq.trans s0_3 (Eq.trans s0_2 s0_1)) (O.fieldAd underlying234 rfl sizeOf3 (by decide) rfl ?_)))))))))))))
       refine O.store sizeOf3 rfl rfl rfl (((ho.keep e1).keep e2).keep e_3) (by simp) (fun w4 hs4 e4 z4 => ?_)
       try simp only [Nat.zero_add] at hs4
       refine O.nil (hK18 _ _ (C.seqK fun K19 hK19 => C.region (O.mv (O.asg (O.asg (O.nil (hK19 _ _ (C.ret (Outs.two rfl s6_3 rfl ?_)))))))))
       first
       | exact ⟨0#64, 4, k, rfl, hs4, .inr ⟨by decide, rfl, rfl, Cn.bad_no hed (.inl (by omega))⟩, (Ext.nw (Ext.nw (Ext.nw (Ext.nw (Ext.refl _ _) e1) e2) e_3) e4)⟩
       | exact ⟨0#64, 12, k, rfl, hs4, .inr ⟨by decide, rfl, rfl, Cn.bad_no hed (by rw [← hx]; exact c24)⟩, (Ext.nw (Ext.nw (Ext.nw (Ext.nw (Ext.refl _ _) e1) e2) e_3) e4)⟩
       | (obtain rfl : j = 0 := by omega
          exact ⟨_, 0, k + (e.toNat + 1), rfl, hs4, .inl ⟨rfl, by rw [hx]; exact hgood⟩, (Ext.nw (Ext.nw (Ext.nw (Ext.nw (Ext.refl _ _) e1) e2) e_3) e4)⟩)
set_option maxHeartbeats 1000000 in
theorem wholeN_spec (b : Nat) (vr : Value) (l : List UInt8) (k : Nat) (F : Nat → Prop) (w : World) (ho : Own w b 234 [.bool true, vr, .int .i64 ((k : Int))]) (hl : Sl byteE w F vr l) (hk : k ≤ l.length) (hF : ∀ j, F j → j ≠ b ∧ j < w.heap.size) (hL : l.length ≤ 1000000) :
 Ret Tryz.prog 189 #[.pointer (some ⟨b, 0, none⟩), .func (.func 190) #[] #[]] w (fun v w' => ∃ (n : BitVec 64) (e : Int) (k' : Nat), v = .tuple #[.int .u64 (n.toNat : Int), .int .i64 e] ∧ Own w' b 234 [.bool true, vr, .int .i64 ((k' : Int))] ∧ ((e = 0 ∧ Cn.Seg (Cn.num n.toNat) l k k') ∨ (0 < e ∧ n = 0#64 ∧ k' = k ∧ Cn.No (fun _ : BitVec 64 => True) (fun q => Cn.num q.toNat) l k)) ∧ Ext (fun j => j = b) w w') := by
 have _hF9 := hF
 have _hk9 := hk
 have hbl := ho.lt
 have hll := hl.le
 refine enT [.pointer (some ⟨b, 0, none⟩), .func (.func 190) #[] #[]] 32 func189 rfl rfl (C.seqK fun K1 hK1 => C.region (O.asg (O.asg (O.nil (hK1 _ _ (C.seqK fun K2 hK2 => C.region (O.asg (O.nil (hK2 _ _ (C.seqK fun K3 hK3 => C.seqK fun K4 hK4 => C.region (O.mv (O.call call188 (args1 rfl) (zero_spec b vr l _ F _ ho hl (by omega) (fun j hj => by have q1 := hF j hj; omega)) ?_))))))))))))
 rintro v_11 w1 ⟨rfl, hw_⟩
 replace hw_ := hw_.symm
 subst hw_
 refine O.nil (hK4 _ _ (C.condF rfl (C.skip (hK3 _ _ (C.seqK fun K5 hK5 => C.region (O.mv (O.nilChk rfl (O.fieldAd underlying234 rfl sizeOf3 (by decide) rfl (O.loadO isAgg3 rfl ho rfl (O.asg (O.nil (hK5 _ _ (C.seqK fun K6 hK6 => C.region (O.mv (O.mv (O.callV (vs := [.pointer (some ⟨b, 0, none⟩)]) call190 rfl (args1 rfl) (rdnum_spec b vr l k F _ ho hl hk (fun j hj => by have q1 := hF j hj; omega) hL) ?_))))))))))))))))
 rintro v_20 w1 ⟨nv20, env20, knv20, rfl, hov20, hcv20, e1⟩
 have z1 := e1.size
 refine O.mv (O.extract rfl rfl (O.extract rfl rfl (O.asg (O.asg (O.nil (hK6 _ _ (C.seqK fun K7 hK7 => C.seqK fun K8 hK8 => C.region (O.mv (O.neqI rfl rfl (O.nil (hK8 _ _ (C.condD rfl (fun c24 => ?_) (fun c24 => ?_)))))))))))))
 ·
  refine C.seqK fun K9 hK9 => C.region (O.mv (O.mv (O.cast (v' := .int .i64 (k : Int)) rfl (O.nilChk rfl (O.fieldAd underlying234 rfl sizeOf3 (by decide) rfl (O.store sizeOf3 rfl rfl rfl hov20 (by simp) (fun w2 hs2 e2 z2 => ?_)))))))
  try simp only [Nat.zero_add] at hs2
  refine O.nil (hK9 _ _ (C.seqK fun K10 hK10 => C.region (O.mv (O.mv (O.asg (O.asg (O.nil (hK10 _ _ (C.ret (Outs.two rfl rfl rfl ?_))))))))))
  rcases hcv20 with ⟨q1, q2⟩ | ⟨q1, q2⟩
  ·first
   | exact absurd q1 c24
   | exact ⟨nv20, 0, knv20, rfl, hs2, .inl ⟨rfl, q2⟩, (Ext.nw (Ext.nw (Ext.refl _ _) e1) e2)⟩
  ·first
   | exact ⟨0#64, env20, k, rfl, hs2, .inr ⟨q1, rfl, rfl, q2.2.2⟩, (Ext.nw (Ext.nw (Ext.refl _ _) e1) e2)⟩
   | omega
 ·
  refine C.skip (hK7 _ _ (C.seqK fun K11 hK11 => C.region (O.mv (O.asg (O.asg (O.nil (hK11 _ _ (C.ret (Outs.two rfl rfl rfl ?_)))))))))
  rcases hcv20 with ⟨q1, q2⟩ | ⟨q1, q2⟩
  ·first
   | exact absurd q1 c24
   | exact ⟨nv20, 0, knv20, rfl, hov20, .inl ⟨rfl, q2⟩, (Ext.nw (Ext.refl _ _) e1)⟩
  ·first
   | exact ⟨0#64, env20, k, rfl, hov20, .inr ⟨q1, rfl, rfl, q2.2.2⟩, (Ext.nw (Ext.refl _ _) e1)⟩
   | omega
set_option maxHeartbeats 1000000 in
theorem rdNum_spec (b : Nat) (vr : Value) (l : List UInt8) (k : Nat) (F : Nat → Prop) (most : BitVec 64) (w : World) (ho : Own w b 234 [.bool true, vr, .int .i64 ((k : Int))]) (hl : Sl byteE w F vr l) (hk : k ≤ l.length) (hF : ∀ j, F j → j ≠ b ∧ j < w.heap.size) (hL : l.length ≤ 1000000) :
 Ret Tryz.prog 129 #[.pointer (some ⟨b, 0, none⟩), .int .u64 ((most).toNat : Int)] w (fun v w' => ∃ (n : BitVec 64) (e : Int) (k' : Nat), v = .tuple #[.int .u64 (n.toNat : Int), .int .i64 e] ∧ Own w' b 234 [.bool true, vr, .int .i64 ((k' : Int))] ∧ ((e = 0 ∧ n.toNat ≤ most.toNat ∧ Cn.Seg (Cn.num n.toNat) l k k') ∨ (0 < e ∧ n = 0#64 ∧ k' = k ∧ Cn.No (fun q : BitVec 64 => q.toNat ≤ most.toNat) (fun q => Cn.num q.toNat) l k)) ∧ Ext (fun j => j = b) w w') := by
 have _hF9 := hF
 have _hk9 := hk
 have hbl := ho.lt
 have hll := hl.le
 refine enT [.pointer (some ⟨b, 0, none⟩), .int .u64 ((most).toNat : Int)] 33 func129 rfl rfl (C.seqK fun K1 hK1 => C.region (O.asg (O.asg (O.nil (hK1 _ _ (C.seqK fun K2 hK2 => C.seqK fun K3 hK3 => C.region (O.mv (O.call call188 (args1 rfl) (zero_spec b vr l _ F _ ho hl (by omega) (fun j hj => by have q1 := hF j hj; omega)) ?_))))))))
 rintro v_10 w1 ⟨rfl, hw_⟩
 replace hw_ := hw_.symm
 subst hw_
 refine O.nil (hK3 _ _ (C.condF rfl (C.skip (hK2 _ _ (C.seqK fun K4 hK4 => C.region (O.mv (O.nilChk rfl (O.fieldAd underlying234 rfl sizeOf3 (by decide) rfl (O.loadO isAgg3 rfl ho rfl (O.asg (O.nil (hK4 _ _ (C.seqK fun K5 hK5 => C.region (O.mv (O.call call189 (args2 rfl rfl) (wholeN_spec b vr l k F _ ho hl hk (fun j hj => by have q1 := hF j hj; omega) hL) ?_)))))))))))))))
 rintro v_17 w1 ⟨nv17, env17, knv17, rfl, hov17, hcv17, e1⟩
 have z1 := e1.size
 refine O.mv (O.extract rfl rfl (O.extract rfl rfl (O.asg (O.asg (O.nil (hK5 _ _ (C.seqK fun K6 hK6 => C.seqK fun K7 hK7 => C.region (O.mv (O.eqlI rfl rfl (O.mv (O.splitD (x := .tmp 22) rfl (fun c22 => ?_) (fun c22 => ?_))))))))))))
 ·
  refine O.yes rfl (isT rfl c22) (O.mv (O.yes rfl (isT rfl c22) (O.mv (O.yes rfl (isT rfl c22) (O.gtrU (m := 64) rfl rfl (O.pickT (isT rfl c22) (O.nil (hK7 _ _ (C.condD rfl (fun c26 => ?_) (fun c26 => ?_))))))))))
  ·
   refine C.seqK fun K8 hK8 => C.region (O.mv (O.mv (O.cast (v' := .int .i64 (k : Int)) rfl (O.nilChk rfl (O.fieldAd underlying234 rfl sizeOf3 (by decide) rfl (O.store sizeOf3 rfl rfl rfl hov17 (by simp) (fun w2 hs2 e2 z2 => ?_)))))))
   try simp only [Nat.zero_add] at hs2
   refine O.nil (hK8 _ _ (C.seqK fun K9 hK9 => C.region (O.asg (O.asg (O.nil (hK9 _ _ (C.ret (Outs.two rfl rfl rfl ?_))))))))
   rcases hcv17 with ⟨q1, q2⟩ | ⟨q1, q2, q3, q4⟩
   ·first
    | exact ⟨0#64, 3, k, rfl, hs2, .inr ⟨by decide, rfl, rfl, Cn.no_most q2 (BitVec.lt_def.1 c26)⟩, (Ext.nw (Ext.nw (Ext.refl _ _) e1) e2)⟩
    | exact ⟨nv17, env17, knv17, rfl, hs2, .inl ⟨q1, Nat.le_of_not_lt (fun h => c26 (BitVec.lt_def.2 h)), q2⟩, (Ext.nw (Ext.nw (Ext.refl _ _) e1) e2)⟩
    | exact absurd q1 c22
   ·first
    | (exfalso; omega)
    | exact ⟨nv17, env17, knv17, rfl, hs2, .inr ⟨q1, q2, q3, q4.mono fun _ _ => trivial⟩, (Ext.nw (Ext.nw (Ext.refl _ _) e1) e2)⟩
  ·
   refine C.skip (hK6 _ _ (C.seqK fun K10 hK10 => C.region (O.mv (O.mv (O.asg (O.asg (O.nil (hK10 _ _ (C.ret (Outs.two rfl rfl rfl ?_))))))))))
   rcases hcv17 with ⟨q1, q2⟩ | ⟨q1, q2, q3, q4⟩
   ·first
    | exact ⟨0#64, 3, k, rfl, hov17, .inr ⟨by decide, rfl, rfl, Cn.no_most q2 (BitVec.lt_def.1 c26)⟩, (Ext.nw (Ext.refl _ _) e1)⟩
    | exact ⟨nv17, env17, knv17, rfl, hov17, .inl ⟨q1, Nat.le_of_not_lt (fun h => c26 (BitVec.lt_def.2 h)), q2⟩, (Ext.nw (Ext.refl _ _) e1)⟩
    | exact absurd q1 c22
   ·first
    | (exfalso; omega)
    | exact ⟨nv17, env17, knv17, rfl, hov17, .inr ⟨q1, q2, q3, q4.mono fun _ _ => trivial⟩, (Ext.nw (Ext.refl _ _) e1)⟩
 ·
  refine O.no rfl (noB (isF rfl c22) rfl) (O.no rfl (noB (isF rfl c22) rfl) (O.no rfl (noB (isF rfl c22) rfl) (O.pickF (isF rfl c22) (O.nil (hK7 _ _ (C.condF rfl (C.skip (hK6 _ _ (C.seqK fun K11 hK11 => C.region (O.mv (O.mv (O.asg (O.asg (O.nil (hK11 _ _ (C.ret (Outs.two rfl rfl rfl ?_)))))))))))))))))
  rcases hcv17 with ⟨q1, q2⟩ | ⟨q1, q2, q3, q4⟩
  ·first
   | exact ⟨0#64, 3, k, rfl, hov17, .inr ⟨by decide, rfl, rfl, Cn.no_most q2 (BitVec.lt_def.1 c26)⟩, (Ext.nw (Ext.refl _ _) e1)⟩
   | exact ⟨nv17, env17, knv17, rfl, hov17, .inl ⟨q1, Nat.le_of_not_lt (fun h => c26 (BitVec.lt_def.2 h)), q2⟩, (Ext.nw (Ext.refl _ _) e1)⟩
   | exact absurd q1 c22
  ·first
   | (exfalso; omega)
   | exact ⟨nv17, env17, knv17, rfl, hov17, .inr ⟨q1, q2, q3, q4.mono fun _ _ => trivial⟩, (Ext.nw (Ext.refl _ _) e1)⟩
set_option maxHeartbeats 1000000 in
theorem rtake_spec (b : Nat) (vr : Value) (l : List UInt8) (k : Nat) (F : Nat → Prop) (n : BitVec 64) (w : World) (ho : Own w b 234 [.bool true, vr, .int .i64 ((k : Int))]) (hl : Sl byteE w F vr l) (hk : k ≤ l.length) (hF : ∀ j, F j → j ≠ b ∧ j < w.heap.size) (hL : l.length ≤ 1000000) :
 Ret Tryz.prog 193 #[.pointer (some ⟨b, 0, none⟩), .int .u64 ((n).toNat : Int)] w (fun v w' => ∃ (vb : Value) (s : List UInt8) (e : Int) (k' : Nat), v = .tuple #[vb, .int .i64 e] ∧ Own w' b 234 [.bool true, vr, .int .i64 ((k' : Int))] ∧ OwnF byteF 5 w.heap.size w' vb (s) ∧ ((e = 0 ∧ n.toNat ≤ l.length - k ∧ k' = k + n.toNat ∧ s = (l.drop k).take n.toNat) ∨ (e = 4 ∧ l.length - k < n.toNat ∧ k' = k)) ∧ Ext (fun j => j = b) w w') := by
 have _hF9 := hF
 have _hk9 := hk
 have hbl := ho.lt
 have hll := hl.le
 have hnl := n.isLt
 obtain ⟨ie5, ti5, ts5, tb5, tz5⟩ := inf5
 refine enT [.pointer (some ⟨b, 0, none⟩), .int .u64 ((n).toNat : Int)] 28 func193 rfl rfl (C.seqK fun K1 hK1 => C.region (O.asg (O.asg (O.nil (hK1 _ _ (C.seqK fun K2 hK2 => C.seqK fun K3 hK3 => C.region (O.mv (O.call call196 (args1 rfl) (rest_spec b vr l k F _ ho hl hk (fun j hj => by have q1 := hF j hj; omega)) ?_))))))))
 rintro v_8 w1 ⟨e1, h8⟩
 have z1 := e1.size
 refine O.len underlying30 rfl h8 (O.convIU (m' := 64) underlying3 underlying110 rfl rfl rfl ?_)
 have h10 : (BitVec.ofInt 64 ((l.drop k).length : Int)).toNat = l.length - k := by rw [List.length_drop, BitVec.toNat_ofInt]; omega
 refine O.mv (O.lssU (m := 64) rfl rfl (O.nil (hK3 _ _ (C.condD rfl (fun c12 => ?_) (fun c12 => ?_)))))
 ·
  refine C.seqK fun K4 hK4 => C.region (O.asg (O.asg (O.nil (hK4 _ _ (C.ret (Outs.two rfl rfl rfl ?_))))))
  exact ⟨_, [], 4, k, rfl, (ho.keep e1), OwnF.nil _ _ _ _, .inr ⟨rfl, by rw [BitVec.lt_def, h10] at c12; exact c12, rfl⟩, (Ext.nw (Ext.refl _ _) e1)⟩
 ·
  have hnk : n.toNat ≤ l.length - k := by rw [BitVec.lt_def, h10] at c12; omega
  refine C.skip (hK2 _ _ (C.seqK fun K5 hK5 => C.region (O.mv (O.call call196 (args1 rfl) (rest_spec b vr l k F _ (ho.keep e1) (hl.keep e1) hk (fun j hj => by have q1 := hF j hj; omega)) ?_))))
  rintro v_14 w2 ⟨e2, h14⟩
  have z2 := e2.size
  refine O.mv ?_
  have hb16 := Sl.sub (P := Tryz.prog) (0) (n.toNat) underlying30 sizeOf5 (by rfl) h14 (Nat.zero_le _) (by rw [List.length_drop]; omega)
  obtain ⟨v16, hs16, hr16⟩ := hb16
  refine O.subR rfl hr16 (.inl ⟨rfl, rfl⟩) (.inr ⟨_, _, rfl, rfl⟩) (O.call call127 (args1 rfl) (cloneB_spec _ _ _ _ hs16 (by simp; omega)) ?_)
  rintro v_17 w3 ⟨e3, h17⟩
  have z3 := e3.size
  rw [List.drop_zero] at h17
  have h17s := h17.sl
  refine O.asg (O.nil (hK5 _ _ (C.seqK fun K6 hK6 => C.region (O.mv (O.nilChk rfl (O.fieldAd underlying234 rfl sizeOf3 (by decide) rfl ?_))))))
  have t0 := ((ho.keep e1).keep e2).keep e3
  refine O.loadO isAgg3 rfl t0 rfl (O.mv (O.convU64I underlying110 underlying3 rfl (O.cast (v' := .int .i64 (n.toNat : Int)) (congrArg (Value.int .i64) (by rw [BitVec.toInt_eq_toNat_cond, if_pos (by omega)])) (O.addI rfl rfl (by unfold InI; omega) (O.cast (v' := .int .i64 ((k + n.toNat : Nat) : Int)) (congrArg (Value.int .i64) (by omega)) (O.nilChk rfl (O.fieldAd underlying234 rfl sizeOf3 (by decide) rfl (O.store sizeOf3 rfl rfl rfl t0 (by simp) (fun w4 hs4 e4 z4 => ?_)))))))))
  try simp only [Nat.zero_add] at hs4
  refine O.nil (hK6 _ _ (C.seqK fun K7 hK7 => C.region (O.mv (O.asg (O.asg (O.nil (hK7 _ _ (C.ret (Outs.two rfl rfl rfl ?_)))))))))
  first
  | exact ⟨_, [], 4, k, rfl, hs4, OwnF.nil _ _ _ _, .inr ⟨rfl, by rw [BitVec.lt_def, h10] at c12; exact c12, rfl⟩, (Ext.nw (Ext.nw (Ext.nw (Ext.nw (Ext.refl _ _) e1) e2) e3) e4)⟩
  | exact ⟨_, _, 0, k + n.toNat, rfl, hs4, ((h17.keepM e4 (fun k hk h => by have := h17.bk_ge k hk; (try dsimp only at h); omega))).low (by omega), .inl ⟨rfl, hnk, rfl, rfl⟩, (Ext.nw (Ext.nw (Ext.nw (Ext.nw (Ext.refl _ _) e1) e2) e3) e4)⟩
set_option maxHeartbeats 1000000 in
theorem rstr1_spec (b : Nat) (vr : Value) (l : List UInt8) (k : Nat) (F : Nat → Prop) (bm : Nat) (most : Int) (w : World) (ho : Own w b 234 [.bool true, vr, .int .i64 ((k : Int))]) (hl : Sl byteE w F vr l) (hk : k ≤ l.length) (hF : ∀ j, F j → j ≠ b ∧ j < w.heap.size) (hL : l.length ≤ 1000000) (hm : Own w bm 3 [.int .i64 most]) (hne : bm ≠ b) (hmost : InI most) :
 Ret Tryz.prog 192 #[.pointer (some ⟨b, 0, none⟩), .pointer (some ⟨bm, 0, none⟩)] w (fun v w' => ∃ (s : List UInt8) (e : Int) (k' : Nat), v = .tuple #[str s, .int .i64 e] ∧ Own w' b 234 [.bool true, vr, .int .i64 ((k' : Int))] ∧ ((e = 0 ∧ (s.length : Int) ≤ most ∧ Cn.Seg (Cn.strB s) l k k') ∨ (0 < e ∧ True ∧ Cn.No (fun s : List UInt8 => (s.length : Int) ≤ most) Cn.strB l k)) ∧ Ext (fun j => j = b) w w') := by
 have _hF9 := hF
 have _hk9 := hk
 have hbl := ho.lt
 have hll := hl.le
 refine enT [.pointer (some ⟨b, 0, none⟩), .pointer (some ⟨bm, 0, none⟩)] 33 func192 rfl rfl (C.seqK fun K1 hK1 => C.region (O.asg (O.asg (O.nil (hK1 _ _ (C.seqK fun K2 hK2 => C.region (O.mv (O.call call129 (args2 rfl rfl) (rdNum_spec b vr l k F 18446744073709551615#64 _ ho hl hk (fun j hj => by have q1 := hF j hj; omega) hL) ?_))))))))
 rintro v_10 w1 ⟨nv10, env10, knv10, rfl, hov10, hcv10, e1⟩
 have z1 := e1.size
 refine O.mv (O.extract rfl rfl (O.extract rfl rfl (O.asg (O.asg (O.nil (hK2 _ _ (C.seqK fun K3 hK3 => C.seqK fun K4 hK4 => C.region (O.mv (O.neqI rfl rfl (O.nil (hK4 _ _ (C.condD rfl (fun c14 => ?_) (fun c14 => ?_)))))))))))))
 ·
  refine C.seqK fun K5 hK5 => C.region (O.mv (O.asg (O.asg (O.nil (hK5 _ _ (C.ret (Outs.two rfl rfl rfl ?_)))))))
  (rcases hcv10 with ⟨q1, _⟩ | ⟨q1, _, q3, q4⟩
   ·exact absurd q1 c14
   ·exact ⟨[], env10, knv10, rfl, hov10, .inr ⟨q1, trivial, Cn.no_str_len (q4.mono fun q _ => by have h9 := q.isLt; show q.toNat ≤ 18446744073709551615; omega) (by omega)⟩, (Ext.nw (Ext.refl _ _) e1)⟩)
 ·
  obtain ⟨q1, hs10⟩ : env10 = 0 ∧ Cn.Seg (Cn.num nv10.toNat) l k knv10 := by
   rcases hcv10 with ⟨q1, _, q2⟩ | ⟨q1, _⟩
   ·exact ⟨q1, q2⟩
   ·exfalso; omega
  have hk10 := hs10.2.2
  refine C.skip (hK3 _ _ (C.seqK fun K6 hK6 => C.seqK fun K7 hK7 => C.region ?_))
  have t0 := hm.keepM e1 (by intro h; (try dsimp only at h); omega)
  refine O.loadO isAgg3 rfl t0 rfl (O.lssI rfl rfl (O.mv (O.splitD (x := .tmp 18) rfl (fun c18 => ?_) (fun c18 => ?_))))
  ·
   refine O.no rfl (noB (isT rfl c18) rfl) (O.no rfl (noB (isT rfl c18) rfl) (O.no rfl (noB (isT rfl c18) rfl) (O.no rfl (noB (isT rfl c18) rfl) (O.pickT (isT rfl c18) (O.nil (hK7 _ _ (C.condT rfl (C.seqK fun K8 hK8 => C.region (O.asg (O.asg (O.nil (hK8 _ _ (C.ret (Outs.two rfl rfl rfl ?_))))))))))))))
   first
   | (rcases hcv10 with ⟨q1, _⟩ | ⟨q1, _, q3, q4⟩
      ·exact absurd q1 c14
      ·exact ⟨[], env10, knv10, rfl, hov10, .inr ⟨q1, trivial, Cn.no_str_len (q4.mono fun q _ => by have h9 := q.isLt; show q.toNat ≤ 18446744073709551615; omega) (by omega)⟩, (Ext.nw (Ext.refl _ _) e1)⟩)
   | exact ⟨[], 5, knv10, rfl, hov10, .inr ⟨by decide, trivial, Cn.no_str hs10 (.inl (by have := nv10.isLt; first | omega | (rw [BitVec.lt_def, BitVec.toNat_ofInt] at c23; unfold InI at hmost; omega)))⟩, (Ext.nw (Ext.refl _ _) e1)⟩
  ·
   refine O.yes rfl (isF rfl c18) (O.mv (O.yes rfl (isF rfl c18) (O.loadO isAgg3 rfl t0 rfl (O.yes rfl (isF rfl c18) (O.convIU (m' := 64) underlying3 underlying110 rfl rfl rfl (O.yes rfl (isF rfl c18) (O.gtrU (m := 64) rfl rfl (O.pickF (isF rfl c18) (O.nil (hK7 _ _ (C.condD rfl (fun c23 => ?_) (fun c23 => ?_))))))))))))
   ·
    refine C.seqK fun K9 hK9 => C.region (O.asg (O.asg (O.nil (hK9 _ _ (C.ret (Outs.two rfl rfl rfl ?_))))))
    first
    | (rcases hcv10 with ⟨q1, _⟩ | ⟨q1, _, q3, q4⟩
       ·exact absurd q1 c14
       ·exact ⟨[], env10, knv10, rfl, hov10, .inr ⟨q1, trivial, Cn.no_str_len (q4.mono fun q _ => by have h9 := q.isLt; show q.toNat ≤ 18446744073709551615; omega) (by omega)⟩, (Ext.nw (Ext.refl _ _) e1)⟩)
    | exact ⟨[], 5, knv10, rfl, hov10, .inr ⟨by decide, trivial, Cn.no_str hs10 (.inl (by have := nv10.isLt; first | omega | (rw [BitVec.lt_def, BitVec.toNat_ofInt] at c23; unfold InI at hmost; omega)))⟩, (Ext.nw (Ext.refl _ _) e1)⟩
   ·
    refine C.skip (hK6 _ _ (C.seqK fun K10 hK10 => C.region (O.mv (O.mv (O.call call193 (args2 rfl rfl) (rtake_spec b vr l knv10 F nv10 _ hov10 (hl.keepA e1) hk10 (fun j hj => by have q1 := hF j hj; omega) hL) ?_)))))
    rintro v_27 w2 ⟨vbv27, sv27, env27, knv27, rfl, hov27, hbv27, hcv27, e2⟩
    have z2 := e2.size
    have hb27s := hbv27.sl
    refine O.mv (O.extract rfl rfl (O.extract rfl rfl (O.asg (O.asg (O.nil (hK10 _ _ (C.seqK fun K11 hK11 => C.region (O.mv (O.bytesS underlying30 underlying5 underlying9 rfl hb27s (O.mv (O.asg (O.asg (O.nil (hK11 _ _ (C.ret (Outs.two rfl rfl rfl ?_))))))))))))))))
    first
    | (rcases hcv10 with ⟨q1, _⟩ | ⟨q1, _, q3, q4⟩
       ·exact absurd q1 c14
       ·exact ⟨[], env10, knv10, rfl, hov27, .inr ⟨q1, trivial, Cn.no_str_len (q4.mono fun q _ => by have h9 := q.isLt; show q.toNat ≤ 18446744073709551615; omega) (by omega)⟩, (Ext.nw (Ext.nw (Ext.refl _ _) e1) e2)⟩)
    | exact ⟨[], 5, knv10, rfl, hov27, .inr ⟨by decide, trivial, Cn.no_str hs10 (.inl (by have := nv10.isLt; first | omega | (rw [BitVec.lt_def, BitVec.toNat_ofInt] at c23; unfold InI at hmost; omega)))⟩, (Ext.nw (Ext.nw (Ext.refl _ _) e1) e2)⟩
    | (rcases hcv27 with ⟨q1, q2, q3, q4⟩ | ⟨q1, q2, q3⟩
       ·exact ⟨sv27, env27, knv27, rfl, hov27, .inl ⟨q1, by rw [q4, List.length_take, List.length_drop]; rw [BitVec.lt_def, BitVec.toNat_ofInt] at c23; unfold InI at hmost; omega, by rw [q3, q4]; exact Cn.seg_str hs10 q2⟩, (Ext.nw (Ext.nw (Ext.refl _ _) e1) e2)⟩
       ·exact ⟨sv27, env27, knv27, rfl, hov27, .inr ⟨by omega, trivial, Cn.no_str hs10 (.inr q2)⟩, (Ext.nw (Ext.nw (Ext.refl _ _) e1) e2)⟩)
set_option maxHeartbeats 1000000 in
theorem wholeS_spec (b : Nat) (vr : Value) (l : List UInt8) (k : Nat) (F : Nat → Prop) (bm : Nat) (most : Int) (w : World) (ho : Own w b 234 [.bool true, vr, .int .i64 ((k : Int))]) (hl : Sl byteE w F vr l) (hk : k ≤ l.length) (hF : ∀ j, F j → j ≠ b ∧ j < w.heap.size) (hL : l.length ≤ 1000000) (hm : Own w bm 3 [.int .i64 most]) (hne : bm ≠ b) (hmost : InI most) :
 Ret Tryz.prog 191 #[.pointer (some ⟨b, 0, none⟩), .func (.func 192) #[] #[.pointer (some ⟨bm, 0, none⟩)]] w (fun v w' => ∃ (s : List UInt8) (e : Int) (k' : Nat), v = .tuple #[str s, .int .i64 e] ∧ Own w' b 234 [.bool true, vr, .int .i64 ((k' : Int))] ∧ ((e = 0 ∧ (s.length : Int) ≤ most ∧ Cn.Seg (Cn.strB s) l k k') ∨ (0 < e ∧ k' = k ∧ Cn.No (fun s : List UInt8 => (s.length : Int) ≤ most) Cn.strB l k)) ∧ Ext (fun j => j = b) w w') := by
 have _hF9 := hF
 have _hk9 := hk
 have hbl := ho.lt
 have hll := hl.le
 refine enT [.pointer (some ⟨b, 0, none⟩), .func (.func 192) #[] #[.pointer (some ⟨bm, 0, none⟩)]] 32 func191 rfl rfl (C.seqK fun K1 hK1 => C.region (O.asg (O.asg (O.nil (hK1 _ _ (C.seqK fun K2 hK2 => C.region (O.asg (O.nil (hK2 _ _ (C.seqK fun K3 hK3 => C.seqK fun K4 hK4 => C.region (O.mv (O.call call188 (args1 rfl) (zero_spec b vr l _ F _ ho hl (by omega) (fun j hj => by have q1 := hF j hj; omega)) ?_))))))))))))
 rintro v_11 w1 ⟨rfl, hw_⟩
 replace hw_ := hw_.symm
 subst hw_
 refine O.nil (hK4 _ _ (C.condF rfl (C.skip (hK3 _ _ (C.seqK fun K5 hK5 => C.region (O.mv (O.nilChk rfl (O.fieldAd underlying234 rfl sizeOf3 (by decide) rfl (O.loadO isAgg3 rfl ho rfl (O.asg (O.nil (hK5 _ _ (C.seqK fun K6 hK6 => C.region (O.mv (O.mv (O.callV (vs := [.pointer (some ⟨b, 0, none⟩)]) call192 rfl (args1 rfl) (rstr1_spec b vr l k F bm most _ ho hl hk (fun j hj => by have q1 := hF j hj; omega) hL hm hne hmost) ?_))))))))))))))))
 rintro v_20 w1 ⟨nv20, env20, knv20, rfl, hov20, hcv20, e1⟩
 have z1 := e1.size
 refine O.mv (O.extract rfl rfl (O.extract rfl rfl (O.asg (O.asg (O.nil (hK6 _ _ (C.seqK fun K7 hK7 => C.seqK fun K8 hK8 => C.region (O.mv (O.neqI rfl rfl (O.nil (hK8 _ _ (C.condD rfl (fun c24 => ?_) (fun c24 => ?_)))))))))))))
 ·
  refine C.seqK fun K9 hK9 => C.region (O.mv (O.mv (O.cast (v' := .int .i64 (k : Int)) rfl (O.nilChk rfl (O.fieldAd underlying234 rfl sizeOf3 (by decide) rfl (O.store sizeOf3 rfl rfl rfl hov20 (by simp) (fun w2 hs2 e2 z2 => ?_)))))))
  try simp only [Nat.zero_add] at hs2
  refine O.nil (hK9 _ _ (C.seqK fun K10 hK10 => C.region (O.mv (O.mv (O.asg (O.asg (O.nil (hK10 _ _ (C.ret (Outs.two rfl rfl rfl ?_))))))))))
  rcases hcv20 with ⟨q1, q2⟩ | ⟨q1, q2⟩
  ·first
   | exact absurd q1 c24
   | exact ⟨nv20, 0, knv20, rfl, hs2, .inl ⟨rfl, q2⟩, (Ext.nw (Ext.nw (Ext.refl _ _) e1) e2)⟩
  ·first
   | exact ⟨[], env20, k, rfl, hs2, .inr ⟨q1, rfl, q2.2⟩, (Ext.nw (Ext.nw (Ext.refl _ _) e1) e2)⟩
   | omega
 ·
  refine C.skip (hK7 _ _ (C.seqK fun K11 hK11 => C.region (O.mv (O.asg (O.asg (O.nil (hK11 _ _ (C.ret (Outs.two rfl rfl rfl ?_)))))))))
  rcases hcv20 with ⟨q1, q2⟩ | ⟨q1, q2⟩
  ·first
   | exact absurd q1 c24
   | exact ⟨nv20, 0, knv20, rfl, hov20, .inl ⟨rfl, q2⟩, (Ext.nw (Ext.refl _ _) e1)⟩
  ·first
   | exact ⟨[], env20, k, rfl, hov20, .inr ⟨q1, rfl, q2.2⟩, (Ext.nw (Ext.refl _ _) e1)⟩
   | omega
set_option maxHeartbeats 1000000 in
theorem rdStr_spec (b : Nat) (vr : Value) (l : List UInt8) (k : Nat) (F : Nat → Prop) (most : Int) (w : World) (ho : Own w b 234 [.bool true, vr, .int .i64 ((k : Int))]) (hl : Sl byteE w F vr l) (hk : k ≤ l.length) (hF : ∀ j, F j → j ≠ b ∧ j < w.heap.size) (hL : l.length ≤ 1000000) (hmost : InI most) :
 Ret Tryz.prog 130 #[.pointer (some ⟨b, 0, none⟩), .int .i64 (most)] w (fun v w' => ∃ (s : List UInt8) (e : Int) (k' : Nat), v = .tuple #[str s, .int .i64 e] ∧ Own w' b 234 [.bool true, vr, .int .i64 ((k' : Int))] ∧ ((e = 0 ∧ (s.length : Int) ≤ most ∧ Cn.Seg (Cn.strB s) l k k') ∨ (0 < e ∧ k' = k ∧ Cn.No (fun s : List UInt8 => (s.length : Int) ≤ most) Cn.strB l k)) ∧ Ext (fun j => j = b) w w') := by
 have _hF9 := hF
 have _hk9 := hk
 have hbl := ho.lt
 have hll := hl.le
 refine enT [.pointer (some ⟨b, 0, none⟩), .int .i64 (most)] 11 func130 rfl rfl (C.seqK fun K1 hK1 => C.region (O.box (v := .int .i64 (most)) rfl (fun b3 w1 hb3 hz3 e1 => ?_)))
 have z1 := e1.size
 have h3 := hz3.own
 have hl3 := h3.lt
 refine O.asg (O.asg (O.nil (hK1 _ _ (C.seqK fun K2 hK2 => C.region (O.mv (O.makeF (v1 := []) rfl rfl (O.call call191 (args2 rfl rfl) (wholeS_spec b vr l k F b3 most _ (ho.keep e1) (hl.keep e1) hk (fun j hj => by have q1 := hF j hj; omega) hL h3 (by omega) hmost) ?_)))))))
 rintro v_8 w2 ⟨nv8, env8, knv8, rfl, hov8, hcv8, e2⟩
 have z2 := e2.size
 refine O.extract rfl rfl (O.extract rfl rfl (O.asg (O.asg (O.nil (hK2 _ _ (C.ret (Outs.two rfl rfl rfl ?_)))))))
 exact ⟨nv8, env8, knv8, rfl, hov8, hcv8, (Ext.nw (Ext.nw (Ext.refl _ _) e1) e2)⟩
theorem rdAt_spec (b : Nat) (vr : Value) (l : List UInt8) (k : Nat) (F : Nat → Prop) (w : World) (ho : Own w b 234 [.bool true, vr, .int .i64 ((k : Int))]) (hl : Sl byteE w F vr l) (hk : k ≤ l.length) (hF : ∀ j, F j → j ≠ b ∧ j < w.heap.size) :
 Ret Tryz.prog 132 #[.pointer (some ⟨b, 0, none⟩)] w (fun v w' => v = .int .i64 (k : Int) ∧ w' = w) := by
 have _hF9 := hF
 have _hk9 := hk
 have hbl := ho.lt
 have hll := hl.le
 refine enT [.pointer (some ⟨b, 0, none⟩)] 9 func132 rfl rfl (C.seqK fun K1 hK1 => C.region (O.asg (O.nil (hK1 _ _ (C.seqK fun K2 hK2 => C.seqK fun K3 hK3 => C.region (O.mv (O.call call188 (args1 rfl) (zero_spec b vr l _ F _ ho hl (by omega) (fun j hj => by have q1 := hF j hj; omega)) ?_)))))))
 rintro v_4 w1 ⟨rfl, hw_⟩
 replace hw_ := hw_.symm
 subst hw_
 refine O.nil (hK3 _ _ (C.condF rfl (C.skip (hK2 _ _ (C.seqK fun K4 hK4 => C.region (O.mv (O.nilChk rfl (O.fieldAd underlying234 rfl sizeOf3 (by decide) rfl (O.loadO isAgg3 rfl ho rfl (O.asg (O.nil (hK4 _ _ (C.ret (Outs.one rfl rfl ?_))))))))))))))
 exact ⟨rfl, rfl⟩
theorem rdLeft_spec (b : Nat) (vr : Value) (l : List UInt8) (k : Nat) (F : Nat → Prop) (w : World) (ho : Own w b 234 [.bool true, vr, .int .i64 ((k : Int))]) (hl : Sl byteE w F vr l) (hk : k ≤ l.length) (hF : ∀ j, F j → j ≠ b ∧ j < w.heap.size) :
 Ret Tryz.prog 134 #[.pointer (some ⟨b, 0, none⟩)] w (fun v w' => v = .int .i64 ((l.length - k : Nat) : Int) ∧ Le w w') := by
 have _hF9 := hF
 have _hk9 := hk
 have hbl := ho.lt
 have hll := hl.le
 refine enT [.pointer (some ⟨b, 0, none⟩)] 8 func134 rfl rfl (C.seqK fun K1 hK1 => C.region (O.asg (O.nil (hK1 _ _ (C.seqK fun K2 hK2 => C.seqK fun K3 hK3 => C.region (O.mv (O.call call188 (args1 rfl) (zero_spec b vr l _ F _ ho hl (by omega) (fun j hj => by have q1 := hF j hj; omega)) ?_)))))))
 rintro v_4 w1 ⟨rfl, hw_⟩
 replace hw_ := hw_.symm
 subst hw_
 refine O.nil (hK3 _ _ (C.condF rfl (C.skip (hK2 _ _ (C.seqK fun K4 hK4 => C.region (O.mv (O.call call196 (args1 rfl) (rest_spec b vr l k F _ ho hl hk (fun j hj => by have q1 := hF j hj; omega)) ?_)))))))
 rintro v_6 w1 ⟨e1, h6⟩
 have z1 := e1.size
 refine O.len underlying30 rfl h6 (O.cast (v' := .int .i64 ((l.length - k : Nat) : Int)) (congrArg (Value.int .i64) (by rw [List.length_drop])) (O.asg (O.nil (hK4 _ _ (C.ret (Outs.one rfl rfl ?_))))))
 exact ⟨rfl, e1⟩
theorem rdNew_spec (v0 : Value) (l : List UInt8) (F : Nat → Prop) (w : World) (hl : Sl byteE w F v0 l) (hL : l.length ≤ 1000000) :
 Ret Tryz.prog 128 #[v0] w (fun v w' => ∃ (b : Nat) (vr : Value), v = .pointer (some ⟨b, 0, none⟩) ∧ Own w' b 234 [.bool true, vr, .int .i64 0] ∧ Sl byteE w' (fun j => w.heap.size ≤ j ∧ j < b) vr l ∧ w.heap.size ≤ b ∧ b < w'.heap.size ∧ Le w w') := by
 obtain ⟨ie5, ti5, ts5, tb5, tz5⟩ := inf5
 refine enT [v0] 7 func128 rfl rfl (C.seqK fun K1 hK1 => C.region (O.asg (O.nil (hK1 _ _ (C.seqK fun K2 hK2 => C.region (O.mv (O.call call127 (args1 rfl) (cloneB_spec _ l _ _ hl (by omega)) ?_)))))))
 rintro v_4 w1 ⟨e1, h4⟩
 have z1 := e1.size
 have h4s := h4.sl
 have h4b := h4.bk_ge
 obtain ⟨a4, rfl⟩ := h4s.slv
 refine O.build (cells := #[.bool true, slv a4, .int .i64 0]) rfl (by kernel_rfl) (O.box (v := .agg #[.bool true, slv a4, .int .i64 0]) rfl (fun b6 w2 hb6 hz6 e2 => ?_))
 have z2 := e2.size
 have h6 := hz6.own
 have hl6 := h6.lt
 refine O.asg (O.nil (hK2 _ _ (C.ret (Outs.one rfl rfl ?_))))
 exact ⟨b6, slv a4, rfl, h6, ((h4s.keep e2)).weak (by intro j hj; have := h4b j hj; omega), by omega, hl6, (Ext.trans e1 e2)⟩
end Go.Proofs.YtpbcafkcfobngaaGreatDoor
end
section
namespace Go.Proofs.YtpbcafkcfobngaaGreatDoor
open Go.Pn Go.RowKit Go.Proofs _root_.Go.Proofs.Tryz
attribute [local irreducible] O C D
theorem Mx.keepM {M : Nat → Prop} {w w' : World} (h : Mx w) (e : Ext M w w') (hM : ¬ M 0) : Mx w' := by obtain ⟨m, hm⟩ := h.h; exact ⟨m, hm.keepM e hM⟩
theorem Mx.lt {w : World} (h : Mx w) : 0 < w.heap.size := by obtain ⟨m, hm⟩ := h.h; exact hm.lt
theorem must_spec (e : Int) (w : World) :
 RetZ Tryz.prog 266 #[.int .i64 (e)] w (fun v w' => v = .tuple #[] ∧ e = 0 ∧ Le w w') (fun ch w' => ch = [{ v := .iface 282 (.agg #[]), recovered := false }] ∧ e ≠ 0 ∧ Le w w') := by
 refine enterZ (args := [.int .i64 (e)]) (n := 6) func266 rfl rfl (leB rfl) (C.seqK fun K1 hK1 => C.region (O.mv (O.neqI rfl rfl (O.nil (hK1 _ _ (C.condD rfl (fun c3 => ?_) (fun c3 => ?_)))))))
 ·
  refine C.region (O.build (cells := #[]) rfl (by kernel_rfl) (O.mkI underlying282 rfl rfl (O.panics rfl ?_)))
  exact ⟨rfl, c3, (Le.refl _)⟩
 ·
  refine C.skip (Outs.none rfl ?_)
  exact ⟨rfl, by omega, (Le.refl _)⟩
theorem num_spec (b : Nat) (vr : Value) (l : List UInt8) (k : Nat) (F : Nat → Prop) (most : BitVec 64) (w : World) (ho : Own w b 234 [.bool true, vr, .int .i64 ((k : Int))]) (hl : Sl byteE w F vr l) (hk : k ≤ l.length) (hF : ∀ j, F j → j ≠ b ∧ j < w.heap.size) (hL : l.length ≤ 1000000) :
 RetZ Tryz.prog 247 #[.pointer (some ⟨b, 0, none⟩), .int .u64 ((most).toNat : Int)] w (fun v w' => ∃ (n : BitVec 64) (k' : Nat), v = .int .u64 (n.toNat : Int) ∧ Own w' b 234 [.bool true, vr, .int .i64 ((k' : Int))] ∧ n.toNat ≤ most.toNat ∧ Cn.SegN n l k k' ∧ Ext (fun j => j = b) w w') (fun ch w' => ch = [{ v := .iface 282 (.agg #[]), recovered := false }] ∧ Cn.NumQ most.toNat l k ∧ Ext (fun j => j = b) w w') := by
 have _hF9 := hF
 have _hk9 := hk
 have hbl := ho.lt
 have hll := hl.le
 refine enterZ (args := [.pointer (some ⟨b, 0, none⟩), .int .u64 ((most).toNat : Int)]) (n := 16) func247 rfl rfl (leB rfl) (C.seqK fun K1 hK1 => C.region (O.asg (O.nil (hK1 _ _ (C.seqK fun K2 hK2 => C.region (O.mv (O.mv (O.call call129 (args2 rfl rfl) (rdNum_spec b vr l k F most _ ho hl hk (fun j hj => by have q1 := hF j hj; omega) hL) ?_))))))))
 rintro v_10 w1 ⟨nv10, env10, knv10, rfl, hov10, hcv10, e1⟩
 have z1 := e1.size
 refine O.mv (O.extract rfl rfl (O.extract rfl rfl (O.asg (O.asg (O.nil (hK2 _ _ (C.seqK fun K3 hK3 => C.region (O.mv (O.callZ call266 (args1 rfl) (must_spec _ _) (fun ch_ wz_ hz_ => ?_) ?_)))))))))
 ·
  rcases hcv10 with ⟨q1, _⟩ | ⟨q1, q2, q3, q4⟩
  ·exact absurd q1 hz_.2.1
  ·exact ⟨hz_.1, q4, Ext.trans (Ext.nw (Ext.refl _ _) e1) (Le.to hz_.2.2)⟩
 rintro v_14 w2 ⟨rfl, hzv14, e2⟩
 have z2 := e2.size
 refine O.nil (hK3 _ _ (C.seqK fun K4 hK4 => C.region (O.mv (O.asg (O.nil (hK4 _ _ (C.ret (Outs.one rfl rfl ?_))))))))
 rcases hcv10 with ⟨q1, q2, q3⟩ | ⟨q1, _⟩
 ·exact ⟨nv10, knv10, rfl, (hov10.keep e2), q2, q3, (Ext.nw (Ext.nw (Ext.refl _ _) e1) e2)⟩
 ·exfalso; omega
theorem one_spec (b : Nat) (vr : Value) (l : List UInt8) (k : Nat) (F : Nat → Prop) (w : World) (ho : Own w b 234 [.bool true, vr, .int .i64 ((k : Int))]) (hl : Sl byteE w F vr l) (hk : k ≤ l.length) (hF : ∀ j, F j → j ≠ b ∧ j < w.heap.size) (hL : l.length ≤ 1000000) :
 RetZ Tryz.prog 267 #[.pointer (some ⟨b, 0, none⟩)] w (fun v w' => ∃ (d : Dt.Dot) (k' : Nat), v = Dt.dv d ∧ Own w' b 234 [.bool true, vr, .int .i64 ((k' : Int))] ∧ Cn.dotQ d ∧ Cn.Seg (Cn.dotB d) l k k' ∧ Ext (fun j => j = b) w w') (fun ch w' => ch = [{ v := .iface 282 (.agg #[]), recovered := false }] ∧ Cn.No Cn.dotQ Cn.dotB l k ∧ Ext (fun j => j = b) w w') := by
 have _hF9 := hF
 have _hk9 := hk
 have hbl := ho.lt
 have hll := hl.le
 refine enterZ (args := [.pointer (some ⟨b, 0, none⟩)]) (n := 12) func267 rfl rfl (leB rfl) (C.seqK fun K1 hK1 => C.region (O.alloc zeroValue112 (fun b2 w1 hb2 hz2 e1 => ?_)))
 have z1 := e1.size
 have h2 := hz2.own
 have hl2 := h2.lt
 refine O.nil (hK1 _ _ (C.seqK fun K2 hK2 => C.region (O.mv (O.callZ call247 (args2 rfl rfl) (num_spec b vr l k F 65535#64 _ (ho.keep e1) (hl.keep e1) hk (fun j hj => by have q1 := hF j hj; omega) hL) (fun ch_ wz_ hz_ => ?_) ?_))))
 ·
  exact ⟨hz_.1, Cn.no_dot1 hz_.2.1, Ext.trans (Ext.nw (Ext.refl _ _) e1) hz_.2.2⟩
 rintro v_5 w2 ⟨nv5, knv5, rfl, hov5, hqv5, hsv5, e2⟩
 have z2 := e2.size
 refine O.asg (O.nil (hK2 _ _ (C.seqK fun K3 hK3 => C.region (O.mv (O.convU64I underlying110 underlying3 rfl (O.mv (O.callZ call247 (args2 rfl rfl) (num_spec b vr l knv5 F 4294967295#64 _ hov5 ((hl.keep e1).keepA e2) hsv5.2.2 (fun j hj => by have q1 := hF j hj; omega) hL) (fun ch_ wz_ hz_ => ?_) ?_)))))))
 ·
  exact ⟨hz_.1, Cn.no_dot2 hsv5 hqv5 hz_.2.1, Ext.trans (Ext.nw (Ext.nw (Ext.refl _ _) e1) e2) hz_.2.2⟩
 rintro v_9 w3 ⟨nv9, knv9, rfl, hov9, hqv9, hsv9, e3⟩
 have z3 := e3.size
 refine O.convU64I underlying110 underlying3 rfl (O.build (cells := #[.int .i64 nv5.toInt, .int .i64 nv9.toInt]) rfl (by kernel_rfl) (O.storeA (vs := [.int .i64 nv5.toInt, .int .i64 nv9.toInt]) sizeOf112 rfl rfl rfl (by simp [Value.oneCell']) ((h2.keepM e2 (by intro h; (try dsimp only at h); omega)).keepM e3 (by intro h; (try dsimp only at h); omega)) (leB rfl) (fun w4 hs4 e4 z4 => O.nil (hK3 _ _ (C.ret (Outs.cellA rfl isAgg112 sizeOf112 rfl hs4 rfl ?_))))))
 exact ⟨(nv5.toInt, nv9.toInt), knv9, rfl, (hov9.keepM e4 (by intro h; (try dsimp only at h); omega)), Cn.dotQ_mk hqv5 hqv9, Cn.seg_dot hsv5 hsv9, (Ext.nw (Ext.nw (Ext.nw (Ext.nw (Ext.refl _ _) e1) e2) e3) e4)⟩
set_option maxHeartbeats 1000000 in
theorem ddots_spec (b : Nat) (vr : Value) (l : List UInt8) (k : Nat) (F : Nat → Prop) (w : World) (ho : Own w b 234 [.bool true, vr, .int .i64 ((k : Int))]) (hl : Sl byteE w F vr l) (hk : k ≤ l.length) (hF : ∀ j, F j → j ≠ b ∧ j < w.heap.size) (hL : l.length ≤ 1000000) :
 RetZ Tryz.prog 265 #[.pointer (some ⟨b, 0, none⟩)] w (fun v w' => ∃ (ds : List Dt.Dot) (k' : Nat), Own w' b 234 [.bool true, vr, .int .i64 ((k' : Int))] ∧ Fre Dt.dotF 112 w' (fun j => w.heap.size ≤ j ∧ j < w'.heap.size) v ds ∧ ds.length ≤ l.length ∧ Cn.manyQ Cn.dotQ ds ∧ Cn.Seg (Cn.manyB Cn.dotB ds) l k k' ∧ Ext (fun j => j = b) w w') (fun ch w' => ch = [{ v := .iface 282 (.agg #[]), recovered := false }] ∧ Cn.No (Cn.manyQ Cn.dotQ) (Cn.manyB Cn.dotB) l k ∧ Ext (fun j => j = b) w w') := by
 have _hF9 := hF
 have _hk9 := hk
 have hbl := ho.lt
 have hll := hl.le
 obtain ⟨ie112, ti112, ts112, tb112, tz112⟩ := inf112
 refine enterZ (args := [.pointer (some ⟨b, 0, none⟩)]) (n := 17) func265 rfl rfl (leB rfl) (C.seqK fun K1 hK1 => C.region (O.asg (O.nil (hK1 _ _ (C.seqK fun K2 hK2 => C.region (O.asg (O.nil (hK2 _ _ (C.seqK fun K3 hK3 => C.seqK fun K4 hK4 => C.region (O.mv (O.callZ call247 (args2 rfl rfl) (num_spec b vr l k F 18446744073709551615#64 _ ho hl hk (fun j hj => by have q1 := hF j hj; omega) hL) (fun ch_ wz_ hz_ => ?_) ?_)))))))))))
 ·
  exact ⟨hz_.1, Cn.no_many1 (Cn.numA_of hz_.2.1 (by decide)) Cn.dotB_ge (by omega), Ext.trans (Ext.refl _ _) hz_.2.2⟩
 rintro v_6 w1 ⟨nv6, knv6, rfl, hov6, hqv6, hsv6, e1⟩
 have z1 := e1.size
 refine O.asg (O.nil (hK4 _ _ (C.block fun K5 hK5 => C.loop0 (σ := List Dt.Dot × Value × Nat) (fun f0 w0 ⟨ds, vs, kc⟩ f wz => f 3 = vs ∧ f 4 = .int .u64 ((BitVec.ofNat 64 (nv6.toNat - ds.length)).toNat : Int) ∧ f 0 = f0 0 ∧ f 2 = f0 2 ∧ Ext (fun j => j = b) w wz ∧ Own wz b 234 [.bool true, vr, .int .i64 ((kc : Int))] ∧ OwnF Dt.dotF 112 w.heap.size wz vs ds ∧ ds.length ≤ nv6.toNat ∧ Cn.manyQ Cn.dotQ ds ∧ Cn.Seg (ds.flatMap Cn.dotB) l knv6 kc) (fun ⟨ds, vs, kc⟩ => nv6.toNat - ds.length) ([], .slice none 0 0, knv6) ?_ ?_)))
 ·
  refine ⟨rfl, (Eq.trans rfl (congrArg (fun q : BitVec 64 => Value.int .u64 (q.toNat : Int)) (by simp))), rfl, rfl, (Ext.nw (Ext.refl _ _) e1), hov6, (OwnF.nil _ _ _ _), ?_⟩
  exact ⟨Nat.zero_le _, Cn.manyQ_nil, Cn.Seg.nil hsv6.2.2⟩
 ·
  rintro ⟨ds, vs, kc⟩ f_1 w2 ⟨s3_1, s4_1, s0_1, s2_1, e_1, r0_1, r1_1, ⟨hj, hQ, hS⟩⟩
  have z_1 := e_1.size
  have r1_1s := r1_1.sl
  have hln := Cn.seg_len Cn.dotB_ge hS
  have hNl := nv6.isLt
  refine C.seqK fun K6 hK6 => C.seqK fun K7 hK7 => C.region (O.mv (O.gtrU (m := 64) (b := 0#64) s4_1 rfl (O.nil (hK7 _ _ (C.condD rfl (fun c8 => ?_) (fun c8 => ?_))))))
  ·
   have hj2 : ds.length < nv6.toNat := by have q := (Cn.pos_ofNat (m := nv6.toNat - ds.length) (by omega)).1 c8; omega
   refine C.skip (hK6 _ _ (C.seqK fun K8 hK8 => C.block fun K9 hK9 => C.region (O.mv (O.mv (O.callZ call267 (args1 s0_1) (one_spec b vr l kc F _ r0_1 (hl.keepA e_1) hS.2.2 (fun j hj => by have q1 := hF j hj; omega) hL) (fun ch_ wz_ hz_ => ?_) ?_)))))
   ·
    exact ⟨hz_.1, Cn.no_many2 hsv6 Cn.pre_dotQ hQ hS hj2 hz_.2.1, Ext.trans (Ext.nw (Ext.refl _ _) e_1) hz_.2.2⟩
   rintro v_13 w3 ⟨dv13, knv13, rfl, hov13, hqv13, hsv13, e3⟩
   have z3 := e3.size
   refine O.litG (G := Dt.dotF) [dv13] underlying41 ti112 ts112 tz112 rfl (by decide) (by decide) rfl (fun b14 w4 hb14 hz14 e4 => ?_)
   have z4 := e4.size
   have h14 := hz14.own
   have hq14 := Sl.litG (n := 1) h14 rfl (by unfold maxLen; omega)
   have t0 := r1_1.keepM e3 (fun k hk h => by have := r1_1.bk_ge k hk; (try dsimp only at h); omega)
   refine O.appF (G := Dt.dotF) underlying41 ti112 tz112 ts112 rfl s3_1 rfl (t0.keep e4) hq14 (by rw [tb112]; simp; omega) (by unfold maxLen; simp; omega) (by omega) (fun v15 w5 h15 e5 => ?_)
   have e5m : Ext (fun j => w.heap.size ≤ j) w4 w5 := e5.mono (fun j _ hj => by have := (t0.keep e4).bk_ge j hj; omega)
   have z5 := e5.size
   have h15s := h15.sl
   refine O.asg (O.nil (hK9 _ _ (hK8 _ _ (C.region (O.mv (O.subU (m := 64) (b := 1#64) rfl rfl s4_1 rfl (O.asg (O.nil (⟨(ds ++ [dv13], v15, knv13), ⟨rfl, (Eq.trans rfl (congrArg (fun q : BitVec 64 => Value.int .u64 (q.toNat : Int)) (by rw [Cn.dec_ofNat (by omega) (by omega), List.length_append]; rfl))), s0_1, s2_1, (Ext.nw (Ext.nw (Ext.nw (Ext.nw (Ext.refl _ _) e_1) e3) e4) e5m), ((hov13.keep e4).keepM e5 (by intro h; have := (t0.keep e4).bk_ge _ h; omega)), h15, ?_⟩, by show nv6.toNat - (ds ++ [dv13]).length < nv6.toNat - ds.length; rw [List.length_append]; show nv6.toNat - (ds.length + 1) < _; omega⟩)))))))))
   exact ⟨by rw [List.length_append]; exact hj2, Cn.manyQ_snoc hQ hqv13, Cn.Seg.snoc hS hsv13⟩
  ·
   have hj3 : ds.length = nv6.toNat := by have q := mt (Cn.pos_ofNat (m := nv6.toNat - ds.length) (by omega)).2 c8; omega
   refine C.exit (hK5 _ _ (hK3 _ _ (C.seqK fun K10 hK10 => C.region (O.mv (O.asg (O.nil (hK10 _ _ (C.ret (Outs.one rfl s3_1 ?_)))))))))
   exact ⟨ds, kc, r0_1, (r1_1).fre (fun j hj => by have := (r1_1).bk_ge j hj; exact ⟨by omega, by omega⟩), by omega, hQ, Cn.seg_many hsv6 hS hj3, (Ext.nw (Ext.refl _ _) e_1)⟩
set_option maxHeartbeats 1000000 in
theorem dseen_spec (b : Nat) (vr : Value) (l : List UInt8) (k : Nat) (F : Nat → Prop) (w : World) (ho : Own w b 234 [.bool true, vr, .int .i64 ((k : Int))]) (hl : Sl byteE w F vr l) (hk : k ≤ l.length) (hF : ∀ j, F j → j ≠ b ∧ j < w.heap.size) (hL : l.length ≤ 1000000) :
 RetZ Tryz.prog 246 #[.pointer (some ⟨b, 0, none⟩)] w (fun v w' => ∃ (v1 v2 : Value) (x : Cn.Ctx) (k' : Nat), v = .agg #[v1, v2] ∧ Own w' b 234 [.bool true, vr, .int .i64 ((k' : Int))] ∧ Fre Dt.dotF 112 w' (fun j => w.heap.size ≤ j ∧ j < w'.heap.size) v1 x.1 ∧ Fre Dt.dotF 112 w' (fun j => w.heap.size ≤ j ∧ j < w'.heap.size) v2 x.2 ∧ (x.1.length ≤ l.length ∧ x.2.length ≤ l.length) ∧ Cn.isCompact x = true ∧ Cn.Seg (Cn.ctxB x) l k k' ∧ Ext (fun j => j = b) w w') (fun ch w' => ch = [{ v := .iface 282 (.agg #[]), recovered := false }] ∧ Cn.No Cn.comp Cn.ctxB l k ∧ Ext (fun j => j = b) w w') := by
 have _hF9 := hF
 have _hk9 := hk
 have hbl := ho.lt
 have hll := hl.le
 refine enterZ (args := [.pointer (some ⟨b, 0, none⟩)]) (n := 16) func246 rfl rfl (leB rfl) (C.seqK fun K1 hK1 => C.region (O.alloc zeroValue44 (fun b2 w1 hb2 hz2 e1 => ?_)))
 have z1 := e1.size
 have h2 := hz2.own
 have hl2 := h2.lt
 refine O.nil (hK1 _ _ (C.seqK fun K2 hK2 => C.region (O.mv (O.callZ call265 (args1 rfl) (ddots_spec b vr l k F _ (ho.keep e1) (hl.keep e1) hk (fun j hj => by have q1 := hF j hj; omega) hL) (fun ch_ wz_ hz_ => ?_) ?_))))
 ·
  exact ⟨hz_.1, Cn.no_comp (Cn.no_ctx1 hz_.2.1), Ext.trans (Ext.nw (Ext.refl _ _) e1) hz_.2.2⟩
 rintro v_5 w2 ⟨dsv5, knv5, hov5, hlv5, hnv5, hqv5, hsv5, e2⟩
 have z2 := e2.size
 obtain ⟨p5, rfl⟩ := hlv5.slv
 have hls5 := hlv5.sl
 refine O.build (cells := #[slv p5, .slice none 0 0]) rfl (by kernel_rfl) (O.alloc zeroValue44 (fun b3 w3 hb3 hz3 e3 => ?_))
 have z3 := e3.size
 have h3 := hz3.own
 have hl3 := h3.lt
 refine O.storeA (vs := [slv p5, .slice none 0 0]) sizeOf44 rfl rfl rfl (by simp [slv, Value.oneCell']) h3 (leB rfl) (fun w4 hs4 e4 z4 => O.nil (hK2 _ _ (C.seqK fun K3 hK3 => C.region (O.mv (O.callZ call265 (args1 rfl) (ddots_spec b vr l knv5 F _ ((hov5.keep e3).keepM e4 (by intro h; (try dsimp only at h); omega)) ((((hl.keep e1).keepA e2).keep e3).keepA e4) hsv5.2.2 (fun j hj => by have q1 := hF j hj; omega) hL) (fun ch_ wz_ hz_ => ?_) ?_)))))
 ·
  exact ⟨hz_.1, Cn.no_comp (Cn.no_ctx2 hsv5 hqv5 hz_.2.1), Ext.trans (Ext.nw (Ext.nw (Ext.nw (Ext.nw (Ext.refl _ _) e1) e2) e3) e4) hz_.2.2⟩
 rintro v_8 w5 ⟨dsv8, knv8, hov8, hlv8, hnv8, hqv8, hsv8, e5⟩
 have z5 := e5.size
 obtain ⟨p8, rfl⟩ := hlv8.slv
 have hls8 := hlv8.sl
 refine O.fieldAd underlying44 rfl sizeOf41 (by decide) rfl (O.store sizeOf41 rfl rfl rfl (hs4.keepM e5 (by intro h; (try dsimp only at h); omega)) (by simp) (fun w6 hs6 e6 z6 => ?_))
 try simp only [Nat.zero_add] at hs6
 refine O.nil (hK3 _ _ (C.seqK fun K4 hK4 => C.seqK fun K5 hK5 => C.region (O.loadOA isAgg44 sizeOf44 rfl hs6 (leB rfl) (O.call call98 (args1 rfl) (isCompact_spec (slv p5) (slv p8) (dsv5, dsv8) (fun _ => True) _ ((((((hls5.keep e3).keepA e4).keepA e5).keepA e6)).weak fun _ _ => trivial) (((hls8.keepA e6)).weak fun _ _ => trivial)) ?_))))
 rintro v_11 w7 ⟨rfl, e7⟩
 have z7 := e7.size
 refine O.not rfl (O.nil (hK5 _ _ (C.cond rfl (fun c12 => ?_) (fun c12 => ?_))))
 ·
  refine C.region (O.build (cells := #[]) rfl (by kernel_rfl) (O.mkI underlying282 rfl rfl (O.panics rfl ?_)))
  exact ⟨rfl, Cn.no_comp3 (Cn.seg_ctx hsv5 hsv8) ⟨hqv5, hqv8⟩ (by simpa using c12), (Ext.nw (Ext.nw (Ext.nw (Ext.nw (Ext.nw (Ext.nw (Ext.nw (Ext.refl _ _) e1) e2) e3) e4) e5) e6) e7)⟩
 ·
  refine C.skip (hK4 _ _ (C.seqK fun K6 hK6 => C.region (O.loadOA isAgg44 sizeOf44 rfl (hs6.keep e7) (leB rfl) (O.storeA (vs := [slv p5, slv p8]) sizeOf44 rfl rfl rfl (by simp [slv, Value.oneCell']) ((((((h2.keepM e2 (by intro h; (try dsimp only at h); omega)).keep e3).keepM e4 (by intro h; (try dsimp only at h); omega)).keepM e5 (by intro h; (try dsimp only at h); omega)).keepM e6 (by intro h; (try dsimp only at h); omega)).keep e7) (leB rfl) (fun w8 hs8 e8 z8 => O.nil (hK6 _ _ (C.ret (Outs.cellA rfl isAgg44 sizeOf44 rfl hs8 rfl ?_))))))))
  exact ⟨slv p5, slv p8, (dsv5, dsv8), knv8, rfl, (((hov8.keepM e6 (by intro h; (try dsimp only at h); omega)).keep e7).keepM e8 (by intro h; (try dsimp only at h); omega)), (((((((hlv5.keep e3).keepA e4).keepA e5).keepA e6).keep e7).keepA e8)).weak (by intro j hj; (try dsimp only at hj); (try dsimp only); omega), ((((hlv8.keepA e6).keep e7).keepA e8)).weak (by intro j hj; (try dsimp only at hj); (try dsimp only); omega), ⟨hnv5, hnv8⟩, by simpa using c12, Cn.seg_ctx hsv5 hsv8, (Ext.nw (Ext.nw (Ext.nw (Ext.nw (Ext.nw (Ext.nw (Ext.nw (Ext.nw (Ext.refl _ _) e1) e2) e3) e4) e5) e6) e7) e8)⟩
set_option maxHeartbeats 2000000 in
theorem ditem_spec (b : Nat) (vr : Value) (l : List UInt8) (k : Nat) (F : Nat → Prop) (w : World) (ho : Own w b 234 [.bool true, vr, .int .i64 ((k : Int))]) (hl : Sl byteE w F vr l) (hk : k ≤ l.length) (hF : ∀ j, F j → j ≠ b ∧ j < w.heap.size) (hL : l.length ≤ 1000000) :
 RetZ Tryz.prog 248 #[.pointer (some ⟨b, 0, none⟩)] w (fun v w' => ∃ (s : List UInt8) (vm : Value) (ms : List MarkT) (k' : Nat), v = .agg #[str s, vm] ∧ Own w' b 234 [.bool true, vr, .int .i64 ((k' : Int))] ∧ Fre markF 114 w' (fun j => w.heap.size ≤ j ∧ j < w'.heap.size) vm ms ∧ ms.length ≤ l.length ∧ Cn.itemQ (s, ms) ∧ Cn.Seg (Cn.itemB (s, ms)) l k k' ∧ Ext (fun j => j = b) w w') (fun ch w' => ch = [{ v := .iface 282 (.agg #[]), recovered := false }] ∧ Cn.No Cn.itemQ Cn.itemB l k ∧ Ext (fun j => j = b) w w') := by
 have _hF9 := hF
 have _hk9 := hk
 have hbl := ho.lt
 have hll := hl.le
 obtain ⟨ie114, ti114, ts114, tb114, tz114⟩ := inf114
 refine enterZ (args := [.pointer (some ⟨b, 0, none⟩)]) (n := 40) func248 rfl rfl (leB rfl) (C.seqK fun K1 hK1 => C.region (O.alloc zeroValue117 (fun b2 w1 hb2 hz2 e1 => ?_)))
 have z1 := e1.size
 have h2 := hz2.own
 have hl2 := h2.lt
 refine O.nil (hK1 _ _ (C.seqK fun K2 hK2 => C.region (O.mv (O.call call130 (args2 rfl rfl) (rdStr_spec b vr l k F 64 _ (ho.keep e1) (hl.keep e1) hk (fun j hj => by have q1 := hF j hj; omega) hL (by unfold InI; omega)) ?_))))
 rintro v_10 w2 ⟨nv10, env10, knv10, rfl, hov10, hcv10, e2⟩
 have z2 := e2.size
 refine O.mv (O.extract rfl rfl (O.extract rfl rfl (O.asg (O.asg (O.nil (hK2 _ _ (C.seqK fun K3 hK3 => C.region (O.mv (O.callZ call266 (args1 rfl) (must_spec _ _) (fun ch_ wz_ hz_ => ?_) ?_)))))))))
 ·
  rcases hcv10 with ⟨q1, _⟩ | ⟨q1, q2, q4⟩
  ·exact absurd q1 hz_.2.1
  ·exact ⟨hz_.1, Cn.no_item1 q4, Ext.trans (Ext.nw (Ext.nw (Ext.refl _ _) e1) e2) (Le.to hz_.2.2)⟩
 rintro v_14 w3 ⟨rfl, hzv14, e3⟩
 have z3 := e3.size
 obtain ⟨q1, hnm, hsg10⟩ : env10 = 0 ∧ Cn.nameQ nv10 ∧ Cn.Seg (Cn.strB nv10) l k knv10 := by
  rcases hcv10 with ⟨q1, q2, q3⟩ | ⟨q1, _⟩
  ·exact ⟨q1, q2, q3⟩
  ·exfalso; omega
 refine O.nil (hK3 _ _ (C.seqK fun K4 hK4 => C.region (O.mv (O.build (cells := #[str nv10, .slice none 0 0]) rfl (by kernel_rfl) (O.alloc zeroValue117 (fun b5 w4 hb5 hz5 e4 => ?_))))))
 have z4 := e4.size
 have h5 := hz5.own
 have hl5 := h5.lt
 refine O.storeA (vs := [str nv10, .slice none 0 0]) sizeOf117 rfl rfl rfl (ones2 rfl) h5 (leB rfl) (fun w5 hs5 e5 z5 => O.nil (hK4 _ _ (C.seqK fun K5 hK5 => C.seqK fun K6 hK6 => C.region (O.mv (O.callZ call247 (args2 rfl rfl) (num_spec b vr l knv10 F 18446744073709551615#64 _ (((hov10.keep e3).keep e4).keepM e5 (by intro h; (try dsimp only at h); omega)) (((((hl.keep e1).keepA e2).keep e3).keep e4).keepA e5) hsg10.2.2 (fun j hj => by have q1 := hF j hj; omega) hL) (fun ch_ wz_ hz_ => ?_) ?_)))))
 ·
  exact ⟨hz_.1, Cn.no_item2 hsg10 hnm (Cn.no_many1 (Cn.numA_of hz_.2.1 (by decide)) Cn.markB_ge (by omega)), Ext.trans (Ext.nw (Ext.nw (Ext.nw (Ext.nw (Ext.nw (Ext.refl _ _) e1) e2) e3) e4) e5) hz_.2.2⟩
 rintro v_18 w6 ⟨nv18, knv18, rfl, hov18, hqv18, hsv18, e6⟩
 have z6 := e6.size
 refine O.asg (O.nil (hK6 _ _ (C.block fun K7 hK7 => C.loop0 (σ := List MarkT × Value × Nat) (fun f0 w0 ⟨ms, vm, kc⟩ f wz => f 6 = .int .u64 ((BitVec.ofNat 64 (nv18.toNat - ms.length)).toNat : Int) ∧ f 0 = f0 0 ∧ f 2 = f0 2 ∧ f 5 = f0 5 ∧ Ext (fun j => j = b) w wz ∧ Own wz b 234 [.bool true, vr, .int .i64 ((kc : Int))] ∧ Own wz b2 117 [str [], .slice none 0 0] ∧ Own wz b5 117 [str nv10, vm] ∧ OwnF markF 114 (b5 + 1) wz vm ms ∧ ms.length ≤ nv18.toNat ∧ Cn.manyQ Cn.markQ ms ∧ Cn.Seg (ms.flatMap Cn.markB) l knv18 kc) (fun ⟨ms, vm, kc⟩ => nv18.toNat - ms.length) ([], .slice none 0 0, knv18) ?_ ?_)))
 ·
  refine ⟨(Eq.trans rfl (congrArg (fun q : BitVec 64 => Value.int .u64 (q.toNat : Int)) (by simp))), rfl, rfl, rfl, (Ext.nw (Ext.nw (Ext.nw (Ext.nw (Ext.nw (Ext.nw (Ext.refl _ _) e1) e2) e3) e4) e5) e6), hov18, (((((h2.keepM e2 (by intro h; (try dsimp only at h); omega)).keep e3).keep e4).keepM e5 (by intro h; (try dsimp only at h); omega)).keepM e6 (by intro h; (try dsimp only at h); omega)), (hs5.keepM e6 (by intro h; (try dsimp only at h); omega)), (OwnF.nil _ _ _ _), ?_⟩
  exact ⟨Nat.zero_le _, Cn.manyQ_nil, Cn.Seg.nil hsv18.2.2⟩
 ·
  rintro ⟨ms, vm, kc⟩ f_1 w7 ⟨s6_1, s0_1, s2_1, s5_1, e_1, r0_1, r1_1, r2_1, r3_1, ⟨hj, hQ, hS⟩⟩
  have z_1 := e_1.size
  have r3_1s := r3_1.sl
  have hln := Cn.seg_len Cn.markB_ge hS
  have hNl := nv18.isLt
  have hvm1 := (r3_1).one
  have hbl5 := (r2_1).lt
  have hbl2 := (r1_1).lt
  refine C.seqK fun K8 hK8 => C.seqK fun K9 hK9 => C.region (O.mv (O.gtrU (m := 64) (b := 0#64) s6_1 rfl (O.nil (hK9 _ _ (C.condD rfl (fun c20 => ?_) (fun c20 => ?_))))))
  ·
   have hj2 : ms.length < nv18.toNat := by have q := (Cn.pos_ofNat (m := nv18.toNat - ms.length) (by omega)).1 c20; omega
   refine C.skip (hK8 _ _ (C.seqK fun K10 hK10 => C.block fun K11 hK11 => C.seqK fun K12 hK12 => C.region (O.mv (O.callZ call267 (args1 s0_1) (one_spec b vr l kc F _ r0_1 (hl.keepA e_1) hS.2.2 (fun j hj => by have q1 := hF j hj; omega) hL) (fun ch_ wz_ hz_ => ?_) ?_))))
   ·
    exact ⟨hz_.1, Cn.no_item2 hsg10 hnm (Cn.no_many2 hsv18 Cn.pre_markQ hQ hS hj2 (Cn.no_mark1 hz_.2.1)), Ext.trans (Ext.nw (Ext.refl _ _) e_1) hz_.2.2⟩
   rintro v_24 w8 ⟨dv24, knv24, rfl, hov24, hqv24, hsv24, e8⟩
   have z8 := e8.size
   refine O.build (cells := #[.int .i64 dv24.1, .int .i64 dv24.2, .int .i64 0, .int .u64 0]) rfl (by kernel_rfl) (O.alloc zeroValue114 (fun b7 w9 hb7 hz7 e9 => ?_))
   have z9 := e9.size
   have h7 := hz7.own
   have hl7 := h7.lt
   refine O.storeA (vs := [.int .i64 dv24.1, .int .i64 dv24.2, .int .i64 0, .int .u64 0]) sizeOf114 rfl rfl rfl (by simp [Value.oneCell']) h7 (leB rfl) (fun w10 hs10 e10 z10 => O.nil (hK12 _ _ (C.seqK fun K13 hK13 => C.region (O.mv ?_))))
   have t0 := ((hl.keepA e_1).keepA e8).keep e9
   refine O.callZ call247 (args2 s0_1 rfl) (num_spec b vr l knv24 F 2147483647#64 _ ((hov24.keep e9).keepM e10 (by intro h; (try dsimp only at h); omega)) (t0.keepA e10) hsv24.2.2 (fun j hj => by have q1 := hF j hj; omega) hL) (fun ch_ wz_ hz_ => ?_) ?_
   ·
    exact ⟨hz_.1, Cn.no_item2 hsg10 hnm (Cn.no_many2 hsv18 Cn.pre_markQ hQ hS hj2 (Cn.no_mark2 hsv24 hqv24 hz_.2.1)), Ext.trans (Ext.nw (Ext.nw (Ext.nw (Ext.nw (Ext.refl _ _) e_1) e8) e9) e10) hz_.2.2⟩
   rintro v_27 w11 ⟨nv27, knv27, rfl, hov27, hqv27, hsv27, e11⟩
   have z11 := e11.size
   refine O.convU64I underlying110 underlying3 rfl (O.fieldAd underlying114 rfl sizeOf3 (by decide) rfl (O.store sizeOf3 rfl rfl rfl (hs10.keepM e11 (by intro h; (try dsimp only at h); omega)) (by simp) (fun w12 hs12 e12 z12 => ?_)))
   try simp only [Nat.zero_add] at hs12
   refine O.nil (hK13 _ _ (C.seqK fun K14 hK14 => C.region (O.mv (O.callZ call247 (args2 s0_1 rfl) (num_spec b vr l knv27 F 18446744073709551615#64 _ (hov27.keepM e12 (by intro h; (try dsimp only at h); omega)) (((t0.keepA e10).keepA e11).keepA e12) hsv27.2.2 (fun j hj => by have q1 := hF j hj; omega) hL) (fun ch_ wz_ hz_ => ?_) ?_))))
   ·
    exact ⟨hz_.1, Cn.no_item2 hsg10 hnm (Cn.no_many2 hsv18 Cn.pre_markQ hQ hS hj2 (Cn.no_mark3 hsv24 hqv24 hsv27 hqv27 (Cn.numA_of hz_.2.1 (by decide)))), Ext.trans (Ext.nw (Ext.nw (Ext.nw (Ext.nw (Ext.nw (Ext.nw (Ext.refl _ _) e_1) e8) e9) e10) e11) e12) hz_.2.2⟩
   rintro v_31 w13 ⟨nv31, knv31, rfl, hov31, hqv31, hsv31, e13⟩
   have z13 := e13.size
   refine O.fieldAd underlying114 rfl sizeOf110 (by decide) rfl (O.store sizeOf110 rfl rfl rfl (hs12.keepM e13 (by intro h; (try dsimp only at h); omega)) (by simp) (fun w14 hs14 e14 z14 => ?_))
   try simp only [Nat.zero_add] at hs14
   refine O.nil (hK14 _ _ (C.region (O.fieldAd underlying117 rfl sizeOf115 (by decide) s5_1 ?_)))
   have t1 := r2_1.keepM e8 (by intro h; (try dsimp only at h); omega)
   have t2 := (t1.keep e9).keepM e10 (by intro h; (try dsimp only at h); omega)
   have t3 := t2.keepM e11 (by intro h; (try dsimp only at h); omega)
   have t4 := t3.keepM e12 (by intro h; (try dsimp only at h); omega)
   have t5 := t4.keepM e13 (by intro h; (try dsimp only at h); omega)
   have t6 := t5.keepM e14 (by intro h; (try dsimp only at h); omega)
   refine O.loadO isAgg115 rfl t6 rfl (O.loadOA isAgg114 sizeOf114 rfl hs14 (leB rfl) (O.cast (v' := mv (dv24, nv27.toInt, nv31)) rfl (O.litG (G := markF) [(dv24, nv27.toInt, nv31)] underlying115 ti114 ts114 tz114 rfl (by decide) (by decide) rfl (fun b36 w15 hb36 hz36 e15 => ?_))))
   have z15 := e15.size
   have h36 := hz36.own
   have hq36 := Sl.litG (n := 1) h36 rfl (by unfold maxLen; omega)
   have t7 := r3_1.keepM e8 (fun k hk h => by have := r3_1.bk_ge k hk; (try dsimp only at h); omega)
   have t8 := (t7.keep e9).keepM e10 (fun k hk h => by have := r3_1.bk_ge k hk; (try dsimp only at h); omega)
   have t9 := t8.keepM e11 (fun k hk h => by have := r3_1.bk_ge k hk; (try dsimp only at h); omega)
   have t10 := t9.keepM e12 (fun k hk h => by have := r3_1.bk_ge k hk; (try dsimp only at h); omega)
   have t11 := t10.keepM e13 (fun k hk h => by have := r3_1.bk_ge k hk; (try dsimp only at h); omega)
   have t12 := t11.keepM e14 (fun k hk h => by have := r3_1.bk_ge k hk; (try dsimp only at h); omega)
   refine O.appF (G := markF) underlying115 ti114 tz114 ts114 rfl rfl rfl (t12.keep e15) hq36 (by rw [tb114]; simp; omega) (by unfold maxLen; simp; omega) (by omega) (fun v37 w16 h37 e16 => ?_)
   have e16m : Ext (fun j => w.heap.size ≤ j) w15 w16 := e16.mono (fun j _ hj => by have := (t12.keep e15).bk_ge j hj; omega)
   have z16 := e16.size
   have h37s := h37.sl
   refine O.fieldAd underlying117 rfl sizeOf115 (by decide) s5_1 (O.store sizeOf115 rfl rfl h37.one ((t6.keep e15).keepM e16 (by intro h; have := (t12.keep e15).bk_ge _ h; omega)) (by simp) (fun w17 hs17 e17 z17 => ?_))
   try simp only [Nat.zero_add] at hs17
   refine O.nil (hK11 _ _ (hK10 _ _ (C.region (O.mv (O.subU (m := 64) (b := 1#64) rfl rfl s6_1 rfl (O.asg (O.nil ?_)))))))
   refine ⟨(ms ++ [(dv24, nv27.toInt, nv31)], v37, knv31), ⟨(Eq.trans rfl (congrArg (fun q : BitVec 64 => Value.int .u64 (q.toNat : Int)) (by rw [Cn.dec_ofNat (by omega) (by omega), List.length_append]; rfl))), s0_1, s2_1, s5_1, (Ext.nw (Ext.nw (Ext.nw (Ext.nw (Ext.nw (Ext.nw (Ext.nw (Ext.nw (Ext.nw (Ext.nw (Ext.nw (Ext.refl _ _) e_1) e8) e9) e10) e11) e12) e13) e14) e15) e16m) e17), ((((hov31.keepM e14 (by intro h; (try dsimp only at h); omega)).keep e15).keepM e16 (by intro h; have := (t12.keep e15).bk_ge _ h; omega)).keepM e17 (by intro h; (try dsimp only at h); omega)), ((((((((((r1_1.keepM e8 (by intro h; (try dsimp only at h); omega)).keep e9).keepM e10 (by intro h; (try dsimp only at h); omega)).keepM e11 (by intro h; (try dsimp only at h); omega)).keepM e12 (by intro h; (try dsimp only at h); omega)).keepM e13 (by intro h; (try dsimp only at h); omega)).keepM e14 (by intro h; (try dsimp only at h); omega)).keep e15).keepM e16 (by intro h; have := (t12.keep e15).bk_ge _ h; omega)).keepM e17 (by intro h; (try dsimp only at h); omega)), hs17, (h37.keepM e17 (fun k hk h => by have := h37.bk_ge k hk; (try dsimp only at h); omega)), ?_⟩, by show nv18.toNat - (ms ++ [_]).length < nv18.toNat - ms.length; rw [List.length_append]; show nv18.toNat - (ms.length + 1) < _; omega⟩
   exact ⟨by rw [List.length_append]; exact hj2, Cn.manyQ_snoc hQ (Cn.markQ_mk hqv24 hqv27), Cn.Seg.snoc hS (Cn.seg_mark hsv24 hsv27 hsv31)⟩
  ·
   have hj3 : ms.length = nv18.toNat := by have q := mt (Cn.pos_ofNat (m := nv18.toNat - ms.length) (by omega)).2 c20; omega
   refine C.exit (hK7 _ _ (hK5 _ _ (C.seqK fun K15 hK15 => C.region (O.loadOA isAgg117 sizeOf117 s5_1 r2_1 (leB rfl) (O.storeA (vs := [str nv10, vm]) sizeOf117 rfl s2_1 rfl (ones2 hvm1) r1_1 (leB rfl) (fun w18 hs18 e18 z18 => O.nil (hK15 _ _ (C.ret (Outs.cellA rfl isAgg117 sizeOf117 s2_1 hs18 rfl ?_)))))))))
   have t13 := r3_1.keepM e18 (fun k hk h => by have := r3_1.bk_ge k hk; (try dsimp only at h); omega)
   exact ⟨nv10, vm, ms, kc, rfl, (r0_1.keepM e18 (by intro h; (try dsimp only at h); omega)), (t13).fre (fun j hj => by have := (t13).bk_ge j hj; exact ⟨by omega, by omega⟩), by omega, Cn.itemQ_mk hnm hQ, Cn.seg_item hsg10 (Cn.seg_many hsv18 hS hj3), (Ext.nw (Ext.nw (Ext.refl _ _) e_1) e18)⟩
set_option maxHeartbeats 4000000 in
theorem dwhole_spec (b : Nat) (vr : Value) (l : List UInt8) (k : Nat) (F : Nat → Prop) (w : World) (ho : Own w b 234 [.bool true, vr, .int .i64 ((k : Int))]) (hl : Sl byteE w F vr l) (hk : k ≤ l.length) (hF : ∀ j, F j → j ≠ b ∧ j < w.heap.size) (hL : l.length ≤ 1000000) (mx : Mx w) (hgb : b ≠ 0) :
 RetZ Tryz.prog 195 #[.pointer (some ⟨b, 0, none⟩)] w (fun v w' => ∃ (v1 v2 v3 : Value) (c : Cn.Cart) (k' : Nat), v = .agg #[v1, v2, v3] ∧ Own w' b 234 [.bool true, vr, .int .i64 ((k' : Int))] ∧ Fre Dt.dotF 112 w' (fun j => w.heap.size ≤ j ∧ j < w'.heap.size) v1 c.1.1 ∧ Fre Dt.dotF 112 w' (fun j => w.heap.size ≤ j ∧ j < w'.heap.size) v2 c.1.2 ∧ SlI 117 114 w' (fun j => w.heap.size ≤ j ∧ j < w'.heap.size) v3 c.2 ∧ Cn.big c ∧ Cn.valid c = true ∧ Cn.Seg (Cn.bytes c) l k k' ∧ Ext (fun j => j = b) w w') (fun ch w' => ch = [{ v := .iface 282 (.agg #[]), recovered := false }] ∧ Cn.No Cn.val Cn.bytes l k ∧ Ext (fun j => j = b) w w') := by
 have _hF9 := hF
 have _hk9 := hk
 have hbl := ho.lt
 have hll := hl.le
 obtain ⟨ie117, ti117, ts117, tb117, tz117⟩ := inf117
 have hgl := mx.lt
 refine enterZ (args := [.pointer (some ⟨b, 0, none⟩)]) (n := 27) func195 rfl rfl (leB rfl) (C.seqK fun K1 hK1 => C.region (O.alloc zeroValue47 (fun b2 w1 hb2 hz2 e1 => ?_)))
 have z1 := e1.size
 have h2 := hz2.own
 have hl2 := h2.lt
 refine O.nil (hK1 _ _ (C.seqK fun K2 hK2 => C.region (O.mv (O.callZ call246 (args1 rfl) (dseen_spec b vr l k F _ (ho.keep e1) (hl.keep e1) hk (fun j hj => by have q1 := hF j hj; omega) hL) (fun ch_ wz_ hz_ => ?_) ?_))))
 ·
  exact ⟨hz_.1, Cn.no_val (Cn.no_cart1 hz_.2.1), Ext.trans (Ext.nw (Ext.refl _ _) e1) hz_.2.2⟩
 rintro v_6 w2 ⟨vav6, vbv6, xv6, knv6, rfl, hov6, hxv6, hyv6, hnv6, hcv6, hsv6, e2⟩
 have z2 := e2.size
 obtain ⟨p6, rfl⟩ := hxv6.slv
 obtain ⟨q6, rfl⟩ := hyv6.slv
 have hxs6 := hxv6.sl
 have hys6 := hyv6.sl
 refine O.build (cells := #[slv p6, slv q6, .slice none 0 0]) rfl (by kernel_rfl) (O.alloc zeroValue47 (fun b3 w3 hb3 hz3 e3 => ?_))
 have z3 := e3.size
 have h3 := hz3.own
 have hl3 := h3.lt
 refine O.storeA (vs := [slv p6, slv q6, .slice none 0 0]) sizeOf47 rfl rfl rfl (by simp [slv, Value.oneCell']) h3 (leB rfl) (fun w4 hs4 e4 z4 => O.nil (hK2 _ _ (C.seqK fun K3 hK3 => C.seqK fun K4 hK4 => C.region (O.mv (O.callZ call247 (args2 rfl rfl) (num_spec b vr l knv6 F 18446744073709551615#64 _ ((hov6.keep e3).keepM e4 (by intro h; (try dsimp only at h); omega)) ((((hl.keep e1).keepA e2).keep e3).keepA e4) hsv6.2.2 (fun j hj => by have q1 := hF j hj; omega) hL) (fun ch_ wz_ hz_ => ?_) ?_)))))
 ·
  exact ⟨hz_.1, Cn.no_val (Cn.no_cart2 hsv6 hcv6 (Cn.no_many1 (Cn.numA_of hz_.2.1 (by decide)) Cn.itemB_ge (by omega))), Ext.trans (Ext.nw (Ext.nw (Ext.nw (Ext.nw (Ext.refl _ _) e1) e2) e3) e4) hz_.2.2⟩
 rintro v_9 w5 ⟨nv9, knv9, rfl, hov9, hqv9, hsv9, e5⟩
 have z5 := e5.size
 refine O.asg (O.nil (hK4 _ _ (C.block fun K5 hK5 => ?_)))
 refine C.loop0 (σ := List ItemT × List (List UInt8 × (Option Addr × Nat × Nat)) × Value × Nat) (fun f0 w0 ⟨its, raw, o, kc⟩ f wz => f 4 = .int .u64 ((BitVec.ofNat 64 (nv9.toNat - its.length)).toNat : Int) ∧ f 0 = f0 0 ∧ f 2 = f0 2 ∧ f 3 = f0 3 ∧ Ext (fun j => j = b) w wz ∧ Own wz b 234 [.bool true, vr, .int .i64 ((kc : Int))] ∧ Own wz b2 47 [.slice none 0 0, .slice none 0 0, .slice none 0 0] ∧ Own wz b3 47 [slv p6, slv q6, o] ∧ OwnF itemF 117 (b3 + 1) wz o raw ∧ ItemsF 114 wz (fun j => b3 < j ∧ j < wz.heap.size ∧ ¬ bk o j) raw its ∧ Sl Dt.dotF.enc wz (fun j => b2 < j ∧ j < b3) (slv p6) xv6.1 ∧ Sl Dt.dotF.enc wz (fun j => b2 < j ∧ j < b3) (slv q6) xv6.2 ∧ Fre Dt.dotF 112 wz (fun j => b2 < j ∧ j < b3) (slv p6) xv6.1 ∧ Fre Dt.dotF 112 wz (fun j => b2 < j ∧ j < b3) (slv q6) xv6.2 ∧ its.length ≤ nv9.toNat ∧ Cn.manyQ Cn.itemQ its ∧ (∀ x ∈ its, x.2.length ≤ 1000000) ∧ Cn.Seg (its.flatMap Cn.itemB) l knv9 kc) (fun ⟨its, raw, o, kc⟩ => nv9.toNat - its.length) ([], [], .slice none 0 0, knv9) ?_ ?_
 ·
  refine ⟨(Eq.trans rfl (congrArg (fun q : BitVec 64 => Value.int .u64 (q.toNat : Int)) (by simp))), rfl, rfl, rfl, (Ext.nw (Ext.nw (Ext.nw (Ext.nw (Ext.nw (Ext.refl _ _) e1) e2) e3) e4) e5), hov9, ((((h2.keepM e2 (by intro h; (try dsimp only at h); omega)).keep e3).keepM e4 (by intro h; (try dsimp only at h); omega)).keepM e5 (by intro h; (try dsimp only at h); omega)), (hs4.keepM e5 (by intro h; (try dsimp only at h); omega)), (OwnF.nil _ _ _ _), ItemsF.nil, (((((hxs6.keep e3).keepA e4).keepA e5)).weak (by intro j hj; (try dsimp only at hj); (try dsimp only); omega)), (((((hys6.keep e3).keepA e4).keepA e5)).weak (by intro j hj; (try dsimp only at hj); (try dsimp only); omega)), (((((hxv6.keep e3).keepA e4).keepA e5)).weak (by intro j hj; (try dsimp only at hj); (try dsimp only); omega)), (((((hyv6.keep e3).keepA e4).keepA e5)).weak (by intro j hj; (try dsimp only at hj); (try dsimp only); omega)), ?_⟩
  exact ⟨Nat.zero_le _, Cn.manyQ_nil, Cn.manyQ_nil, Cn.Seg.nil hsv9.2.2⟩
 ·
  rintro ⟨its, raw, o, kc⟩ f_1 w6 ⟨s4_1, s0_1, s2_1, s3_1, e_1, r0_1, r1_1, r2_1, r3_1, r4_1, r5_1, r6_1, r7_1, r8_1, ⟨hj, hQ, hI, hS⟩⟩
  have z_1 := e_1.size
  have r3_1s := r3_1.sl
  obtain ⟨wL, hwL⟩ : ∃ x, x = w6 := ⟨_, rfl⟩
  have hzL : wL.heap.size = w6.heap.size := by rw [hwL]
  have hln := Cn.seg_len Cn.itemB_ge hS
  have hNl := nv9.isLt
  have ho1 := (r3_1).one
  have hbl3 := (r2_1).lt
  have hbl2 := (r1_1).lt
  have hit := r4_1
  have hitl := hit.1
  have hob := (r3_1).bk_ge
  refine C.seqK fun K6 hK6 => C.seqK fun K7 hK7 => C.region (O.mv (O.gtrU (m := 64) (b := 0#64) s4_1 rfl (O.nil (hK7 _ _ (C.condD rfl (fun c11 => ?_) (fun c11 => ?_))))))
  ·
   have hj2 : its.length < nv9.toNat := by have q := (Cn.pos_ofNat (m := nv9.toNat - its.length) (by omega)).1 c11; omega
   refine C.skip (hK6 _ _ (C.seqK fun K8 hK8 => C.block fun K9 hK9 => C.drawB (wB := (bare w6)) (by kernel_rfl) fun w7 e7 => ?_))
   have z7 := e7.size
   refine D.tk 0 rfl rfl rfl rfl (Ext.bare (Ext.new (Ext.refl (fun _ => True) _) e7 (fun _ _ _ => trivial))) ⟨_, rfl⟩ (fun _ hw_ _ hN => O.fieldAd underlying47 rfl sizeOf45 (by decide) s3_1 (O.nil hN)) (D.tk 2 rfl rfl rfl rfl (Ext.bare (Ext.new (Ext.refl (fun _ => True) _) e7 (fun _ _ _ => trivial))) ⟨pure _, rfl⟩ (fun _ hw_ _ hN => O.mv (O.nil hN)) (D.many [1, 3] (by kernel_rfl) (by decide) ⟨?_, ?_, trivial⟩))
   ·
    refine D.stepU rfl rfl (O.loadO isAgg45 rfl (r2_1.keep e7) rfl (O.nil ⟨(Ext.bare (Ext.new (Ext.refl (fun _ => True) _) e7 (fun _ _ _ => trivial))), D.on 3 rfl rfl (O.callZ call248 (args1 s0_1) (ditem_spec b vr l kc F _ (r0_1.keep e7) ((hl.keepA e_1).keep e7) hS.2.2 (fun j hj => by have q1 := hF j hj; omega) hL) (fun ch_ wz_ hz_ => ?_) ?_)⟩))
    ·
     exact ⟨hz_.1, Cn.no_val (Cn.no_cart2 hsv6 hcv6 (Cn.no_many2 hsv9 Cn.pre_itemQ hQ hS hj2 hz_.2.1)), Ext.trans (Ext.nw (Ext.nw (Ext.refl _ _) e_1) e7) hz_.2.2⟩
    rintro v_17 w8 ⟨sv17, vmv17, msv17, knv17, rfl, hov17, hmv17, hnv17, hqv17, hsv17, e8⟩
    have z8 := e8.size
    refine O.nil ⟨(Ext.bare (Ext.new (Ext.new (Ext.refl (fun _ => True) _) e7 (fun _ _ _ => trivial)) e8 (fun _ _ _ => trivial))), ?_⟩
    obtain ⟨p17, rfl⟩ := hmv17.slv
    refine D.on 4 rfl rfl (O.litG (G := itemF) [(sv17, p17)] underlying45 ti117 ts117 tz117 rfl (by decide) (by decide) rfl (fun b18 w9 hb18 hz18 e9 => ?_))
    have z9 := e9.size
    have h18 := hz18.own
    have hq18 := Sl.litG (n := 1) h18 rfl (by unfold maxLen; omega)
    refine O.nil ⟨(Ext.bare (Ext.new (Ext.new (Ext.new (Ext.refl (fun _ => True) _) e7 (fun _ _ _ => trivial)) e8 (fun _ _ _ => trivial)) e9 (fun _ _ _ => trivial))), D.on 5 rfl rfl ?_⟩
    have t0 := (r3_1.keep e7).keepM e8 (fun k hk h => by have := r3_1.bk_ge k hk; (try dsimp only at h); omega)
    refine O.appW (G := itemF) underlying45 ti117 tz117 ts117 rfl rfl rfl (t0.keep e9) hq18 (by rw [tb117, hit.1]; simp; omega) (by unfold maxLen; rw [hit.1]; simp; omega) (by omega) (fun v19 w10 h19 e10 hw19 => ?_)
    have e10m : Ext (fun j => w.heap.size ≤ j) w9 w10 := e10.mono (fun j _ hj => by have := (t0.keep e9).bk_ge j hj; omega)
    have z10 := e10.size
    have h19s := h19.sl
    refine O.nil ⟨(Ext.bare (Ext.new (Ext.new (Ext.new (Ext.new (Ext.refl (fun _ => True) _) e7 (fun _ _ _ => trivial)) e8 (fun _ _ _ => trivial)) e9 (fun _ _ _ => trivial)) e10 (fun _ _ _ => trivial))), ?_⟩
    have hit19 : ItemsF 114 w10 (fun j => b3 < j ∧ j < w10.heap.size ∧ ¬ bk v19 j) (raw ++ [(sv17, p17)]) (its ++ [(sv17, msv17)]) := ((((((r4_1.keep e7).keepA e8).keep e9).keepM e10 (fun j hj h => hj.2.2 h))).weak (fun j hj => ⟨hj.1, by have := hj.2.1; omega, fun hq => by
     rcases hw19 j hq with q | q
     ·exact hj.2.2 q
     ·have := hj.2.1; omega⟩)).snoc (x := (sv17, msv17)) rfl ((((hmv17.keep e9).keepM e10 (by intro j hj h; have q2 := hob j h; (try dsimp only at hj); omega))).weak (by
 intro j hj
 (try dsimp only at hj)
 refine ⟨by omega, by omega, fun hq => ?_⟩
 rcases hw19 j hq with q | q
 ·have := hob j q; omega
 ·omega))
    refine D.tk 6 rfl rfl rfl rfl (Ext.bare (Ext.new (Ext.new (Ext.new (Ext.new (Ext.refl (fun _ => True) _) e7 (fun _ _ _ => trivial)) e8 (fun _ _ _ => trivial)) e9 (fun _ _ _ => trivial)) e10 (fun _ _ _ => trivial))) ⟨_, rfl⟩ (fun _ hw_ _ hN => O.fieldAd underlying47 rfl sizeOf45 (by decide) s3_1 (O.nil hN)) (D.on 7 rfl rfl (O.store sizeOf45 rfl rfl h19.one ((((r2_1.keep e7).keepM e8 (by intro h; (try dsimp only at h); omega)).keep e9).keepM e10 (by intro h; have := (t0.keep e9).bk_ge _ h; omega)) (by simp) (fun w11 hs11 e11 z11 => ?_)))
    try simp only [Nat.zero_add] at hs11
    refine O.nil ⟨(Ext.bare (Ext.new (Ext.new (Ext.new (Ext.new (Ext.new (Ext.refl (fun _ => True) _) e7 (fun _ _ _ => trivial)) e8 (fun _ _ _ => trivial)) e9 (fun _ _ _ => trivial)) e10 (fun _ _ _ => trivial)) e11 (fun _ _ _ => trivial))), D.dn (hK9 _ _ (hK8 _ _ (C.region (O.mv (O.subU (m := 64) (b := 1#64) rfl rfl s4_1 rfl (O.asg (O.nil ?_)))))))⟩
    refine ⟨(its ++ [(sv17, msv17)], raw ++ [(sv17, p17)], v19, knv17), ⟨(Eq.trans rfl (congrArg (fun q : BitVec 64 => Value.int .u64 (q.toNat : Int)) (by rw [Cn.dec_ofNat (by omega) (by omega), List.length_append]; rfl))), s0_1, s2_1, s3_1, (Ext.nw (Ext.nw (Ext.nw (Ext.nw (Ext.nw (Ext.nw (Ext.refl _ _) e_1) e7) e8) e9) e10m) e11), (((hov17.keep e9).keepM e10 (by intro h; have := (t0.keep e9).bk_ge _ h; omega)).keepM e11 (by intro h; (try dsimp only at h); omega)), (((((r1_1.keep e7).keepM e8 (by intro h; (try dsimp only at h); omega)).keep e9).keepM e10 (by intro h; have := (t0.keep e9).bk_ge _ h; omega)).keepM e11 (by intro h; (try dsimp only at h); omega)), hs11, (h19.keepM e11 (fun k hk h => by have := h19.bk_ge k hk; (try dsimp only at h); omega)), (((hit19.keepA e11)).weak (fun j hj => ⟨hj.1, by have := hj.2.1; omega, hj.2.2⟩)), (((((r5_1.keep e7).keepA e8).keep e9).keepM e10 (by intro j hj h; have q2 := (t0.keep e9).bk_ge j h; first | (have q1 := hF j hj; omega) | ((try dsimp only at hj); omega))).keepA e11), (((((r6_1.keep e7).keepA e8).keep e9).keepM e10 (by intro j hj h; have q2 := (t0.keep e9).bk_ge j h; first | (have q1 := hF j hj; omega) | ((try dsimp only at hj); omega))).keepA e11), (((((r7_1.keep e7).keepA e8).keep e9).keepM e10 (by intro j hj h; have q2 := (t0.keep e9).bk_ge j h; first | (have q1 := hF j hj; omega) | ((try dsimp only at hj); omega))).keepA e11), (((((r8_1.keep e7).keepA e8).keep e9).keepM e10 (by intro j hj h; have q2 := (t0.keep e9).bk_ge j h; first | (have q1 := hF j hj; omega) | ((try dsimp only at hj); omega))).keepA e11), ?_⟩, by show nv9.toNat - (its ++ [_]).length < nv9.toNat - its.length; rw [List.length_append]; show nv9.toNat - (its.length + 1) < _; omega⟩
    exact ⟨by rw [List.length_append]; exact hj2, Cn.manyQ_snoc hQ hqv17, Cn.manyQ_snoc hI (by show msv17.length ≤ 1000000; omega), Cn.Seg.snoc hS hsv17⟩
   ·
    refine D.stepU rfl rfl (O.callZ call248 (args1 s0_1) (ditem_spec b vr l kc F _ (r0_1.keep e7) ((hl.keepA e_1).keep e7) hS.2.2 (fun j hj => by have q1 := hF j hj; omega) hL) (fun ch_ wz_ hz_ => ?_) ?_)
    ·
     exact ⟨hz_.1, Cn.no_val (Cn.no_cart2 hsv6 hcv6 (Cn.no_many2 hsv9 Cn.pre_itemQ hQ hS hj2 hz_.2.1)), Ext.trans (Ext.nw (Ext.nw (Ext.refl _ _) e_1) e7) hz_.2.2⟩
    rintro v_17 w12 ⟨sv17, vmv17, msv17, knv17, rfl, hov17, hmv17, hnv17, hqv17, hsv17, e12⟩
    have z12 := e12.size
    refine O.nil ⟨(Ext.bare (Ext.new (Ext.new (Ext.refl (fun _ => True) _) e7 (fun _ _ _ => trivial)) e12 (fun _ _ _ => trivial))), ?_⟩
    obtain ⟨p17, rfl⟩ := hmv17.slv
    refine D.many [1, 4] (by kernel_rfl) (by decide) ⟨?_, ?_, trivial⟩
    ·
     refine D.stepU rfl rfl ?_
     have t1 := (r2_1.keep e7).keepM e12 (by intro h; (try dsimp only at h); omega)
     refine O.loadO isAgg45 rfl t1 rfl (O.nil ⟨(Ext.bare (Ext.new (Ext.new (Ext.refl (fun _ => True) _) e7 (fun _ _ _ => trivial)) e12 (fun _ _ _ => trivial))), D.on 4 rfl rfl (O.litG (G := itemF) [(sv17, p17)] underlying45 ti117 ts117 tz117 rfl (by decide) (by decide) rfl (fun b18 w13 hb18 hz18 e13 => ?_))⟩)
     have z13 := e13.size
     have h18 := hz18.own
     have hq18 := Sl.litG (n := 1) h18 rfl (by unfold maxLen; omega)
     refine O.nil ⟨(Ext.bare (Ext.new (Ext.new (Ext.new (Ext.refl (fun _ => True) _) e7 (fun _ _ _ => trivial)) e12 (fun _ _ _ => trivial)) e13 (fun _ _ _ => trivial))), D.on 5 rfl rfl ?_⟩
     have t2 := (r3_1.keep e7).keepM e12 (fun k hk h => by have := r3_1.bk_ge k hk; (try dsimp only at h); omega)
     refine O.appW (G := itemF) underlying45 ti117 tz117 ts117 rfl rfl rfl (t2.keep e13) hq18 (by rw [tb117, hit.1]; simp; omega) (by unfold maxLen; rw [hit.1]; simp; omega) (by omega) (fun v19 w14 h19 e14 hw19 => ?_)
     have e14m : Ext (fun j => w.heap.size ≤ j) w13 w14 := e14.mono (fun j _ hj => by have := (t2.keep e13).bk_ge j hj; omega)
     have z14 := e14.size
     have h19s := h19.sl
     refine O.nil ⟨(Ext.bare (Ext.new (Ext.new (Ext.new (Ext.new (Ext.refl (fun _ => True) _) e7 (fun _ _ _ => trivial)) e12 (fun _ _ _ => trivial)) e13 (fun _ _ _ => trivial)) e14 (fun _ _ _ => trivial))), ?_⟩
     have hit19 : ItemsF 114 w14 (fun j => b3 < j ∧ j < w14.heap.size ∧ ¬ bk v19 j) (raw ++ [(sv17, p17)]) (its ++ [(sv17, msv17)]) := ((((((r4_1.keep e7).keepA e12).keep e13).keepM e14 (fun j hj h => hj.2.2 h))).weak (fun j hj => ⟨hj.1, by have := hj.2.1; omega, fun hq => by
      rcases hw19 j hq with q | q
      ·exact hj.2.2 q
      ·have := hj.2.1; omega⟩)).snoc (x := (sv17, msv17)) rfl ((((hmv17.keep e13).keepM e14 (by intro j hj h; have q2 := hob j h; (try dsimp only at hj); omega))).weak (by
 intro j hj
 (try dsimp only at hj)
 refine ⟨by omega, by omega, fun hq => ?_⟩
 rcases hw19 j hq with q | q
 ·have := hob j q; omega
 ·omega))
     refine D.tk 6 rfl rfl rfl rfl (Ext.bare (Ext.new (Ext.new (Ext.new (Ext.new (Ext.refl (fun _ => True) _) e7 (fun _ _ _ => trivial)) e12 (fun _ _ _ => trivial)) e13 (fun _ _ _ => trivial)) e14 (fun _ _ _ => trivial))) ⟨_, rfl⟩ (fun _ hw_ _ hN => O.fieldAd underlying47 rfl sizeOf45 (by decide) s3_1 (O.nil hN)) (D.on 7 rfl rfl (O.store sizeOf45 rfl rfl h19.one ((t1.keep e13).keepM e14 (by intro h; have := (t2.keep e13).bk_ge _ h; omega)) (by simp) (fun w15 hs15 e15 z15 => ?_)))
     try simp only [Nat.zero_add] at hs15
     refine O.nil ⟨(Ext.bare (Ext.new (Ext.new (Ext.new (Ext.new (Ext.new (Ext.refl (fun _ => True) _) e7 (fun _ _ _ => trivial)) e12 (fun _ _ _ => trivial)) e13 (fun _ _ _ => trivial)) e14 (fun _ _ _ => trivial)) e15 (fun _ _ _ => trivial))), D.dn (hK9 _ _ (hK8 _ _ (C.region (O.mv (O.subU (m := 64) (b := 1#64) rfl rfl s4_1 rfl (O.asg (O.nil ?_)))))))⟩
     refine ⟨(its ++ [(sv17, msv17)], raw ++ [(sv17, p17)], v19, knv17), ⟨(Eq.trans rfl (congrArg (fun q : BitVec 64 => Value.int .u64 (q.toNat : Int)) (by rw [Cn.dec_ofNat (by omega) (by omega), List.length_append]; rfl))), s0_1, s2_1, s3_1, (Ext.nw (Ext.nw (Ext.nw (Ext.nw (Ext.nw (Ext.nw (Ext.refl _ _) e_1) e7) e12) e13) e14m) e15), (((hov17.keep e13).keepM e14 (by intro h; have := (t2.keep e13).bk_ge _ h; omega)).keepM e15 (by intro h; (try dsimp only at h); omega)), (((((r1_1.keep e7).keepM e12 (by intro h; (try dsimp only at h); omega)).keep e13).keepM e14 (by intro h; have := (t2.keep e13).bk_ge _ h; omega)).keepM e15 (by intro h; (try dsimp only at h); omega)), hs15, (h19.keepM e15 (fun k hk h => by have := h19.bk_ge k hk; (try dsimp only at h); omega)), (((hit19.keepA e15)).weak (fun j hj => ⟨hj.1, by have := hj.2.1; omega, hj.2.2⟩)), (((((r5_1.keep e7).keepA e12).keep e13).keepM e14 (by intro j hj h; have q2 := (t2.keep e13).bk_ge j h; first | (have q1 := hF j hj; omega) | ((try dsimp only at hj); omega))).keepA e15), (((((r6_1.keep e7).keepA e12).keep e13).keepM e14 (by intro j hj h; have q2 := (t2.keep e13).bk_ge j h; first | (have q1 := hF j hj; omega) | ((try dsimp only at hj); omega))).keepA e15), (((((r7_1.keep e7).keepA e12).keep e13).keepM e14 (by intro j hj h; have q2 := (t2.keep e13).bk_ge j h; first | (have q1 := hF j hj; omega) | ((try dsimp only at hj); omega))).keepA e15), (((((r8_1.keep e7).keepA e12).keep e13).keepM e14 (by intro j hj h; have q2 := (t2.keep e13).bk_ge j h; first | (have q1 := hF j hj; omega) | ((try dsimp only at hj); omega))).keepA e15), ?_⟩, by show nv9.toNat - (its ++ [_]).length < nv9.toNat - its.length; rw [List.length_append]; show nv9.toNat - (its.length + 1) < _; omega⟩
     exact ⟨by rw [List.length_append]; exact hj2, Cn.manyQ_snoc hQ hqv17, Cn.manyQ_snoc hI (by show msv17.length ≤ 1000000; omega), Cn.Seg.snoc hS hsv17⟩
    ·
     refine D.stepU rfl rfl (O.litG (G := itemF) [(sv17, p17)] underlying45 ti117 ts117 tz117 rfl (by decide) (by decide) rfl (fun b18 w16 hb18 hz18 e16 => ?_))
     have z16 := e16.size
     have h18 := hz18.own
     have hq18 := Sl.litG (n := 1) h18 rfl (by unfold maxLen; omega)
     refine O.nil ⟨(Ext.bare (Ext.new (Ext.new (Ext.new (Ext.refl (fun _ => True) _) e7 (fun _ _ _ => trivial)) e12 (fun _ _ _ => trivial)) e16 (fun _ _ _ => trivial))), D.on 1 rfl rfl ?_⟩
     have t3 := (r2_1.keep e7).keepM e12 (by intro h; (try dsimp only at h); omega)
     refine O.loadO isAgg45 rfl (t3.keep e16) rfl (O.nil ⟨(Ext.bare (Ext.new (Ext.new (Ext.new (Ext.refl (fun _ => True) _) e7 (fun _ _ _ => trivial)) e12 (fun _ _ _ => trivial)) e16 (fun _ _ _ => trivial))), D.on 5 rfl rfl ?_⟩)
     have t4 := (r3_1.keep e7).keepM e12 (fun k hk h => by have := r3_1.bk_ge k hk; (try dsimp only at h); omega)
     refine O.appW (G := itemF) underlying45 ti117 tz117 ts117 rfl rfl rfl (t4.keep e16) hq18 (by rw [tb117, hit.1]; simp; omega) (by unfold maxLen; rw [hit.1]; simp; omega) (by omega) (fun v19 w17 h19 e17 hw19 => ?_)
     have e17m : Ext (fun j => w.heap.size ≤ j) w16 w17 := e17.mono (fun j _ hj => by have := (t4.keep e16).bk_ge j hj; omega)
     have z17 := e17.size
     have h19s := h19.sl
     refine O.nil ⟨(Ext.bare (Ext.new (Ext.new (Ext.new (Ext.new (Ext.refl (fun _ => True) _) e7 (fun _ _ _ => trivial)) e12 (fun _ _ _ => trivial)) e16 (fun _ _ _ => trivial)) e17 (fun _ _ _ => trivial))), ?_⟩
     have hit19 : ItemsF 114 w17 (fun j => b3 < j ∧ j < w17.heap.size ∧ ¬ bk v19 j) (raw ++ [(sv17, p17)]) (its ++ [(sv17, msv17)]) := ((((((r4_1.keep e7).keepA e12).keep e16).keepM e17 (fun j hj h => hj.2.2 h))).weak (fun j hj => ⟨hj.1, by have := hj.2.1; omega, fun hq => by
      rcases hw19 j hq with q | q
      ·exact hj.2.2 q
      ·have := hj.2.1; omega⟩)).snoc (x := (sv17, msv17)) rfl ((((hmv17.keep e16).keepM e17 (by intro j hj h; have q2 := hob j h; (try dsimp only at hj); omega))).weak (by
 intro j hj
 (try dsimp only at hj)
 refine ⟨by omega, by omega, fun hq => ?_⟩
 rcases hw19 j hq with q | q
 ·have := hob j q; omega
 ·omega))
     refine D.tk 6 rfl rfl rfl rfl (Ext.bare (Ext.new (Ext.new (Ext.new (Ext.new (Ext.refl (fun _ => True) _) e7 (fun _ _ _ => trivial)) e12 (fun _ _ _ => trivial)) e16 (fun _ _ _ => trivial)) e17 (fun _ _ _ => trivial))) ⟨_, rfl⟩ (fun _ hw_ _ hN => O.fieldAd underlying47 rfl sizeOf45 (by decide) s3_1 (O.nil hN)) (D.on 7 rfl rfl (O.store sizeOf45 rfl rfl h19.one ((t3.keep e16).keepM e17 (by intro h; have := (t4.keep e16).bk_ge _ h; omega)) (by simp) (fun w18 hs18 e18 z18 => ?_)))
     try simp only [Nat.zero_add] at hs18
     refine O.nil ⟨(Ext.bare (Ext.new (Ext.new (Ext.new (Ext.new (Ext.new (Ext.refl (fun _ => True) _) e7 (fun _ _ _ => trivial)) e12 (fun _ _ _ => trivial)) e16 (fun _ _ _ => trivial)) e17 (fun _ _ _ => trivial)) e18 (fun _ _ _ => trivial))), D.dn (hK9 _ _ (hK8 _ _ (C.region (O.mv (O.subU (m := 64) (b := 1#64) rfl rfl s4_1 rfl (O.asg (O.nil ?_)))))))⟩
     refine ⟨(its ++ [(sv17, msv17)], raw ++ [(sv17, p17)], v19, knv17), ⟨(Eq.trans rfl (congrArg (fun q : BitVec 64 => Value.int .u64 (q.toNat : Int)) (by rw [Cn.dec_ofNat (by omega) (by omega), List.length_append]; rfl))), s0_1, s2_1, s3_1, (Ext.nw (Ext.nw (Ext.nw (Ext.nw (Ext.nw (Ext.nw (Ext.refl _ _) e_1) e7) e12) e16) e17m) e18), (((hov17.keep e16).keepM e17 (by intro h; have := (t4.keep e16).bk_ge _ h; omega)).keepM e18 (by intro h; (try dsimp only at h); omega)), (((((r1_1.keep e7).keepM e12 (by intro h; (try dsimp only at h); omega)).keep e16).keepM e17 (by intro h; have := (t4.keep e16).bk_ge _ h; omega)).keepM e18 (by intro h; (try dsimp only at h); omega)), hs18, (h19.keepM e18 (fun k hk h => by have := h19.bk_ge k hk; (try dsimp only at h); omega)), (((hit19.keepA e18)).weak (fun j hj => ⟨hj.1, by have := hj.2.1; omega, hj.2.2⟩)), (((((r5_1.keep e7).keepA e12).keep e16).keepM e17 (by intro j hj h; have q2 := (t4.keep e16).bk_ge j h; first | (have q1 := hF j hj; omega) | ((try dsimp only at hj); omega))).keepA e18), (((((r6_1.keep e7).keepA e12).keep e16).keepM e17 (by intro j hj h; have q2 := (t4.keep e16).bk_ge j h; first | (have q1 := hF j hj; omega) | ((try dsimp only at hj); omega))).keepA e18), (((((r7_1.keep e7).keepA e12).keep e16).keepM e17 (by intro j hj h; have q2 := (t4.keep e16).bk_ge j h; first | (have q1 := hF j hj; omega) | ((try dsimp only at hj); omega))).keepA e18), (((((r8_1.keep e7).keepA e12).keep e16).keepM e17 (by intro j hj h; have q2 := (t4.keep e16).bk_ge j h; first | (have q1 := hF j hj; omega) | ((try dsimp only at hj); omega))).keepA e18), ?_⟩, by show nv9.toNat - (its ++ [_]).length < nv9.toNat - its.length; rw [List.length_append]; show nv9.toNat - (its.length + 1) < _; omega⟩
     exact ⟨by rw [List.length_append]; exact hj2, Cn.manyQ_snoc hQ hqv17, Cn.manyQ_snoc hI (by show msv17.length ≤ 1000000; omega), Cn.Seg.snoc hS hsv17⟩
  ·
   have hj3 : its.length = nv9.toNat := by have q := mt (Cn.pos_ofNat (m := nv9.toNat - its.length) (by omega)).2 c11; omega
   obtain ⟨wq, hwq⟩ : ∃ x, x = w6 := ⟨_, rfl⟩
   have hzq : wq.heap.size = w6.heap.size := by rw [hwq]
   have hsa1 : Sl Dt.dotF.enc w6 (fun j => j < wq.heap.size) (slv p6) xv6.1 := (r5_1).weak (by intro j hj; have q := hj.2; show j < wq.heap.size; omega)
   have hsa2 : Sl Dt.dotF.enc w6 (fun j => j < wq.heap.size) (slv q6) xv6.2 := (r6_1).weak (by intro j hj; have q := hj.2; show j < wq.heap.size; omega)
   have hsi : Sl itemE w6 (fun j => b3 < j ∧ j < wq.heap.size) o its := (hit.weak (by intro j hj; have q1 := hj.1; have q := hj.2.1; show b3 < j ∧ j < wq.heap.size; omega)).items.sl ((r3_1).sl.weak (by intro j hj; have q := hob j hj; show b3 < j ∧ j < wq.heap.size; omega))
   have hsa3 : Sl itemE w6 (fun j => j < wq.heap.size) o its := hsi.weak fun j hj => hj.2
   have hsI : SlI 117 114 w6 (fun j => b3 < j ∧ j < wq.heap.size) o its := ⟨raw, (r3_1).fre (by intro j hj; have q := hob j hj; show b3 < j ∧ j < wq.heap.size; omega), hit.weak (by intro j hj; have q1 := hj.1; have q := hj.2.1; show b3 < j ∧ j < wq.heap.size; omega)⟩
   refine C.exit (hK5 _ _ (hK3 _ _ (C.seqK fun K10 hK10 => C.seqK fun K11 hK11 => C.region (O.loadOA isAgg47 sizeOf47 s3_1 r2_1 (leB rfl) (O.call call61 (args1 rfl) (cartValid_spec (slv p6) (slv q6) o (xv6, its) (fun j => j < wq.heap.size) _ hsa1 hsa2 hsa3 (fun j hj => by have hj : j < wq.heap.size := hj; omega) (by show its.length ≤ 1000000; omega) (fun x hx => ⟨by have := (hQ x hx).1; omega, hI x hx⟩) (mx.keepM e_1 (fun h => hgb h.symm))) ?_)))))
   rintro v_22 w19 ⟨rfl, e19⟩
   have z19 := e19.size
   refine O.not rfl (O.nil (hK11 _ _ (C.cond rfl (fun c23 => ?_) (fun c23 => ?_))))
   ·
    refine C.region (O.build (cells := #[]) rfl (by kernel_rfl) (O.mkI underlying282 rfl rfl (O.panics rfl ?_)))
    exact ⟨rfl, Cn.no_val3 (Cn.seg_cart hsv6 (Cn.seg_many hsv9 hS hj3)) ⟨hcv6, hQ⟩ (by simpa using c23), (Ext.nw (Ext.nw (Ext.refl _ _) e_1) e19)⟩
   ·
    refine C.skip (hK10 _ _ (C.seqK fun K12 hK12 => C.region (O.loadOA isAgg47 sizeOf47 s3_1 (r2_1.keep e19) (leB rfl) (O.storeA (vs := [slv p6, slv q6, o]) sizeOf47 rfl s2_1 rfl (by have q9 := ho1; intro u hu; simp only [List.mem_cons, List.not_mem_nil, or_false] at hu; rcases hu with rfl | rfl | rfl <;> first | rfl | exact q9) (r1_1.keep e19) (leB rfl) (fun w20 hs20 e20 z20 => O.nil (hK12 _ _ (C.ret (Outs.cellA rfl isAgg47 sizeOf47 s2_1 hs20 rfl ?_))))))))
    exact ⟨slv p6, slv q6, o, (xv6, its), kc, rfl, ((r0_1.keep e19).keepM e20 (by intro h; (try dsimp only at h); omega)), (((r7_1.keep e19).keepA e20)).weak (by intro j hj; (try dsimp only at hj); (try dsimp only); omega), (((r8_1.keep e19).keepA e20)).weak (by intro j hj; (try dsimp only at hj); (try dsimp only); omega), (((hsI.keep e19).keepA e20)).weak (by intro j hj; (try dsimp only at hj); (try dsimp only); omega), ⟨by have := hnv6.1; show xv6.1.length ≤ 1000000; omega, by have := hnv6.2; show xv6.2.length ≤ 1000000; omega, by show its.length ≤ 1000000; omega, fun x hx => ⟨by have := (hQ x hx).1; omega, hI x hx⟩⟩, by simpa using c23, Cn.seg_cart hsv6 (Cn.seg_many hsv9 hS hj3), (Ext.nw (Ext.nw (Ext.nw (Ext.refl _ _) e_1) e19) e20)⟩
end Go.Proofs.YtpbcafkcfobngaaGreatDoor
end
section
namespace Go.Proofs.YtpbcafkcfobngaaGreatDoor
open Go.Pn Go.RowKit Go.Proofs _root_.Go.Proofs.Tryz
attribute [local irreducible] O C D
theorem caught_idle (v : Value) (w : World) : CallsD Tryz.prog 194 #[v] .returning w fun e u' w' => (∃ q, e = .returned q) ∧ settle u' = .returning ∧ w' = w := by
 refine (callsD_recover (S := fun w' => w' = w) (u' := .returning) (rv := .nilIface) (args := [v]) (n := Tryz.f194.ntmps) func194 rfl rfl (leB rfl) rfl (fun c₀ cs hu => ?_) ?_).mono fun e u2 w' h => ⟨h.1, by rw [h.2.1]; rfl, h.2.2⟩
 ·simp [recoverD, hu]
 refine C.block fun K1 hK1 => C.seqK fun K2 hK2 => C.region (O.eqlN0 rfl underlying20 (O.nil (hK2 _ _ (C.condT rfl (C.region (O.asg (O.nil ?_)))))))
 exact hK1 _ _ rfl
theorem caught_wrong (b : Nat) (x : Int) (w : World) (ho : Own w b 28 [.int .i64 x]) : CallsD Tryz.prog 194 #[.pointer (some ⟨b, 0, none⟩)] (.panicking [{ v := .iface 282 (.agg #[]), recovered := false }]) w fun e u' w' => (∃ q, e = .returned q) ∧ settle u' = .returning ∧ (Own w' b 28 [.int .i64 12] ∧ Ext (fun j => j = b) w w') := by
 have hbl := ho.lt
 refine (callsD_recover (S := fun w' => Own w' b 28 [.int .i64 12] ∧ Ext (fun j => j = b) w w') (u' := .panicking [{ v := .iface 282 (.agg #[]), recovered := true }]) (rv := .iface 282 (.agg #[])) (args := [.pointer (some ⟨b, 0, none⟩)]) (n := Tryz.f194.ntmps) func194 rfl rfl (leB rfl) rfl (fun c₀ cs hu => ?_) ?_).mono fun e u2 w' h => ⟨h.1, by rw [h.2.1]; rfl, h.2.2⟩
 ·simp [recoverD, hu]
 refine C.block fun K1 hK1 => C.seqK fun K2 hK2 => C.region (O.eqlN1 rfl rfl underlying20 (O.nil (hK2 _ _ (C.condF rfl (C.seqK fun K3 hK3 => C.region (O.holds underlying282 rfl rfl (O.extract rfl rfl (O.extract rfl rfl (O.nil (hK3 _ _ (C.condT rfl (C.seqK fun K4 hK4 => C.region (O.alloc zeroValue282 (fun b3 w1 hb3 hz3 e1 => ?_))))))))))))))
 have z1 := e1.size
 refine O.storeA (vs := []) sizeOf282 rfl rfl rfl (by simp) hz3.own (Nat.zero_le _) (fun w2 hs2 e2 z2 => O.nil (hK4 _ _ (C.region (O.mv (O.nilChk rfl (O.store sizeOf28 rfl rfl rfl ((ho.keep e1).keepM e2 (by intro h; (try dsimp only at h); omega)) (by simp) (fun w3 hs3 e3 z3 => O.nil (hK1 _ _ ⟨hs3, ?_⟩))))))))
 exact Ext.trans (Ext.new (Le.to e1) e2 (by intro i hi h; (try dsimp only at h); omega)) e3
set_option maxHeartbeats 2000000 in
theorem prefix_spec (v0 : Value) (l : List UInt8) (F : Nat → Prop) (w : World) (hl : Sl byteE w F v0 l) (hL : l.length ≤ 1000000) (hF : ∀ j, F j → j < w.heap.size) (mx : Mx w) :
 Ret Tryz.prog 131 #[v0] w (fun v w' => ∃ (v1 v2 v3 : Value) (c : Cn.Cart) (k' : Nat) (e : Int), v = .tuple #[.agg #[v1, v2, v3], .int .i64 (k' : Int), .int .i64 e] ∧ Fre Dt.dotF 112 w' (fun j => w.heap.size ≤ j ∧ j < w'.heap.size) v1 c.1.1 ∧ Fre Dt.dotF 112 w' (fun j => w.heap.size ≤ j ∧ j < w'.heap.size) v2 c.1.2 ∧ SlI 117 114 w' (fun j => w.heap.size ≤ j ∧ j < w'.heap.size) v3 c.2 ∧ Cn.big c ∧ Cn.Pref l c k' e ∧ Le w w') := by
 have hgl := mx.lt
 have hll := hl.le
 have _hF9 := hF
 refine enterD (args := [v0]) (n := 14) (ks := [2, 3, 4]) func131 rfl rfl (leB rfl) rfl (C.region (O.alloc zeroValue47 (fun b2 w1 hb2 hz2 e1 => ?_)))
 have z1 := e1.size
 have h2 := hz2.own
 have hl2 := h2.lt
 refine O.asg (O.alloc zeroValue28 (fun b4 w2 hb4 hz4 e2 => ?_))
 have z2 := e2.size
 have h4 := hz4.own
 have hl4 := h4.lt
 refine O.nil (⟨.pointer (some ⟨b4, 0, none⟩), (fun ch w' => ch = [{ v := .iface 282 (.agg #[]), recovered := false }] ∧ Cn.No Cn.val Cn.bytes l 0 ∧ Le w2 w'), rfl, ?_, ?_⟩)
 ·
  refine CD.seqK fun K1 hK1 => CD.region (by kernel_rfl) rfl (O.mv (O.call call128 (args1 rfl) (rdNew_spec _ l _ _ ((hl.keep e1).keep e2) hL) ?_))
  rintro v_8 w3 ⟨brv8, vrv8, rfl, hov8, hlv8, hbv8, hb2v8, e3⟩
  have z3 := e3.size
  refine O.asg (O.nil (hK1 _ _ (CD.seqK fun K2 hK2 => CD.region (by kernel_rfl) rfl (O.mv (O.callZ call195 (args1 rfl) (dwhole_spec brv8 vrv8 l 0 _ _ hov8 hlv8 (Nat.zero_le _) (fun j hj => by have hj1 := hj.1; have hj2 := hj.2; exact ⟨by omega, by omega⟩) hL (((mx.keep e1).keep e2).keep e3) (by omega)) (fun ch_ wz_ hz_ => ?_) ?_)))))
  ·
   exact ⟨hz_.1, hz_.2.1, Ext.new e3 hz_.2.2 (by intro i hi h; (try dsimp only at h); omega)⟩
  rintro v_10 w4 ⟨vav10, vbv10, vcv10, cv10, knv10, rfl, hov10, hxv10, hyv10, hzv10, hgv10, hcv10, hsv10, e4⟩
  have z4 := e4.size
  obtain ⟨p1, rfl⟩ := hxv10.slv
  obtain ⟨p2, rfl⟩ := hyv10.slv
  obtain ⟨p3, rfl⟩ := hzv10.sl.slv
  refine O.alloc zeroValue47 (fun b6 w5 hb6 hz6 e5 => ?_)
  have z5 := e5.size
  have h6 := hz6.own
  have hl6 := h6.lt
  refine O.storeA (vs := [slv p1, slv p2, slv p3]) sizeOf47 rfl rfl rfl (by simp [slv, Value.oneCell']) h6 (leB rfl) (fun w6 hs6 e6 z6 => O.nil (hK2 _ _ (CD.seqK fun K3 hK3 => CD.drawB (wB := (bare w6)) (by kernel_rfl) fun w7 e7 => ?_)))
  have z7 := e7.size
  refine D.tk 1 rfl rfl rfl rfl (Ext.bare (Ext.new (Ext.refl (fun _ => True) _) e7 (fun _ _ _ => trivial))) ⟨pure _, rfl⟩ (fun _ hw_ _ hN => O.mv (O.nil hN)) (D.many [0, 2] (by kernel_rfl) (by decide) ⟨?_, ?_, trivial⟩)
  ·
   refine D.stepU rfl rfl (O.loadOA isAgg47 sizeOf47 rfl (hs6.keep e7) (leB rfl) (O.nil ⟨(Ext.bare (Ext.new (Ext.refl (fun _ => True) _) e7 (fun _ _ _ => trivial))), D.on 2 rfl rfl (O.call call132 (args1 rfl) (rdAt_spec brv8 vrv8 l knv10 _ _ (((hov10.keep e5).keepM e6 (by intro h; (try dsimp only at h); omega)).keep e7) ((((hlv8.keepM e4 (by intro k hk h; (try dsimp only at hk); (try dsimp only at h); omega)).keep e5).keepM e6 (by intro k hk h; (try dsimp only at hk); (try dsimp only at h); omega)).keep e7) (hsv10.2.2) (fun j hj => by have hj1 := hj.1; have hj2 := hj.2; exact ⟨by omega, by omega⟩)) ?_)⟩))
   rintro v_13 w8 ⟨rfl, hw_⟩
   replace hw_ := hw_.symm
   subst hw_
   refine O.nil ⟨(Ext.bare (Ext.new (Ext.refl (fun _ => True) _) e7 (fun _ _ _ => trivial))), D.on 3 rfl rfl (O.storeA (vs := [slv p1, slv p2, slv p3]) sizeOf47 rfl rfl rfl (by simp [slv, Value.oneCell']) ((((((h2.keep e2).keep e3).keepM e4 (by intro h; (try dsimp only at h); omega)).keep e5).keepM e6 (by intro h; (try dsimp only at h); omega)).keep e7) (leB rfl) (fun w8 hs8 e8 z8 => O.nil ⟨(Ext.bare (Ext.new (Ext.new (Ext.refl (fun _ => True) _) e7 (fun _ _ _ => trivial)) e8 (fun _ _ _ => trivial))), ?_⟩))⟩
   refine D.tk 4 rfl rfl rfl rfl (Ext.bare (Ext.new (Ext.new (Ext.refl (fun _ => True) _) e7 (fun _ _ _ => trivial)) e8 (fun _ _ _ => trivial))) ⟨pure _, rfl⟩ (fun _ hw_ _ hN => O.asg (O.nil hN)) (D.on 5 rfl rfl (O.store sizeOf28 rfl rfl rfl ((((((h4.keep e3).keepM e4 (by intro h; (try dsimp only at h); omega)).keep e5).keepM e6 (by intro h; (try dsimp only at h); omega)).keep e7).keepM e8 (by intro h; (try dsimp only at h); omega)) (by decide) (fun w9 hs9 e9 z9 => ?_)))
   (try simp only [Int.toNat_natCast] at hs9); (try simp only [Nat.zero_add] at hs9); (try simp only [Nat.mul_one] at hs9)
   refine O.nil ⟨(Ext.bare (Ext.new (Ext.new (Ext.new (Ext.refl (fun _ => True) _) e7 (fun _ _ _ => trivial)) e8 (fun _ _ _ => trivial)) e9 (fun _ _ _ => trivial))), D.dn (hK3 _ _ (CD.ret (leaves1 (by simp) call194 (caught_idle _ _) ?_)))⟩
   rintro _ rfl
   refine ⟨_, res_ctc (s := 3) rfl (getD_Fr _ _ 2) (getD_Fr _ _ 3) (getD_Fr _ _ 4) isAgg47 sizeOf47 (hs8.keepM e9 (by intro h; (try dsimp only at h); omega)) rfl isAgg28 hs9, ?_⟩
   exact ⟨slv p1, slv p2, slv p3, cv10, knv10, 0, rfl, ((((((hxv10.keep e5).keepA e6).keep e7).keepA e8).keepA e9)).weak (by intro j hj; (try dsimp only at hj); (try dsimp only); omega), ((((((hyv10.keep e5).keepA e6).keep e7).keepA e8).keepA e9)).weak (by intro j hj; (try dsimp only at hj); (try dsimp only); omega), ((((((hzv10.keep e5).keepA e6).keep e7).keepA e8).keepA e9)).weak (by intro j hj; (try dsimp only at hj); (try dsimp only); omega), hgv10, .inl ⟨rfl, hcv10, hsv10⟩, (Ext.nr (Ext.nr (Ext.trans (Ext.nr (Ext.trans (Ext.nr (Ext.trans (Ext.trans e1 e2) e3) e4) e5) e6) e7) e8) e9)⟩
  ·
   refine D.stepU rfl rfl (O.call call132 (args1 rfl) (rdAt_spec brv8 vrv8 l knv10 _ _ (((hov10.keep e5).keepM e6 (by intro h; (try dsimp only at h); omega)).keep e7) ((((hlv8.keepM e4 (by intro k hk h; (try dsimp only at hk); (try dsimp only at h); omega)).keep e5).keepM e6 (by intro k hk h; (try dsimp only at hk); (try dsimp only at h); omega)).keep e7) (hsv10.2.2) (fun j hj => by have hj1 := hj.1; have hj2 := hj.2; exact ⟨by omega, by omega⟩)) ?_)
   rintro v_13 w10 ⟨rfl, hw_⟩
   replace hw_ := hw_.symm
   subst hw_
   refine O.nil ⟨(Ext.bare (Ext.new (Ext.refl (fun _ => True) _) e7 (fun _ _ _ => trivial))), D.on 0 rfl rfl (O.loadOA isAgg47 sizeOf47 rfl (hs6.keep e7) (leB rfl) (O.nil ⟨(Ext.bare (Ext.new (Ext.refl (fun _ => True) _) e7 (fun _ _ _ => trivial))), D.on 3 rfl rfl (O.storeA (vs := [slv p1, slv p2, slv p3]) sizeOf47 rfl rfl rfl (by simp [slv, Value.oneCell']) ((((((h2.keep e2).keep e3).keepM e4 (by intro h; (try dsimp only at h); omega)).keep e5).keepM e6 (by intro h; (try dsimp only at h); omega)).keep e7) (leB rfl) (fun w10 hs10 e10 z10 => ?_))⟩))⟩
   refine O.nil ⟨(Ext.bare (Ext.new (Ext.new (Ext.refl (fun _ => True) _) e7 (fun _ _ _ => trivial)) e10 (fun _ _ _ => trivial))), D.tk 4 rfl rfl rfl rfl (Ext.bare (Ext.new (Ext.new (Ext.refl (fun _ => True) _) e7 (fun _ _ _ => trivial)) e10 (fun _ _ _ => trivial))) ⟨pure _, rfl⟩ (fun _ hw_ _ hN => O.asg (O.nil hN)) (D.on 5 rfl rfl (O.store sizeOf28 rfl rfl rfl ((((((h4.keep e3).keepM e4 (by intro h; (try dsimp only at h); omega)).keep e5).keepM e6 (by intro h; (try dsimp only at h); omega)).keep e7).keepM e10 (by intro h; (try dsimp only at h); omega)) (by decide) (fun w11 hs11 e11 z11 => ?_)))⟩
   (try simp only [Int.toNat_natCast] at hs11); (try simp only [Nat.zero_add] at hs11); (try simp only [Nat.mul_one] at hs11)
   refine O.nil ⟨(Ext.bare (Ext.new (Ext.new (Ext.new (Ext.refl (fun _ => True) _) e7 (fun _ _ _ => trivial)) e10 (fun _ _ _ => trivial)) e11 (fun _ _ _ => trivial))), D.dn (hK3 _ _ (CD.ret (leaves1 (by simp) call194 (caught_idle _ _) ?_)))⟩
   rintro _ rfl
   refine ⟨_, res_ctc (s := 3) rfl (getD_Fr _ _ 2) (getD_Fr _ _ 3) (getD_Fr _ _ 4) isAgg47 sizeOf47 (hs10.keepM e11 (by intro h; (try dsimp only at h); omega)) rfl isAgg28 hs11, ?_⟩
   exact ⟨slv p1, slv p2, slv p3, cv10, knv10, 0, rfl, ((((((hxv10.keep e5).keepA e6).keep e7).keepA e10).keepA e11)).weak (by intro j hj; (try dsimp only at hj); (try dsimp only); omega), ((((((hyv10.keep e5).keepA e6).keep e7).keepA e10).keepA e11)).weak (by intro j hj; (try dsimp only at hj); (try dsimp only); omega), ((((((hzv10.keep e5).keepA e6).keep e7).keepA e10).keepA e11)).weak (by intro j hj; (try dsimp only at hj); (try dsimp only); omega), hgv10, .inl ⟨rfl, hcv10, hsv10⟩, (Ext.nr (Ext.nr (Ext.trans (Ext.nr (Ext.trans (Ext.nr (Ext.trans (Ext.trans e1 e2) e3) e4) e5) e6) e7) e10) e11)⟩
 ·
  rintro a ch wz hh ⟨rfl, hno, ez⟩
  refine leaves1 (by simp) call194 (caught_wrong b4 0 wz ((h4).keep ez)) ?_
  rintro w9 ⟨ho9, e9⟩
  have h2l := (((h2.keep e2)).keep ez).lt
  refine ⟨_, res_ctc (s := 3) rfl (hh 2 (by decide)) (hh 3 (by decide)) (hh 4 (by decide)) isAgg47 sizeOf47 ((((h2.keep e2)).keep ez).keepM e9 (by intro h; (try dsimp only at h); omega)) rfl isAgg28 ho9, ?_⟩
  exact ⟨_, _, _, Cn.nil0, 0, 12, rfl, Fre.nil _ _ _ _, Fre.nil _ _ _ _, SlI.nil _ _ _ _, Cn.big_nil0, .inr ⟨rfl, rfl, rfl, hno⟩, Ext.new (Ext.trans (Ext.trans e1 e2) ez) e9 (by intro i hi h; (try dsimp only at h); omega)⟩
end Go.Proofs.YtpbcafkcfobngaaGreatDoor
end
section
namespace Go.Proofs.YtpbcafkcfobngaaGreatDoor
open Go.Pn Go.RowKit Go.Proofs _root_.Go.Proofs.Tryz
attribute [local irreducible] O C D
theorem inf50 : ∃ ie, Tryz.prog.info? 50 = some ie ∧ ie.size = 4 ∧ ie.bytes = 88 ∧ ie.zero = some (.agg #[.string ⟨#[]⟩, .slice none 0 0, .slice none 0 0, .slice none 0 0]) := by
 have h : (Tryz.prog.info? 50).isSome = true := by kernel_rfl
 exact ⟨(Tryz.prog.info? 50).get h, (Option.some_get h).symm, by kernel_rfl, by kernel_rfl, by kernel_rfl⟩
set_option maxHeartbeats 1000000 in
theorem rdTake_spec (b : Nat) (vr : Value) (l : List UInt8) (k : Nat) (F : Nat → Prop) (n : Nat) (w : World) (ho : Own w b 234 [.bool true, vr, .int .i64 ((k : Int))]) (hl : Sl byteE w F vr l) (hk : k ≤ l.length) (hF : ∀ j, F j → j ≠ b ∧ j < w.heap.size) (hL : l.length ≤ 1000000) (hn : n ≤ 1000000) :
 Ret Tryz.prog 133 #[.pointer (some ⟨b, 0, none⟩), .int .i64 ((n : Int))] w (fun v w' => ∃ (vb : Value) (e : Int) (k' : Nat), v = .tuple #[vb, .int .i64 e] ∧ Own w' b 234 [.bool true, vr, .int .i64 ((k' : Int))] ∧ ((e = 0 ∧ n ≤ l.length - k ∧ k' = k + n) ∨ (e = 4 ∧ l.length - k < n ∧ k' = k)) ∧ Ext (fun j => j = b) w w') := by
 have _hF9 := hF
 have _hk9 := hk
 have hbl := ho.lt
 have hll := hl.le
 refine enT [.pointer (some ⟨b, 0, none⟩), .int .i64 ((n : Int))] 18 func133 rfl rfl (C.seqK fun K1 hK1 => C.region (O.asg (O.asg (O.nil (hK1 _ _ (C.seqK fun K2 hK2 => C.block fun K3 hK3 => C.seqK fun K4 hK4 => C.region (O.mv (O.call call188 (args1 rfl) (zero_spec b vr l _ F _ ho hl (by omega) (fun j hj => by have q1 := hF j hj; omega)) ?_))))))))
 rintro v_8 w1 ⟨rfl, hw_⟩
 replace hw_ := hw_.symm
 subst hw_
 refine O.asg (O.nil (hK4 _ _ (C.condF rfl (C.seqK fun K5 hK5 => C.region (O.mv (O.lssI rfl rfl (O.cast (v' := .bool false) (congrArg Value.bool (by exact decide_eq_false (by omega))) (O.asg (O.nil (hK5 _ _ (C.condF rfl (C.skip (hK3 _ _ (hK2 _ _ (C.seqK fun K6 hK6 => C.region (O.mv (O.mv (O.convIU (m' := 64) underlying3 underlying110 rfl rfl rfl (O.call call193 (args2 rfl rfl) (rtake_spec b vr l k F (BitVec.ofInt 64 (n : Int)) _ ho hl hk (fun j hj => by have q1 := hF j hj; omega) hL) ?_)))))))))))))))))))
 rintro v_15 w1 ⟨vbv15, sv15, env15, knv15, rfl, hov15, hbv15, hcv15, e1⟩
 have z1 := e1.size
 refine O.extract rfl rfl (O.extract rfl rfl (O.asg (O.asg (O.nil (hK6 _ _ (C.ret (Outs.two rfl rfl rfl ?_)))))))
 have hnn : (BitVec.ofInt 64 (n : Int)).toNat = n := by rw [BitVec.toNat_ofInt]; omega
 rw [hnn] at hcv15
 exact ⟨_, _, _, rfl, hov15, hcv15.imp (fun q => ⟨q.1, q.2.1, q.2.2.1⟩) id, (Ext.nw (Ext.refl _ _) e1)⟩
set_option maxHeartbeats 8000000 in
theorem entries_spec (v0 : Value) (p : List UInt8) (F : Nat → Prop) (w : World) (hl : Sl byteE w F v0 p) (hL : p.length ≤ 1000000) (hF : ∀ j, F j → j < w.heap.size) (mx : Mx w) :
 Ret Tryz.prog 85 #[v0] w (fun v w' => ∃ (u : Value) (es : List EntT) (ok : Bool), v = .tuple #[u, .bool ok] ∧ SlE 50 112 117 114 w' w.heap.size w'.heap.size u es ∧ Bt.Big es ∧ Bt.EntRes p es ok ∧ Le w w') := by
 have hgl := mx.lt
 have hll := hl.le
 have _hF9 := hF
 obtain ⟨ie50, ti50, ts50, tb50, tz50⟩ := inf50
 refine enT [v0] 61 func85 rfl rfl (C.seqK fun K1 hK1 => C.region (O.asg (O.asg (O.nil (hK1 _ _ (C.seqK fun K2 hK2 => C.region (O.mv (O.call call128 (args1 rfl) (rdNew_spec _ p _ _ hl hL) ?_))))))))
 rintro v_13 w1 ⟨brv13, vrv13, rfl, hov13, hlv13, hbv13, hb2v13, e1⟩
 have z1 := e1.size
 refine O.asg (O.nil (hK2 _ _ (C.seqK fun K3 hK3 => C.region (O.mv (O.call call129 (args2 rfl rfl) (rdNum_spec brv13 vrv13 p 0 _ 1024#64 _ hov13 hlv13 (Nat.zero_le _) (fun j hj => by have hj1 := hj.1; have hj2 := hj.2; exact ⟨by omega, by omega⟩) hL) ?_)))))
 rintro v_16 w2 ⟨nv16, env16, knv16, rfl, hov16, hcv16, e2⟩
 have z2 := e2.size
 refine O.mv (O.extract rfl rfl (O.extract rfl rfl (O.asg (O.asg (O.nil (hK3 _ _ (C.seqK fun K4 hK4 => C.seqK fun K5 hK5 => C.region (O.mv (O.neqI rfl rfl (O.nil (hK5 _ _ (C.condD rfl (fun c20 => ?_) (fun c20 => ?_)))))))))))))
 ·
  have hno : Bt.EntRes p [] false := by
   rcases hcv16 with ⟨q, _⟩ | ⟨_, _, _, q⟩
   ·exact absurd q c20
   ·exact Bt.res_num q
  refine C.seqK fun K6 hK6 => C.region (O.asg (O.asg (O.nil (hK6 _ _ (C.ret (Outs.two rfl rfl rfl ?_))))))
  exact ⟨_, [], false, rfl, SlE.nil _ _ _ _ _ (by omega), (fun x hx => by cases hx), hno, (Ext.nr e1 e2)⟩
 ·
  have sp1_ : nv16.toNat ≤ 1024 ∧ Cn.SegN nv16 p 0 knv16 := by
   rcases hcv16 with ⟨_, q, q2⟩ | ⟨q, _⟩
   ·exact ⟨q, q2⟩
   ·exfalso; omega
  obtain ⟨hn16, hs16⟩ := sp1_
  have sp2_ : ∃ n, n = w2.heap.size := ⟨_, rfl⟩
  obtain ⟨n9, hn9⟩ := sp2_
  have hog0 : OG entF 50 w2 (.slice none 0 0) 0 [] := OG.nil (by omega)
  have hen0 : EntsD 112 117 114 w2 (fun j => j ≠ 0) n9 n9 [] [] := EntsD.nil (Nat.le_refl _)
  refine C.skip (hK4 _ _ (C.seqK fun K7 hK7 => C.region (O.asg (O.nil (hK7 _ _ (C.seqK fun K8 hK8 => C.seqK fun K9 hK9 => C.region (O.mv (O.mv (O.nil (hK9 _ _ (C.block fun K10 hK10 => ?_)))))))))))
  refine C.loop0 (σ := Value × Nat × List EntR × List EntT × Nat × Nat) (fun f0 w0 ⟨o, gl, raw, es, kc, hz⟩ f wz => f 7 = o ∧ f 22 = .int .u64 ((BitVec.ofNat 64 es.length).toNat : Int) ∧ f 0 = f0 0 ∧ f 4 = f0 4 ∧ f 21 = f0 21 ∧ Le w wz ∧ Own wz brv13 234 [.bool true, vrv13, .int .i64 ((kc : Int))] ∧ Sl byteE wz (fun j => w.heap.size ≤ j ∧ j < brv13) vrv13 p ∧ OG entF 50 wz o gl raw ∧ EntsD 112 117 114 wz (fun j => j ≠ gl) n9 hz raw es ∧ (∀ j, bk o j → n9 ≤ j) ∧ (gl = 0 ∨ n9 ≤ gl) ∧ (n9 ≤ hz ∧ hz ≤ wz.heap.size ∧ n9 ≤ wz.heap.size) ∧ es.length ≤ nv16.toNat ∧ kc ≤ p.length ∧ Bt.Big es ∧ Cn.manyQ Bt.okQ es ∧ Cn.Seg (es.flatMap Bt.entB) p knv16 kc) (fun ⟨o, gl, raw, es, kc, hz⟩ => nv16.toNat - es.length) (.slice none 0 0, 0, [], [], knv16, n9) ?_ ?_
  ·
   refine ⟨rfl, rfl, rfl, rfl, rfl, (Ext.nr e1 e2), hov16, (hlv13.keepA e2), hog0, hen0, ?_⟩
   exact ⟨fun _ h => h.elim, .inl rfl, by omega, Nat.zero_le _, hs16.2.2, (fun x hx => by cases hx), Cn.manyQ_nil, Cn.Seg.nil hs16.2.2⟩
  ·
   rintro ⟨o, gl, raw, es, kc, hz⟩ f_1 w3 ⟨s7_1, s22_1, s0_1, s4_1, s21_1, e_1, r0_1, r1_1, r2_1, r3_1, ⟨hob, hgl2, hhz, hjn, hkc, hBs, hQ, hS⟩⟩
   have z_1 := e_1.size
   have hen := r3_1
   have hrl := hen.1
   have hgl := (r2_1).2.2
   have hogu := (r2_1).2.1
   have sp3_ : ∃ n, n = w3.heap.size := ⟨_, rfl⟩
   obtain ⟨w0_, hw0_⟩ := sp3_
   refine C.seqK fun K11 hK11 => C.region (O.lssU (m := 64) s22_1 s21_1 (O.nil (hK11 _ _ (C.seqK fun K12 hK12 => C.condD rfl (fun c23 => ?_) (fun c23 => ?_)))))
   ·
    have hj2 : es.length < nv16.toNat := (Bt.lt_of_ofNat (by omega)).1 c23
    refine C.skip (hK12 _ _ (C.seqK fun K13 hK13 => C.block fun K14 hK14 => C.seqK fun K15 hK15 => C.region (O.mv (O.call call130 (args2 s4_1 rfl) (rdStr_spec brv13 vrv13 p kc _ 64 _ r0_1 r1_1 hkc (fun j hj => by have hj1 := hj.1; have hj2 := hj.2; exact ⟨by omega, by omega⟩) hL (by unfold InI; omega)) ?_))))
    rintro v_26 w4 ⟨nv26, env26, knv26, rfl, hov26, hcv26, e4⟩
    have z4 := e4.size
    refine O.mv (O.extract rfl rfl (O.extract rfl rfl (O.asg (O.asg (O.nil (hK15 _ _ (C.seqK fun K16 hK16 => C.seqK fun K17 hK17 => C.region (O.mv (O.neqI rfl rfl (O.nil (hK17 _ _ (C.condD rfl (fun c30 => ?_) (fun c30 => ?_)))))))))))))
    ·
     have hno : Bt.EntRes p [] false := by
      rcases hcv26 with ⟨q, _⟩ | ⟨_, _, q⟩
      ·exact absurd q c30
      ·exact Bt.res_ent hs16 hS hQ hj2 (Bt.no_okQ1 q)
     refine C.seqK fun K18 hK18 => C.region (O.asg (O.asg (O.nil (hK18 _ _ (C.ret (Outs.two rfl rfl rfl ?_))))))
     exact ⟨_, [], false, rfl, SlE.nil _ _ _ _ _ (by omega), (fun x hx => by cases hx), hno, (Ext.nr e_1 e4)⟩
    ·
     have sp4_ : (nv26.length : Int) ≤ 64 ∧ Cn.Seg (Cn.strB nv26) p kc knv26 := by
      rcases hcv26 with ⟨_, q, q2⟩ | ⟨q, _⟩
      ·exact ⟨q, q2⟩
      ·exfalso; omega
     obtain ⟨hq26, hs26⟩ := sp4_
     have hk26 : knv26 ≤ p.length := hs26.2.2
     refine C.skip (hK16 _ _ (C.seqK fun K19 hK19 => C.region (O.mv (O.mv (O.call call132 (args1 s4_1) (rdAt_spec brv13 vrv13 p knv26 _ _ hov26 (r1_1.keepA e4) hk26 (fun j hj => by have hj1 := hj.1; have hj2 := hj.2; exact ⟨by omega, by omega⟩)) ?_)))))
     rintro v_34 w5 ⟨rfl, hw_⟩
     replace hw_ := hw_.symm
     subst hw_
     have hb35 := Sl.sub (P := Tryz.prog) (knv26) (p.length) underlying30 sizeOf5 (by rfl) ((hl.keep e_1).keepA e4) hk26 (Nat.le_refl _)
     obtain ⟨v35, hs35, hr35⟩ := hb35
     refine O.subR s0_1 hr35 (.inr ⟨_, _, rfl, rfl⟩) (.inl ⟨rfl, rfl⟩) ?_
     rw [List.take_length] at hs35
     refine O.call call131 (args1 rfl) (prefix_spec _ (p.drop knv26) _ _ hs35 (by rw [List.length_drop]; omega) (fun j hj => by have q1 := hF j hj; omega) ((mx.keep e_1).keepM e4 (by intro h; (try dsimp only at h); omega))) ?_
     rintro v_36 w5 ⟨vav36, vbv36, vcv36, cv36, knv36, env36, rfl, hxv36, hyv36, hzv36, hgv36, hpv36, e5⟩
     have z5 := e5.size
     have sp5_ := hxv36.slv
     obtain ⟨p1, sp5_⟩ := sp5_
     subst sp5_
     have sp6_ := hyv36.slv
     obtain ⟨p2, sp6_⟩ := sp6_
     subst sp6_
     have sp7_ := hzv36.sl.slv
     obtain ⟨p3, sp7_⟩ := sp7_
     subst sp7_
     have sp8_ : ∃ n, n = w5.heap.size := ⟨_, rfl⟩
     obtain ⟨wa, hwa⟩ := sp8_
     have hca36 : CartF 112 117 114 w5 (fun j => w0_ ≤ j ∧ j < wa) ((p1, p2), p3) cv36 := ⟨hxv36.weak (by intro j hj; (try dsimp only at hj); (try dsimp only); omega), hyv36.weak (by intro j hj; (try dsimp only at hj); (try dsimp only); omega), hzv36.weak (by intro j hj; (try dsimp only at hj); (try dsimp only); omega)⟩
     refine O.mv (O.extract rfl rfl (O.extract rfl rfl (O.extract rfl rfl (O.alloc zeroValue47 (fun b10 w6 hb10 hz10 e6 => ?_)))))
     have z6 := e6.size
     have h10 := hz10.own
     have hl10 := h10.lt
     refine O.storeA (vs := [slv p1, slv p2, slv p3]) sizeOf47 rfl rfl rfl (by intro u hu; simp only [List.mem_cons, List.not_mem_nil, or_false] at hu; rcases hu with rfl | rfl | rfl <;> rfl) h10 (leB rfl) (fun w7 hs7 e7 z7 => O.asg (O.asg (O.nil (hK19 _ _ (C.seqK fun K20 hK20 => C.seqK fun K21 hK21 => C.region (O.mv (O.neqI rfl rfl (O.nil (hK21 _ _ (C.condD rfl (fun c41 => ?_) (fun c41 => ?_)))))))))))
     ·
      have hno : Bt.EntRes p [] false := by
       rcases hpv36 with ⟨q, _⟩ | ⟨_, _, _, q⟩
       ·exact absurd q c41
       ·exact Bt.res_ent hs16 hS hQ hj2 (Bt.no_okQ2 hs26 hq26 (Bt.no_drop q))
      refine C.seqK fun K22 hK22 => C.region (O.asg (O.asg (O.nil (hK22 _ _ (C.ret (Outs.two rfl rfl rfl ?_))))))
      exact ⟨_, [], false, rfl, SlE.nil _ _ _ _ _ (by omega), (fun x hx => by cases hx), hno, (Ext.nr (Ext.trans (Ext.trans (Ext.nr e_1 e4) e5) e6) e7)⟩
     ·
      have sp9_ : Cn.valid cv36 = true ∧ Cn.Seg (Cn.bytes cv36) p knv26 (knv26 + knv36) := by
       rcases hpv36 with ⟨_, q, q2⟩ | ⟨q, _⟩
       ·exact ⟨q, Bt.seg_drop q2 hk26⟩
       ·exfalso; omega
      obtain ⟨hv36, hs36⟩ := sp9_
      have hk36b := hs36.2.2
      have hk36 : knv36 ≤ 1000000 := by omega
      refine C.skip (hK20 _ _ (C.seqK fun K23 hK23 => C.seqK fun K24 hK24 => C.region (O.mv (O.mv ?_))))
      have t0 := ((r1_1.keepA e4).keep e5).keep e6
      refine O.call call133 (args2 s4_1 rfl) (rdTake_spec brv13 vrv13 p knv26 _ knv36 _ (((hov26.keep e5).keep e6).keepM e7 (by intro h; (try dsimp only at h); omega)) (t0.keepA e7) hk26 (fun j hj => by have hj1 := hj.1; have hj2 := hj.2; exact ⟨by omega, by omega⟩) hL hk36) ?_
      rintro v_45 w8 ⟨vbv45, env45, knv45, rfl, hov45, hcv45, e8⟩
      have z8 := e8.size
      refine O.mv (O.extract rfl rfl (O.extract rfl rfl (O.asg (O.nil (hK24 _ _ (C.seqK fun K25 hK25 => C.region (O.mv (O.neqI rfl rfl (O.nil (hK25 _ _ (C.condD rfl (fun c49 => ?_) (fun c49 => ?_))))))))))))
      ·
       exfalso
       rcases hcv45 with ⟨q, _⟩ | ⟨_, q, _⟩
       ·exact c49 q
       ·omega
      ·
       have hkn : knv45 = knv26 + knv36 := by
        rcases hcv45 with ⟨_, _, q⟩ | ⟨q, _⟩
        ·exact q
        ·exfalso; omega
       refine C.skip (hK23 _ _ (C.region (O.mv (O.mv (O.loadOA isAgg47 sizeOf47 rfl (hs7.keepM e8 (by intro h; (try dsimp only at h); omega)) (leB rfl) (O.build (cells := #[str nv26, slv p1, slv p2, slv p3]) rfl (by kernel_rfl) (O.litG (G := entF) [(nv26, (p1, p2), p3)] underlying22 ti50 ts50 tz50 rfl (by decide) (by decide) rfl (fun b54 w9 hb54 hz54 e9 => ?_))))))))
       have z9 := e9.size
       have h54 := hz54.own
       have hq54 := Sl.litG (n := 1) h54 rfl (by unfold maxLen; omega)
       have t1 := (((r2_1.keepA e4).keep e5).keep e6).keepA e7
       refine O.appG (G := entF) underlying22 ti50 tz50 ts50 rfl s7_1 rfl ((t1.keepA e8).keep e9) hq54 (by rw [tb50]; simp; omega) (by unfold maxLen; simp; omega) (fun v55 gg55 w10 h55 hg55 e10 hw55 => ?_)
       have e10m := e10.mono (M' := fun k => k = _) (fun k _ hk => ((t1.keepA e8).keep e9).2.1 k hk)
       have z10 := e10.size
       have hgl55 := h55.2.2
       have hgg := h55.2.2
       have hob55 : ∀ k, bk v55 k → n9 ≤ k := fun k hk => by
        rcases hw55 k hk with q | q
        ·exact hob k q
        ·omega
       have hg55 : n9 ≤ gg55 := hob55 _ (h55.bk (by simp))
       have hgg55 := (hw55 _ (h55.bk (by simp))).imp (hogu _) id
       refine O.asg (O.nil (hK14 _ _ (hK13 _ _ (C.region (O.addU (m := 64) (b := 1#64) rfl rfl s22_1 rfl (O.mv (O.nil ?_)))))))
       refine ⟨(_, _, _, es ++ [(nv26, cv36)], _, _), ⟨rfl, (Eq.trans rfl (congrArg (fun q : BitVec 64 => Value.int .u64 (q.toNat : Int)) (by rw [Bt.ofNat_succ, List.length_append]; rfl))), s0_1, s4_1, s21_1, (Ext.new (Ext.trans (Ext.nr (Ext.nr (Ext.trans (Ext.trans (Ext.nr e_1 e4) e5) e6) e7) e8) e9) e10 (by intro i hi h; have := hob i h; omega)), ((hov45.keep e9).keepM e10 (fun h => by have := hob _ h; have := hogu _ h; omega)), ((((t0.keepA e7).keepA e8).keep e9).keepM e10 (by intro j hj h; have q2 := hob j h; have q3 := hogu j h; first | (have q1 := hF j hj; omega) | ((try dsimp only at hj); omega))), h55, ((((((((((r3_1.keepM e4 (by intro k hG h1 h2 h; (try dsimp only at h); omega)).keep e5).keep e6).keepA e7).keepM e8 (by intro k hG h1 h2 h; (try dsimp only at h); omega)).keep e9).keepM e10 (by intro k hG h1 h2 h; exact hG (hogu k h)))).weak (fun j h1 h2 h3 => by (try dsimp only); omega)).snoc (x := (nv26, cv36)) (hi' := wa) (by omega) rfl (((((((hca36.keep e6).keepA e7).keepA e8).keep e9).keepM e10 (by intro j hj h; have q2 := hob j h; have q3 := hogu j h; first | (have q1 := hF j hj; omega) | ((try dsimp only at hj); omega)))).weak (fun j hj => by (try dsimp only at hj); (try dsimp only); omega))), ?_⟩, by show nv16.toNat - (es ++ [_]).length < nv16.toNat - es.length; rw [List.length_append]; show nv16.toNat - (es.length + 1) < _; omega⟩
       exact ⟨hob55, .inr hg55, by omega, by rw [List.length_append]; exact hj2, by omega, Bt.Big.snoc hBs ⟨by show nv26.length ≤ 1000000; omega, hgv36⟩, Cn.manyQ_snoc hQ ⟨hq26, hv36⟩, by rw [hkn]; exact hS.snoc (Bt.seg_ent hs26 hs36)⟩
   ·
    have hj3 : es.length = nv16.toNat := by have q := mt (Bt.lt_of_ofNat (j := es.length) (by omega)).2 c23; omega
    refine C.exit (hK10 _ _ (hK8 _ _ (C.seqK fun K26 hK26 => C.region (O.mv (O.mv (O.call call134 (args1 s4_1) (rdLeft_spec brv13 vrv13 p kc _ _ r0_1 r1_1 hkc (fun j hj => by have hj1 := hj.1; have hj2 := hj.2; exact ⟨by omega, by omega⟩)) ?_))))))
    rintro v_59 w11 ⟨rfl, e11⟩
    have z11 := e11.size
    refine O.eqlI rfl rfl (O.asg (O.asg (O.nil (hK26 _ _ (C.ret (Outs.two rfl s7_1 rfl ?_))))))
    first
    | exact ⟨_, [], false, rfl, SlE.nil _ _ _ _ _ (by omega), (fun x hx => by cases hx), hno, (Ext.trans e_1 e11)⟩
    | (refine ⟨o, es, _, rfl, ⟨raw, ((r2_1.keep e11)).1.fre (fun j hj => ?_), (((r3_1.keep e11)).weak (fun k _ _ hG hb => hG (hogu k hb))).wide (by omega) (by omega)⟩, hBs, Bt.res_end hs16 hS hQ hj3 hn16, (Ext.trans e_1 e11)⟩
       have := hob j hj
       have := hogu j hj
       (try dsimp only)
       omega)
end Go.Proofs.YtpbcafkcfobngaaGreatDoor
end
section
namespace Go.Proofs.YtpbcafkcfobngaaGreatDoor
open Go.Pn Go.RowKit Go.Proofs _root_.Go.Proofs.Tryz
attribute [local irreducible] O C D
set_option maxHeartbeats 2000000 in
theorem bdecode_spec (v0 : Value) (p : List UInt8) (F : Nat → Prop) (w : World) (hl : Sl byteE w F v0 p) (hL : p.length ≤ 1000000) (hF : ∀ j, F j → j < w.heap.size) (mx : Mx w) :
 Ret Tryz.prog 37 #[v0] w (fun v w' => ∃ (u : Value) (es : List EntT) (e : Int), v = .tuple #[u, .int .i64 e] ∧ SlE 50 112 117 114 w' w.heap.size w'.heap.size u es ∧ Bt.Big es ∧ Bt.DecRes p es e ∧ Le w w') := by
 have hgl := mx.lt
 have hll := hl.le
 have _hF9 := hF
 refine enT [v0] 55 func37 rfl rfl (C.seqK fun K1 hK1 => C.region (O.asg (O.asg (O.nil (hK1 _ _ (C.seqK fun K2 hK2 => C.region (O.mv (O.len underlying30 rfl hl (O.subI rfl rfl (by unfold InI; omega) (O.asg (O.nil (hK2 _ _ (C.seqK fun K3 hK3 => C.seqK fun K4 hK4 => C.region (O.mv (O.lssI rfl rfl (O.mv (O.splitD (x := .tmp 15) rfl (fun c15 => ?_) (fun c15 => ?_))))))))))))))))))
 ·
  have hno : Bt.DecRes p [] 12 := Bt.dec_short (by omega)
  refine O.no rfl (noB (isT rfl c15) rfl) (O.no rfl (noB (isT rfl c15) rfl) (O.no rfl (noB (isT rfl c15) rfl) (O.pickT (isT rfl c15) (O.nil (hK4 _ _ (C.condT rfl (C.seqK fun K5 hK5 => C.region (O.asg (O.asg (O.nil (hK5 _ _ (C.ret (Outs.two rfl rfl rfl ?_)))))))))))))
  exact ⟨_, [], 12, rfl, SlE.nil _ _ _ _ _ (by omega), (fun x hx => by cases hx), hno, (Le.refl _)⟩
 ·
  have hn4 : 4 ≤ p.length := by omega
  have sp1_ : ∃ q, q = p.drop (p.length - 4) := ⟨_, rfl⟩
  obtain ⟨q, hq⟩ := sp1_
  have hq4 : q.length = 4 := by rw [hq, List.length_drop]; omega
  refine O.yes rfl (isF rfl c15) (O.mv (O.yes rfl (isF rfl c15) (O.len underlying30 rfl hl (O.yes rfl (isF rfl c15) (O.gtrI rfl rfl (O.cast (v' := .bool false) (congrArg Value.bool (by exact decide_eq_false (by omega))) (O.pickF (isF rfl c15) (O.nil (hK4 _ _ (C.condF rfl (C.skip (hK3 _ _ (C.seqK fun K6 hK6 => C.region (O.asg (O.nil (hK6 _ _ (C.seqK fun K7 hK7 => C.seqK fun K8 hK8 => C.region (O.mv (O.mv ?_)))))))))))))))))))
  have hb22 := Sl.sub (P := Tryz.prog) ((p.length - 4)) (p.length) underlying30 sizeOf5 (by rfl) hl (by omega) (Nat.le_refl _)
  obtain ⟨v22, hs22, hr22⟩ := hb22
  refine O.subR rfl hr22 (.inr ⟨_, _, rfl, (Eq.trans rfl (i64_eq (show (p.length : Int) - 4 = ((p.length - 4 : Nat) : Int) by omega)))⟩) (.inl ⟨rfl, rfl⟩) ?_
  rw [List.take_length, ← hq] at hs22
  refine O.len underlying30 rfl hs22 (O.mv (O.nil (hK8 _ _ (C.block fun K9 hK9 => C.loop0 (σ := Nat) (fun f0 w0 k f w => f 24 = .int .i64 ((k : Int)) ∧ f 5 = .int .u32 ((Bt.sumU (q.take k)).toNat : Int) ∧ f 0 = f0 0 ∧ f 2 = f0 2 ∧ f 3 = f0 3 ∧ f 4 = f0 4 ∧ f 22 = f0 22 ∧ f 23 = f0 23 ∧ Le w0 w ∧ k ≤ q.length) (fun k => q.length - k) 0 ?_ ?_))))
  ·
   refine ⟨rfl, rfl, rfl, rfl, rfl, rfl, rfl, rfl, Le.refl _, ?_⟩
   exact Nat.zero_le _
  ·
   rintro k f_1 w1 ⟨s24_1, s5_1, s0_1, s2_1, s3_1, s4_1, s22_1, s23_1, e_1, hk⟩
   have z_1 := e_1.size
   refine C.seqK fun K10 hK10 => C.region (O.lssI s24_1 s23_1 (O.nil (hK10 _ _ (C.seqK fun K11 hK11 => C.condD rfl (fun c25 => ?_) (fun c25 => ?_)))))
   ·
    have hk2 : k < q.length := by omega
    refine C.skip (hK11 _ _ (C.seqK fun K12 hK12 => C.block fun K13 hK13 => C.seqK fun K14 hK14 => C.region (O.idx underlying30 sizeOf5 rfl s22_1 (hs22.keep e_1) s24_1 (by omega) (fun a26 h26 => O.loadB isAgg5 rfl h26 ?_))))
    have sp2_ : ∃ y : UInt8, y = q[k] := ⟨_, rfl⟩
    obtain ⟨y, hy⟩ := sp2_
    refine O.cast (v' := .int .u8 (y.toBitVec.toNat : Int)) (by rw [hy]; rfl) (O.asg (O.nil (hK14 _ _ (C.region (O.mv (O.shlU (m := 32) (c := 8) rfl rfl s5_1 rfl (O.mv (O.convUU (m := 8) (m' := 32) underlying5 underlying34 rfl rfl rfl (O.orU (m := 32) rfl rfl rfl rfl (O.asg (O.nil (hK13 _ _ (hK12 _ _ (C.region (O.addI s24_1 rfl (by unfold InI; omega) (O.mv (O.nil (⟨(k + 1), ⟨rfl, (Eq.trans rfl (congrArg (fun q : BitVec 32 => Value.int .u32 (q.toNat : Int)) (by rw [List.take_succ_eq_append_getElem hk2, Bt.sumU_snoc, ← hy]))), s0_1, s2_1, s3_1, s4_1, s22_1, s23_1, e_1, ?_⟩, by first | omega | (simp only []; omega)⟩))))))))))))))))))
    omega
   ·
    have hk3 : q.take k = q := List.take_of_length_le (by omega)
    refine C.exit (hK9 _ _ (hK7 _ _ (C.seqK fun K15 hK15 => C.seqK fun K16 hK16 => C.region (O.mv (O.mv (O.mv ?_))))))
    have hb37 := Sl.sub (P := Tryz.prog) (0) ((p.length - 4)) underlying30 sizeOf5 (by rfl) (hl.keep e_1) (Nat.zero_le _) (by omega)
    obtain ⟨v37, hs37, hr37⟩ := hb37
    refine O.subR s0_1 hr37 (.inl ⟨rfl, rfl⟩) (.inr ⟨_, _, rfl, (Eq.trans s4_1 (i64_eq (show (p.length : Int) - 4 = ((p.length - 4 : Nat) : Int) by omega)))⟩) ?_
    rw [List.drop_zero] at hs37
    refine O.call call25 (args1 rfl) (csum_spec _ _ _ _ hs37) ?_
    rintro v_38 w2 ⟨rfl, e2⟩
    have z2 := e2.size
    refine O.neqU (m := 32) s5_1 rfl (O.nil (hK16 _ _ (C.condD rfl (fun c39 => ?_) (fun c39 => ?_))))
    ·
     rw [hk3, hq] at c39
     have hno : Bt.DecRes p [] 12 := Bt.dec_ne hn4 c39
     refine C.seqK fun K17 hK17 => C.region (O.asg (O.asg (O.nil (hK17 _ _ (C.ret (Outs.two rfl rfl rfl ?_))))))
     exact ⟨_, [], 12, rfl, SlE.nil _ _ _ _ _ (by omega), (fun x hx => by cases hx), hno, (Ext.trans e_1 e2)⟩
    ·
     rw [hk3, hq] at c39
     have hp9 : p = Bt.end4 (p.take (p.length - 4)) := (Bt.sum_iff hn4).1 (Decidable.of_not_not c39)
     refine C.skip (hK15 _ _ (C.seqK fun K18 hK18 => C.region (O.mv (O.mv ?_))))
     have hb43 := Sl.sub (P := Tryz.prog) (0) ((p.length - 4)) underlying30 sizeOf5 (by rfl) ((hl.keep e_1).keep e2) (Nat.zero_le _) (by omega)
     obtain ⟨v43, hs43, hr43⟩ := hb43
     refine O.subR s0_1 hr43 (.inl ⟨rfl, rfl⟩) (.inr ⟨_, _, rfl, (Eq.trans s4_1 (i64_eq (show (p.length : Int) - 4 = ((p.length - 4 : Nat) : Int) by omega)))⟩) ?_
     rw [List.drop_zero] at hs43
     refine O.call call85 (args1 rfl) (entries_spec _ (p.take (p.length - 4)) F _ hs43 (by rw [List.length_take]; omega) (fun j hj => by have q1 := hF j hj; omega) ((mx.keep e_1).keep e2)) ?_
     rintro v_44 w3 ⟨uv44, esv44, okv44, rfl, hv44, hBv44, hRv44, e3⟩
     have z3 := e3.size
     have sp3_ := hv44.raws
     obtain ⟨raw44, hra44, hea44⟩ := sp3_
     refine O.mv (O.extract rfl rfl (O.extract rfl rfl (O.asg (O.asg (O.nil (hK18 _ _ (C.seqK fun K19 hK19 => C.seqK fun K20 hK20 => C.region (O.mv (O.not rfl (O.mv (O.split (x := .tmp 49) rfl (fun c49 => ?_) (fun c49 => ?_))))))))))))
     ·
      have hno : Bt.DecRes p [] 12 := Bt.dec_fin1 hp9 hRv44 (by rw [show okv44 = false by simpa using c49]; rfl)
      refine O.no rfl (noB (isT' rfl c49) rfl) (O.no rfl (noB (isT' rfl c49) rfl) (O.no rfl (noB (isT' rfl c49) rfl) (O.pickT (isT' rfl c49) (O.nil (hK20 _ _ (C.condT rfl (C.seqK fun K21 hK21 => C.region (O.asg (O.asg (O.nil (hK21 _ _ (C.ret (Outs.two rfl rfl rfl ?_)))))))))))))
      exact ⟨_, [], 12, rfl, SlE.nil _ _ _ _ _ (by omega), (fun x hx => by cases hx), hno, (Ext.trans (Ext.trans e_1 e2) e3)⟩
     ·
      refine O.yes rfl (isF' rfl c49) (O.mv (O.yes rfl (isF' rfl c49) (O.call call18 (args1 rfl) (bvalid_spec uv44 raw44 esv44 _ _ hra44 hea44 (fun j hj => by have q := hj.2; omega) hBv44 (((mx.keep e_1).keep e2).keep e3)) ?_)))
      rintro v_51 w4 ⟨rfl, e4⟩
      have z4 := e4.size
      refine O.yes rfl (isF' rfl c49) (O.not rfl (O.pickF (isF' rfl c49) (O.nil (hK20 _ _ (C.cond rfl (fun c53 => ?_) (fun c53 => ?_))))))
      ·
       have hno : Bt.DecRes p [] 12 := Bt.dec_fin1 hp9 hRv44 (by rw [show Bt.valid esv44 = false by simpa using c53, Bool.and_false])
       refine C.seqK fun K22 hK22 => C.region (O.asg (O.asg (O.nil (hK22 _ _ (C.ret (Outs.two rfl rfl rfl ?_))))))
       exact ⟨_, [], 12, rfl, SlE.nil _ _ _ _ _ (by omega), (fun x hx => by cases hx), hno, (Ext.trans (Ext.trans (Ext.trans e_1 e2) e3) e4)⟩
      ·
       have hyes : Bt.DecRes p esv44 0 := Bt.dec_fin2 hp9 hRv44 (by rw [show Bt.valid esv44 = true by simpa using c53, show okv44 = true by simpa using c49]; rfl)
       refine C.skip (hK19 _ _ (C.seqK fun K23 hK23 => C.region (O.mv (O.asg (O.asg (O.nil (hK23 _ _ (C.ret (Outs.two rfl rfl rfl ?_)))))))))
       first
       | exact ⟨_, [], 12, rfl, SlE.nil _ _ _ _ _ (by omega), (fun x hx => by cases hx), hno, (Ext.trans (Ext.trans (Ext.trans e_1 e2) e3) e4)⟩
       | exact ⟨uv44, esv44, 0, rfl, ((hv44.keep e4)).wide (by omega) (by omega), hBv44, hyes, (Ext.trans (Ext.trans (Ext.trans e_1 e2) e3) e4)⟩
end Go.Proofs.YtpbcafkcfobngaaGreatDoor
end
section
namespace Go.Proofs.YtpbcafkcfobngaaGreatDoor
open Go.Pn Go.RowKit Go.Proofs _root_.Go.Proofs.Tryz
attribute [local irreducible] O C D
theorem nsize_spec (n : BitVec 64) (w : World) :
 Ret Tryz.prog 66 #[.int .u64 ((n).toNat : Int)] w (fun v w' => v = .int .i64 ((Cn.num n.toNat).length : Int) ∧ Le w w') := by
 refine enT [.int .u64 ((n).toNat : Int)] 6 func66 rfl rfl (C.seqK fun K1 hK1 => C.region (O.asg (O.nil (hK1 _ _ (C.seqK fun K2 hK2 => C.region (O.mv (O.call call106 (args1 rfl) (number_spec n _) ?_)))))))
 rintro v_4 w1 ⟨e1, h4⟩
 have z1 := e1.size
 have h4s := h4.sl
 refine O.len underlying30 rfl h4s (O.asg (O.nil (hK2 _ _ (C.ret (Outs.one rfl rfl ?_)))))
 exact ⟨rfl, e1⟩
set_option maxHeartbeats 8000000 in
theorem bsplit_spec (v0 : Value) (raw : List EntR) (l : List EntT) (F : Nat → Prop) (w : World) (hr : Sl entF.enc w F v0 raw) (he : EntL w F raw l) (hF : ∀ k, F k → k < w.heap.size) (hB : Bt.Big l) (mx : Mx w) (hE : ∀ x ∈ l, (Bt.entB x).length ≤ 8000000) (hn : l.length ≤ 1000000) :
 Ret Tryz.prog 26 #[v0] w (fun v w' => ∃ (u : Value) (e : Int) (bs : List (List UInt8)), v = .tuple #[u, .int .i64 e] ∧ Sl (sliE byteE) w' (fun j => w.heap.size ≤ j ∧ j < w'.heap.size) u bs ∧ ((Bt.ordered l = true ∧ e = 0 ∧ bs = (Bt.split l).map Bt.enc) ∨ (Bt.ordered l = false ∧ e = 2 ∧ bs = [])) ∧ Le w w') := by
 obtain ⟨ie30, ti30, ts30, tb30, tz30⟩ := inf30
 have hl := he.1
 have hrl := hr.le
 have hgl9 := mx.lt
 refine enT [v0] 104 func26 rfl rfl (C.seqK fun K1 hK1 => C.region (O.asg (O.asg (O.nil (hK1 _ _ (C.seqK fun K2 hK2 => C.seqK fun K3 hK3 => C.region (O.mv (O.call call59 (args1 rfl) (ordered_spec v0 raw l F _ hr he hF hB mx) ?_))))))))
 rintro v_17 w1 ⟨rfl, e1⟩
 have z1 := e1.size
 refine O.not rfl (O.nil (hK3 _ _ (C.cond rfl (fun c18 => ?_) (fun c18 => ?_))))
 ·
  have hno : Bt.ordered l = false := by simpa using c18
  refine C.seqK fun K4 hK4 => C.region (O.asg (O.asg (O.nil (hK4 _ _ (C.ret (Outs.two rfl rfl rfl ?_))))))
  exact ⟨_, _, [], rfl, Sl.nil _ _ _, .inr ⟨hno, rfl, rfl⟩, e1⟩
 ·
  have hO : Bt.Ord l := Bt.ord_iff.1 (by simpa using c18)
  refine C.skip (hK2 _ _ (C.seqK fun K5 hK5 => C.region (O.asg (O.nil (hK5 _ _ (C.seqK fun K6 hK6 => C.region (O.asg (O.asg (O.nil (hK6 _ _ (C.seqK fun K7 hK7 => C.seqK fun K8 hK8 => C.region (O.mv (O.len underlying22 rfl (hr.keep e1) ?_)))))))))))))
  have hog0 : OG slF 30 w1 (.slice none 0 0) 0 [] := OG.nil (by omega)
  have hbs0 : SlsL byteE w1 (fun j => w.heap.size ≤ j ∧ j < 0 ∧ j ≠ 0) [] (([] : List (List Bt.Ent)).map Bt.enc) := SlsL.nil
  refine O.mv (O.nil (hK8 _ _ (C.block fun K9 hK9 => ?_)))
  refine C.loop0 (σ := Nat × Nat × Value × Nat × List Raw × List (List Bt.Ent) × Nat) (fun f0 w0 ⟨k, fr, o, gl, ro, done, hi⟩ f wz => f 21 = .int .i64 ((k : Int)) ∧ f 4 = o ∧ f 5 = .int .i64 ((fr : Int)) ∧ f 6 = .int .i64 (((((l.take k).drop fr).flatMap Bt.entB).length : Int)) ∧ f 0 = f0 0 ∧ f 19 = f0 19 ∧ f 20 = f0 20 ∧ Le w wz ∧ OG slF 30 wz o gl ro ∧ SlsL byteE wz (fun j => w.heap.size ≤ j ∧ j < hi ∧ j ≠ gl) ro (done.map Bt.enc) ∧ (k ≤ l.length ∧ fr ≤ k ∧ (0 < k → fr < k)) ∧ Bt.Done l done ((l.take k).drop fr) (l.drop k) ∧ (∀ j, bk o j → w.heap.size ≤ j) ∧ hi ≤ wz.heap.size ∧ done.length ≤ k) (fun ⟨k, fr, o, gl, ro, done, hi⟩ => l.length - k) (0, 0, .slice none 0 0, 0, [], [], 0) ?_ ?_
  ·
   refine ⟨rfl, rfl, rfl, rfl, rfl, rfl, rfl, e1, hog0, hbs0, ?_⟩
   exact ⟨⟨Nat.zero_le _, Nat.le_refl _, fun h => absurd h (Nat.lt_irrefl _)⟩, Bt.Done.start l, fun _ h => h.elim, by omega, Nat.le_refl _⟩
  ·
   rintro ⟨k, fr, o, gl, ro, done, hi⟩ f_1 w2 ⟨s21_1, s4_1, s5_1, s6_1, s0_1, s19_1, s20_1, e_1, r0_1, r1_1, ⟨⟨hk, hfk, hfk2⟩, hD, hob, hhi, hdn⟩⟩
   have z_1 := e_1.size
   have hogl := (r0_1).2.2
   have hogu := (r0_1).2.1
   have hbsl := (r1_1).1
   rw [List.length_map] at hbsl
   have hfb := Cn.flatMap_le (f := Bt.entB) (b := 8000000) (l := (l.take k).drop fr) (fun x hx => hE x (List.take_subset _ _ (List.drop_subset _ _ hx)))
   have hcl : (((l.take k).drop fr)).length = k - fr := Bt.cur_len hk
   refine C.seqK fun K10 hK10 => C.region (O.lssI s21_1 s20_1 (O.nil (hK10 _ _ (C.seqK fun K11 hK11 => C.condD rfl (fun c22 => ?_) (fun c22 => ?_)))))
   ·
    have hk2 : k < l.length := by omega
    refine C.skip (hK11 _ _ (C.seqK fun K12 hK12 => C.block fun K13 hK13 => C.seqK fun K14 hK14 => C.region (O.mv (O.idx underlying22 sizeOf50 rfl s19_1 (hr.keep e_1) s21_1 (by omega) (fun a24 h24 => O.loadG (G := entF) isAgg50 sizeOf50 rfl h24 ?_)))))
    have hk9r : k < raw.length := by have q9 := ((he.keep e_1)).1; omega
    have hk8r : k < l.length := by have q9 := ((he.keep e_1)).1; omega
    have sp1_ : ∃ q : EntR, q = raw[k] := ⟨_, rfl⟩
    obtain ⟨r, hrr⟩ := sp1_
    have sp2_ : ∃ q : EntT, q = l[k] := ⟨_, rfl⟩
    obtain ⟨x, hxr⟩ := sp2_
    have t0 := ((he.keep e_1)).2 k hk9r hk8r
    have hkxr : r.1 = x.1 := by rw [hrr, hxr]; exact t0.1
    have hca : CartAt w2 F r.2 x.2 := by rw [hrr, hxr]; exact t0.2
    have hmxr : x ∈ l := by rw [hxr]; exact List.getElem_mem _
    have hbr := hB x hmxr
    refine O.cast (v' := .agg #[str r.1, slv r.2.1.1, slv r.2.1.2, slv r.2.2]) (by rw [hrr]; rfl) ?_
    have hvx := Bt.ord_cart hO hmxr
    have hel2 := Bt.entB_len x
    have hex := hE x hmxr
    have hrl1 : r.1.length = x.1.length := by rw [hkxr]
    have hcs := Bt.cur_size hk2 hfk
    have hcs0 := Bt.cur_size0 hk2
    have hfi := Bt.fits_iff hk2 hfk
    rw [← hxr] at hcs hcs0 hfi
    refine O.alloc zeroValue50 (fun b8 w3 hb8 hz8 e3 => ?_)
    have z3 := e3.size
    have h8 := hz8.own
    have hl8 := h8.lt
    refine O.asg (O.storeA (vs := [str r.1, slv r.2.1.1, slv r.2.1.2, slv r.2.2]) sizeOf50 rfl rfl rfl (by intro u hu; simp only [List.mem_cons, List.not_mem_nil, or_false] at hu; rcases hu with rfl | rfl | rfl | rfl <;> rfl) h8 (leB rfl) (fun w4 hs4 e4 z4 => O.nil (hK14 _ _ (C.seqK fun K15 hK15 => C.region (O.fieldAd underlying50 rfl sizeOf47 (by decide) rfl (O.loadOA isAgg47 sizeOf47 rfl hs4 (leB rfl) ?_))))))
    have t1 := Ext.trans e_1 e3
    have t2 := (hca.keep e3).keepA e4
    refine O.call call65 (args1 rfl) (size_spec (slv r.2.1.1) (slv r.2.1.2) (slv r.2.2) x.2 F _ (t2).1 (t2).2.1 (t2).2.2 (fun j hj => by have q1 := hF j hj; omega) hbr.2.2.2.1 hbr.2.2.2.2 hbr.2.1 hbr.2.2.1 (mx.keep (Ext.nr t1 e4))) ?_
    rintro v_29 w5 ⟨rfl, e5⟩
    have z5 := e5.size
    refine O.mv (O.extract rfl rfl (O.cast (v' := .int .i64 ((Cn.bytes x.2).length : Int)) (show Value.int IntKind.i64 (if Cn.valid x.2 = true then ((Cn.bytes x.2).length : Int) else 0) = _ by rw [if_pos hvx]) (O.extract rfl rfl (O.asg (O.asg (O.nil (hK15 _ _ (C.seqK fun K16 hK16 => C.draw (by kernel_rfl) fun w6 e6 => ?_))))))))
    have z6 := e6.size
    refine D.tk 0 rfl rfl rfl rfl (Le.refl _) ⟨pure _, rfl⟩ (fun _ hw_ _ hN => O.mv (O.nil hN)) (D.tk 1 rfl rfl rfl rfl (Le.refl _) ⟨_, rfl⟩ (fun _ hw_ _ hN => O.fieldAd underlying50 rfl sizeOf9 (by decide) rfl (O.nil hN)) (D.tk 2 rfl rfl rfl rfl (Le.refl _) ⟨_, rfl⟩ (fun _ hw_ _ hN => O.loadO isAgg9 rfl (((hs4.keep e5).keep e6).keep hw_) rfl (O.nil hN)) (D.tk 3 rfl rfl rfl rfl (Le.refl _) len_form (fun _ hw_ _ hN => O.lenS underlying9 rfl (O.nil hN)) (D.tk 4 rfl rfl rfl rfl (Le.refl _) ⟨_, rfl⟩ (fun _ hw_ _ hN => O.convIU (m' := 64) underlying3 underlying110 rfl rfl rfl (O.nil hN)) ?_))))
    refine D.tk 6 rfl rfl rfl rfl (Le.refl _) ⟨_, rfl⟩ (fun _ hw_ _ hN => O.fieldAd underlying50 rfl sizeOf9 (by decide) rfl (O.nil hN)) (D.tk 7 rfl rfl rfl rfl (Le.refl _) ⟨_, rfl⟩ (fun _ hw_ _ hN => O.loadO isAgg9 rfl (((hs4.keep e5).keep e6).keep hw_) rfl (O.nil hN)) (D.tk 8 rfl rfl rfl rfl (Le.refl _) len_form (fun _ hw_ _ hN => O.lenS underlying9 rfl (O.nil hN)) (D.on 5 rfl rfl (O.call call66 (args1 rfl) (nsize_spec _ _) ?_))))
    rintro v_37 w7 ⟨rfl, e7⟩
    have z7 := e7.size
    refine O.nil ⟨e7, D.cast (v' := .int .i64 ((Cn.num x.1.length).length : Int)) (congrArg (fun n : Nat => Value.int .i64 ((Cn.num n).length : Int)) (show (BitVec.ofInt 64 ((r.1.length : Nat) : Int)).toNat = x.1.length by rw [Cn.u_def, Cn.u_nat (by omega), hkxr])) (D.tk 9 rfl rfl rfl rfl e7 ⟨_, rfl⟩ (fun _ hw_ _ hN => O.addI rfl rfl (by unfold InI; omega) (O.nil hN)) (D.tk 10 rfl rfl rfl rfl e7 ⟨_, rfl⟩ (fun _ hw_ _ hN => O.addI rfl rfl (by unfold InI; omega) (O.nil hN)) ?_))⟩
    refine D.cast (v' := .int .i64 ((Bt.entB x).length : Int)) (congrArg (Value.int .i64) (show ((Cn.bytes x.2).length : Int) + (((Cn.num x.1.length).length : Int) + (r.1.length : Int)) = ((Bt.entB x).length : Int) by omega)) (D.tk 11 rfl rfl rfl rfl e7 ⟨pure _, rfl⟩ (fun _ hw_ _ hN => O.asg (O.nil hN)) (D.dn (hK16 _ _ (C.seqK fun K17 hK17 => C.region (O.mv (O.mv (O.subI s21_1 s5_1 (by unfold InI; omega) (O.addI rfl rfl (by unfold InI; omega) (O.cast (v' := .int .i64 ((k - fr + 1 : Nat) : Int)) (congrArg (Value.int .i64) (by omega)) (O.asg (O.nil (hK17 _ _ (C.seqK fun K18 hK18 => C.seqK fun K19 hK19 => C.region (O.mv (O.mv (O.gtrI s21_1 s5_1 (O.mv ?_)))))))))))))))))
    refine O.splitD (x := .tmp 50) rfl (fun c50 => ?_) (fun c50 => ?_)
    ·
     refine O.yes rfl (isT rfl c50) (O.mv (O.yes rfl (isT rfl c50) (O.gtrI rfl rfl (O.yes rfl (isT rfl c50) (O.mv (O.splitD (x := .tmp 53) rfl (fun c53 => ?_) (fun c53 => ?_)))))))
     ·
      have hnf : ¬ Bt.fits ((l.take (k + 1)).drop fr) := fun q => by have := (hfi.1 q).1; omega
      have hmem := hD.flush hk2 (by omega) hnf
      refine O.no rfl (noB (isT rfl c53) rfl) (O.no rfl (noB (isT rfl c53) rfl) (O.no rfl (noB (isT rfl c53) rfl) (O.no rfl (noB (isT rfl c53) rfl) (O.no rfl (noB (isT rfl c53) rfl) (O.no rfl (noB (isT rfl c53) rfl) (O.no rfl (noB (isT rfl c53) rfl) (O.no rfl (noB (isT rfl c53) rfl) (O.no rfl (noB (isT rfl c53) rfl) (O.yes rfl (isT rfl c50) (O.pickT (isT rfl c53) (O.pickT (isT rfl c50) (O.nil (hK19 _ _ (C.condT rfl (C.seqK fun K20 hK20 => C.region (O.mv (O.mv (O.mv ?_))))))))))))))))))
      have t3 := Ext.trans (Ext.nr t1 e4) e5
      have t4 := Ext.trans (Ext.trans t3 e6) e7
      have hb69 := Sl.sub (P := Tryz.prog) (fr) (k) underlying22 sizeOf50 (by rfl) (hr.keep t4) (by omega) (by omega)
      obtain ⟨v69, hs69, hr69⟩ := hb69
      refine O.subR s0_1 hr69 (.inr ⟨_, _, rfl, s5_1⟩) (.inr ⟨_, _, rfl, s21_1⟩) ?_
      have hsb69 := ((he.keep t4)).sub fr k
      refine O.call call36 (args1 rfl) (bencode_spec v69 ((raw.take k).drop fr) ((l.take k).drop fr) F _ hs69 hsb69 (fun j hj => by have q1 := hF j hj; omega) (hB.sub (fun x hx => (List.take_subset _ _ (List.drop_subset _ _ hx)))) (mx.keep t4) (fun hv => by have := Bt.split_len hE hmem; omega)) ?_
      rintro v_70 w8 ⟨rv70, rfl, hv70, e8⟩
      have z8 := e8.size
      have hvc := Bt.split_valid hO hmem
      rw [if_pos hvc] at hv70
      have h70s := hv70.sl
      have h70b := hv70.bk_ge
      have h70v := h70s.slv
      obtain ⟨q70, h70v⟩ := h70v
      subst h70v
      refine O.mv (O.extract rfl rfl (O.extract rfl rfl (O.asg (O.asg (O.nil (hK20 _ _ (C.seqK fun K21 hK21 => C.seqK fun K22 hK22 => C.region (O.mv (O.neqI rfl rfl (O.cast (v' := .bool false) (congrArg Value.bool (by simp [hvc])) (O.nil (hK22 _ _ (C.condF rfl (C.skip (hK21 _ _ (C.seqK fun K23 hK23 => C.region (O.mv (O.mv (O.lit1 underlying38 ti30 ts30 tz30 rfl rfl (fun b78 w9 hb78 hz78 e9 => ?_))))))))))))))))))))
      have z9 := e9.size
      have h78 := hz78.own
      have hl78 := h78.lt
      have hq78 : Sl slF.enc w9 (fun j => j = b78) (.slice (some ⟨b78, 0, none⟩) 1 1) [q70] := Sl.litG (G := slF) (n := 1) h78 rfl (by unfold maxLen; omega)
      have t5 := ((r0_1.keep e3).keepA e4).keep e5
      have t6 := (((t5.keep e6).keep e7).keep e8).keep e9
      refine O.appG (G := slF) underlying38 ti30 tz30 ts30 rfl s4_1 rfl t6 hq78 (by rw [tb30]; simp; omega) (by unfold maxLen; simp; omega) (fun v79 gg79 w10 h79 hg79 e10 hw79 => ?_)
      have e10m := e10.mono (M' := fun k => k = _) (fun k _ hk => t6.2.1 k hk)
      have z10 := e10.size
      have hgl79 := h79.2.2
      have hob79 : ∀ j, bk v79 j → w.heap.size ≤ j := fun j hj => by
       rcases hw79 j hj with q | q
       ·exact hob j q
       ·omega
      have hg79 : w.heap.size ≤ gg79 := hob79 _ (h79.bk (by simp))
      have hgg79 := (hw79 _ (h79.bk (by simp))).imp (hogu _) id
      have sp3_ : ∃ n, n = w10.heap.size := ⟨_, rfl⟩
      obtain ⟨hi79, hhi79⟩ := sp3_
      have hbs79 : SlsL byteE w10 (fun j => w.heap.size ≤ j ∧ j < hi79 ∧ j ≠ gg79) (ro ++ [q70]) ((done ++ [((l.take k).drop fr)]).map Bt.enc) := by
       rw [List.map_append]
       exact ((((((((((r1_1.keep e3).keepA e4).keep e5).keep e6).keep e7).keep e8).keep e9).keepM e10 (by intro j hj h; exact hj.2.2 (hogu j h)))).weak (fun j hj => by (try dsimp only at hj); (try dsimp only); omega)).snoc ((((h70s.keep e9).keepM e10 (by intro j hj h; have q1 := h70b j hj; have q3 := hogu j h; omega))).weak (fun j hj => by have := h70b j hj; (try dsimp only); omega))
      refine O.asg (O.nil (hK23 _ _ (C.region (O.mv (O.asg (O.asg (O.nil (hK18 _ _ (C.region (O.mv (O.mv (O.addI rfl rfl (by unfold InI; omega) (O.asg (O.nil (hK13 _ _ (hK12 _ _ (C.region (O.addI s21_1 rfl (by unfold InI; omega) (O.mv (O.nil (⟨(k + 1, k, v79, gg79, ro ++ [q70], done ++ [((l.take k).drop fr)], hi79), ⟨rfl, rfl, s21_1, (Eq.trans rfl (i64_eq (by omega))), s0_1, s19_1, s20_1, (Ext.new (Ext.trans (Ext.trans t4 e8) e9) e10 (by intro i hi h; have := hob i h; omega)), h79, hbs79, ?_⟩, by first | omega | (simp only []; omega)⟩)))))))))))))))))))))
      first
      | exact ⟨⟨by omega, by omega, fun _ => by omega⟩, hD.nextYes hk2 hfk hyf, hob, by omega, by omega⟩
      | exact ⟨⟨by omega, by omega, fun _ => by omega⟩, hD.nextNo hk2 (by omega) hnf, hob79, by omega, by rw [List.length_append, List.length_singleton]; omega⟩
     ·
      refine O.yes rfl (isF rfl c53) (O.mv (O.yes rfl (isF rfl c53) (O.convIU (m' := 64) underlying3 underlying110 rfl rfl rfl (O.yes rfl (isF rfl c53) (O.call call66 (args1 rfl) (nsize_spec _ _) ?_)))))
      rintro v_56 w11 ⟨rfl, e11⟩
      have z11 := e11.size
      have hnl56 := Cn.num_u (BitVec.ofInt 64 ((k - fr + 1 : Nat) : Int))
      refine O.yes rfl (isF rfl c53) (O.mv (O.yes rfl (isF rfl c53) (O.addI rfl s6_1 (by unfold InI; omega) (O.yes rfl (isF rfl c53) (O.mv (O.yes rfl (isF rfl c53) (O.addI rfl rfl (by unfold InI; omega) (O.yes rfl (isF rfl c53) (O.addI rfl rfl (by unfold InI; omega) (O.yes rfl (isF rfl c53) (O.gtrI rfl rfl (O.yes rfl (isT rfl c50) (O.pickF (isF rfl c53) (O.pickT (isT rfl c50) (O.nil (hK19 _ _ (C.condD rfl (fun c64 => ?_) (fun c64 => ?_))))))))))))))))))
      ·
       rw [Cn.u_def, Cn.u_nat (by omega)] at c64
       have hnf : ¬ Bt.fits ((l.take (k + 1)).drop fr) := fun q => by have := (hfi.1 q).2; omega
       have hmem := hD.flush hk2 (by omega) hnf
       refine C.seqK fun K24 hK24 => C.region (O.mv (O.mv (O.mv ?_)))
       have t7 := Ext.trans (Ext.nr t1 e4) e5
       have t8 := Ext.trans (Ext.trans t7 e6) e7
       have t9 := Ext.trans t8 e11
       have hb69 := Sl.sub (P := Tryz.prog) (fr) (k) underlying22 sizeOf50 (by rfl) (hr.keep t9) (by omega) (by omega)
       obtain ⟨v69, hs69, hr69⟩ := hb69
       refine O.subR s0_1 hr69 (.inr ⟨_, _, rfl, s5_1⟩) (.inr ⟨_, _, rfl, s21_1⟩) ?_
       have hsb69 := ((he.keep t9)).sub fr k
       refine O.call call36 (args1 rfl) (bencode_spec v69 ((raw.take k).drop fr) ((l.take k).drop fr) F _ hs69 hsb69 (fun j hj => by have q1 := hF j hj; omega) (hB.sub (fun x hx => (List.take_subset _ _ (List.drop_subset _ _ hx)))) (mx.keep t9) (fun hv => by have := Bt.split_len hE hmem; omega)) ?_
       rintro v_70 w12 ⟨rv70, rfl, hv70, e12⟩
       have z12 := e12.size
       have hvc := Bt.split_valid hO hmem
       rw [if_pos hvc] at hv70
       have h70s := hv70.sl
       have h70b := hv70.bk_ge
       have h70v := h70s.slv
       obtain ⟨q70, h70v⟩ := h70v
       subst h70v
       refine O.mv (O.extract rfl rfl (O.extract rfl rfl (O.asg (O.asg (O.nil (hK24 _ _ (C.seqK fun K25 hK25 => C.seqK fun K26 hK26 => C.region (O.mv (O.neqI rfl rfl (O.cast (v' := .bool false) (congrArg Value.bool (by simp [hvc])) (O.nil (hK26 _ _ (C.condF rfl (C.skip (hK25 _ _ (C.seqK fun K27 hK27 => C.region (O.mv (O.mv (O.lit1 underlying38 ti30 ts30 tz30 rfl rfl (fun b78 w13 hb78 hz78 e13 => ?_))))))))))))))))))))
       have z13 := e13.size
       have h78 := hz78.own
       have hl78 := h78.lt
       have hq78 : Sl slF.enc w13 (fun j => j = b78) (.slice (some ⟨b78, 0, none⟩) 1 1) [q70] := Sl.litG (G := slF) (n := 1) h78 rfl (by unfold maxLen; omega)
       have t10 := (((r0_1.keep e3).keepA e4).keep e5).keep e6
       have t11 := (((t10.keep e7).keep e11).keep e12).keep e13
       refine O.appG (G := slF) underlying38 ti30 tz30 ts30 rfl s4_1 rfl t11 hq78 (by rw [tb30]; simp; omega) (by unfold maxLen; simp; omega) (fun v79 gg79 w14 h79 hg79 e14 hw79 => ?_)
       have e14m := e14.mono (M' := fun k => k = _) (fun k _ hk => t11.2.1 k hk)
       have z14 := e14.size
       have hgl79 := h79.2.2
       have hob79 : ∀ j, bk v79 j → w.heap.size ≤ j := fun j hj => by
        rcases hw79 j hj with q | q
        ·exact hob j q
        ·omega
       have hg79 : w.heap.size ≤ gg79 := hob79 _ (h79.bk (by simp))
       have hgg79 := (hw79 _ (h79.bk (by simp))).imp (hogu _) id
       have sp4_ : ∃ n, n = w14.heap.size := ⟨_, rfl⟩
       obtain ⟨hi79, hhi79⟩ := sp4_
       have hbs79 : SlsL byteE w14 (fun j => w.heap.size ≤ j ∧ j < hi79 ∧ j ≠ gg79) (ro ++ [q70]) ((done ++ [((l.take k).drop fr)]).map Bt.enc) := by
        rw [List.map_append]
        exact (((((((((((r1_1.keep e3).keepA e4).keep e5).keep e6).keep e7).keep e11).keep e12).keep e13).keepM e14 (by intro j hj h; exact hj.2.2 (hogu j h)))).weak (fun j hj => by (try dsimp only at hj); (try dsimp only); omega)).snoc ((((h70s.keep e13).keepM e14 (by intro j hj h; have q1 := h70b j hj; have q3 := hogu j h; omega))).weak (fun j hj => by have := h70b j hj; (try dsimp only); omega))
       refine O.asg (O.nil (hK27 _ _ (C.region (O.mv (O.asg (O.asg (O.nil (hK18 _ _ (C.region (O.mv (O.mv (O.addI rfl rfl (by unfold InI; omega) (O.asg (O.nil (hK13 _ _ (hK12 _ _ (C.region (O.addI s21_1 rfl (by unfold InI; omega) (O.mv (O.nil (⟨(k + 1, k, v79, gg79, ro ++ [q70], done ++ [((l.take k).drop fr)], hi79), ⟨rfl, rfl, s21_1, (Eq.trans rfl (i64_eq (by omega))), s0_1, s19_1, s20_1, (Ext.new (Ext.trans (Ext.trans t9 e12) e13) e14 (by intro i hi h; have := hob i h; omega)), h79, hbs79, ?_⟩, by first | omega | (simp only []; omega)⟩)))))))))))))))))))))
       first
       | exact ⟨⟨by omega, by omega, fun _ => by omega⟩, hD.nextYes hk2 hfk hyf, hob, by omega, by omega⟩
       | exact ⟨⟨by omega, by omega, fun _ => by omega⟩, hD.nextNo hk2 (by omega) hnf, hob79, by omega, by rw [List.length_append, List.length_singleton]; omega⟩
      ·
       rw [Cn.u_def, Cn.u_nat (by omega)] at c64
       have hyf : fr = k ∨ Bt.fits ((l.take (k + 1)).drop fr) := .inr (hfi.2 ⟨by omega, by omega⟩)
       refine C.skip (hK18 _ _ (C.region (O.mv (O.mv (O.addI s6_1 rfl (by unfold InI; omega) (O.asg (O.nil (hK13 _ _ (hK12 _ _ (C.region (O.addI s21_1 rfl (by unfold InI; omega) (O.mv (O.nil (⟨(k + 1, fr, o, gl, ro, done, hi), ⟨rfl, s4_1, s5_1, (Eq.trans rfl (i64_eq (by omega))), s0_1, s19_1, s20_1, (Ext.trans (Ext.trans (Ext.trans (Ext.trans (Ext.nr t1 e4) e5) e6) e7) e11), ((((((r0_1.keep e3).keepA e4).keep e5).keep e6).keep e7).keep e11), ((((((r1_1.keep e3).keepA e4).keep e5).keep e6).keep e7).keep e11), ?_⟩, by first | omega | (simp only []; omega)⟩))))))))))))))
       exact ⟨⟨by omega, by omega, fun _ => by omega⟩, hD.nextYes hk2 hfk hyf, hob, by omega, by omega⟩
    ·
     have hyf : fr = k ∨ Bt.fits ((l.take (k + 1)).drop fr) := .inl (by omega)
     refine O.no rfl (noB (isF rfl c50) rfl) (O.no rfl (noB (isF rfl c50) rfl) (O.no rfl (noB (isF rfl c50) rfl) (O.no rfl (noU rfl) (O.no rfl (noU rfl) (O.no rfl (noU rfl) (O.no rfl (noU rfl) (O.no rfl (noU rfl) (O.no rfl (noU rfl) (O.no rfl (noU rfl) (O.no rfl (noU rfl) (O.no rfl (noU rfl) (O.no rfl (noB (isF rfl c50) rfl) (O.pickF (isF rfl c50) (O.nil (hK19 _ _ (C.condF rfl (C.skip (hK18 _ _ (C.region (O.mv (O.mv (O.addI s6_1 rfl (by unfold InI; omega) (O.asg (O.nil (hK13 _ _ (hK12 _ _ (C.region (O.addI s21_1 rfl (by unfold InI; omega) (O.mv (O.nil ?_))))))))))))))))))))))))))))))
     refine ⟨(k + 1, fr, o, gl, ro, done, hi), ⟨rfl, s4_1, s5_1, (Eq.trans rfl (i64_eq (by omega))), s0_1, s19_1, s20_1, (Ext.trans (Ext.trans (Ext.trans (Ext.nr t1 e4) e5) e6) e7), (((((r0_1.keep e3).keepA e4).keep e5).keep e6).keep e7), (((((r1_1.keep e3).keepA e4).keep e5).keep e6).keep e7), ?_⟩, by first | omega | (simp only []; omega)⟩
     exact ⟨⟨by omega, by omega, fun _ => by omega⟩, hD.nextYes hk2 hfk hyf, hob, by omega, by omega⟩
   ·
    have hk3 : k = l.length := by omega
    refine C.exit (hK9 _ _ (hK7 _ _ (C.seqK fun K28 hK28 => C.seqK fun K29 hK29 => C.region (O.mv (O.mv (O.len underlying22 s0_1 (hr.keep e_1) (O.lssI s5_1 rfl (O.nil (hK29 _ _ (C.condD rfl (fun c88 => ?_) (fun c88 => ?_)))))))))))
    ·
     have sp5_ := hD.last hk3 (by omega)
     obtain ⟨hsp, hmem⟩ := sp5_
     refine C.seqK fun K30 hK30 => C.region (O.mv (O.mv ?_))
     have hb92 := Sl.sub (P := Tryz.prog) (fr) (raw.length) underlying22 sizeOf50 (by rfl) (hr.keep e_1) (by omega) (Nat.le_refl _)
     obtain ⟨v92, hs92, hr92⟩ := hb92
     refine O.subR s0_1 hr92 (.inr ⟨_, _, rfl, s5_1⟩) (.inl ⟨rfl, rfl⟩) ?_
     rw [List.take_length] at hs92
     have hsb92 := ((he.keep e_1)).drop fr
     refine O.call call36 (args1 rfl) (bencode_spec v92 (raw.drop fr) (l.drop fr) F _ hs92 hsb92 (fun j hj => by have q1 := hF j hj; omega) (hB.sub (fun x hx => (List.drop_subset _ _ hx))) (mx.keep e_1) (fun hv => by have := Bt.split_len hE hmem; omega)) ?_
     rintro v_93 w15 ⟨rv93, rfl, hv93, e15⟩
     have z15 := e15.size
     have hvc := Bt.split_valid hO hmem
     rw [if_pos hvc] at hv93
     have h93s := hv93.sl
     have h93b := hv93.bk_ge
     have h93v := h93s.slv
     obtain ⟨q93, h93v⟩ := h93v
     subst h93v
     refine O.mv (O.extract rfl rfl (O.extract rfl rfl (O.asg (O.asg (O.nil (hK30 _ _ (C.seqK fun K31 hK31 => C.seqK fun K32 hK32 => C.region (O.mv (O.neqI rfl rfl (O.cast (v' := .bool false) (congrArg Value.bool (by simp [hvc])) (O.nil (hK32 _ _ (C.condF rfl (C.skip (hK31 _ _ (C.region (O.mv (O.mv (O.lit1 underlying38 ti30 ts30 tz30 rfl rfl (fun b101 w16 hb101 hz101 e16 => ?_))))))))))))))))))))
     have z16 := e16.size
     have h101 := hz101.own
     have hl101 := h101.lt
     have hq101 : Sl slF.enc w16 (fun j => j = b101) (.slice (some ⟨b101, 0, none⟩) 1 1) [q93] := Sl.litG (G := slF) (n := 1) h101 rfl (by unfold maxLen; omega)
     refine O.appG (G := slF) underlying38 ti30 tz30 ts30 rfl s4_1 rfl ((r0_1.keep e15).keep e16) hq101 (by rw [tb30]; simp; omega) (by unfold maxLen; simp; omega) (fun v102 gg102 w17 h102 hg102 e17 hw102 => ?_)
     have e17m := e17.mono (M' := fun k => k = _) (fun k _ hk => ((r0_1.keep e15).keep e16).2.1 k hk)
     have z17 := e17.size
     have hgl102 := h102.2.2
     have hob102 : ∀ j, bk v102 j → w.heap.size ≤ j := fun j hj => by
      rcases hw102 j hj with q | q
      ·exact hob j q
      ·omega
     have hg102 : w.heap.size ≤ gg102 := hob102 _ (h102.bk (by simp))
     have hgg102 := (hw102 _ (h102.bk (by simp))).imp (hogu _) id
     have sp6_ : ∃ n, n = w17.heap.size := ⟨_, rfl⟩
     obtain ⟨hi102, hhi102⟩ := sp6_
     have hbs102 : SlsL byteE w17 (fun j => w.heap.size ≤ j ∧ j < hi102 ∧ j ≠ gg102) (ro ++ [q93]) ((done ++ [(l.drop fr)]).map Bt.enc) := by
      rw [List.map_append]
      exact (((((r1_1.keep e15).keep e16).keepM e17 (by intro j hj h; exact hj.2.2 (hogu j h)))).weak (fun j hj => by (try dsimp only at hj); (try dsimp only); omega)).snoc ((((h93s.keep e16).keepM e17 (by intro j hj h; have q1 := h93b j hj; have q3 := hogu j h; omega))).weak (fun j hj => by have := h93b j hj; (try dsimp only); omega))
     refine O.asg (O.nil (hK28 _ _ (C.seqK fun K33 hK33 => C.region (O.mv (O.asg (O.asg (O.nil (hK33 _ _ (C.ret (Outs.two rfl rfl rfl ?_))))))))))
     first
     | exact ⟨_, _, [], rfl, Sl.nil _ _ _, .inr ⟨hno, rfl, rfl⟩, (Ext.new (Ext.trans (Ext.trans e_1 e15) e16) e17 (by intro i hi h; have := hob i h; omega))⟩
     | (refine ⟨_, 0, (Bt.split l).map Bt.enc, rfl, ?_, .inl ⟨Bt.ord_iff.2 hO, rfl, rfl⟩, (Ext.new (Ext.trans (Ext.trans e_1 e15) e16) e17 (by intro i hi h; have := hob i h; omega))⟩
        rw [hsp]
        have hbk9 := (h102).1.bk_ge
        refine ((hbs102).weak (fun j hj => by (try dsimp only at hj); (try dsimp only); omega)).sl ((h102).1.sl.weak (fun j hj => ⟨?_, (hbk9 j hj).2⟩))
        exact hob102 j hj)
    ·
     have hsp := hD.none hk3 (by omega)
     refine C.skip (hK28 _ _ (C.seqK fun K34 hK34 => C.region (O.mv (O.asg (O.asg (O.nil (hK34 _ _ (C.ret (Outs.two rfl s4_1 rfl ?_)))))))))
     first
     | exact ⟨_, _, [], rfl, Sl.nil _ _ _, .inr ⟨hno, rfl, rfl⟩, e_1⟩
     | (refine ⟨_, 0, (Bt.split l).map Bt.enc, rfl, ?_, .inl ⟨Bt.ord_iff.2 hO, rfl, rfl⟩, e_1⟩
        rw [hsp]
        have hbk9 := (r0_1).1.bk_ge
        refine ((r1_1).weak (fun j hj => by (try dsimp only at hj); (try dsimp only); omega)).sl ((r0_1).1.sl.weak (fun j hj => ⟨?_, (hbk9 j hj).2⟩))
        first
        | exact hob102 j hj
        | exact hob j hj)
end Go.Proofs.YtpbcafkcfobngaaGreatDoor
end
section
namespace Go.Proofs.YtpbcafkcfobngaaGreatDoor
open Go.Pn Go.RowKit Go.Proofs _root_.Go.Proofs.Tryz
attribute [local irreducible] O C D
set_option maxHeartbeats 1000000 in
theorem rend_spec (v0 : Value) (b : List UInt8) (F : Nat → Prop) (n : BitVec 32) (w : World) (hl : Sl byteE w F v0 b) (hL : b.length ≤ 1000000000) :
 Ret Tryz.prog 24 #[v0, .int .u32 ((n).toNat : Int)] w (fun v w' => Le w w' ∧ OwnF byteF 5 w.heap.size w' v (b ++ Bt.sum4 n)) := by
 obtain ⟨ie5, ti5, ts5, tb5, tz5⟩ := inf5
 refine enT [v0, .int .u32 ((n).toNat : Int)] 23 func24 rfl rfl (C.seqK fun K1 hK1 => C.region (O.asg (O.nil (hK1 _ _ (C.seqK fun K2 hK2 => C.region (O.mv (O.appF (G := byteF) underlying30 ti5 tz5 ts5 rfl rfl rfl (OwnF.nil _ _ _ _) hl (by rw [tb5]; simp; omega) (by unfold maxLen; simp; omega) (Nat.le_refl _) (fun v6 w1 h6 e1 => ?_))))))))
 replace e1 : Le w w1 := e1.mono (fun _ _ h => h)
 have z1 := e1.size
 have h6s := h6.sl
 replace h6 : OwnF byteF 5 w.heap.size w1 v6 b := h6
 replace h6s := h6.sl
 refine O.mv (O.quoU (m := 32) (b := 16777216#32) rfl rfl rfl rfl (by decide) (O.convUU (m := 32) (m' := 8) underlying34 underlying5 rfl rfl rfl (O.mv (O.quoU (m := 32) (b := 65536#32) rfl rfl rfl rfl (by decide) (O.remU (m := 32) (b := 256#32) rfl rfl rfl rfl (by decide) (O.convUU (m := 32) (m' := 8) underlying34 underlying5 rfl rfl rfl (O.mv (O.quoU (m := 32) (b := 256#32) rfl rfl rfl rfl (by decide) (O.remU (m := 32) (b := 256#32) rfl rfl rfl rfl (by decide) (O.convUU (m := 32) (m' := 8) underlying34 underlying5 rfl rfl rfl (O.mv (O.remU (m := 32) (b := 256#32) rfl rfl rfl rfl (by decide) ?_))))))))))))
 refine O.convUU (m := 32) (m' := 8) underlying34 underlying5 rfl rfl rfl (O.litn [.int .u8 (((n / 16777216#32).setWidth 8).toNat : Int), .int .u8 (((n / 65536#32 % 256#32).setWidth 8).toNat : Int), .int .u8 (((n / 256#32 % 256#32).setWidth 8).toNat : Int), .int .u8 (((n % 256#32).setWidth 8).toNat : Int)] underlying30 ti5 ts5 tz5 rfl (by decide) (by decide) rfl (by simp [Value.oneCell']) (fun b21 w2 hb21 hz21 e2 => ?_))
 have z2 := e2.size
 have h21 := hz21.own
 have hl21 := h21.lt
 have hq21 : Sl byteE w2 (fun k => k = b21) (.slice (some ⟨b21, 0, none⟩) 4 4) (Bt.end4L n) := Sl.litG (G := byteF) (n := 4) h21 rfl (by unfold maxLen; omega)
 refine O.appF (G := byteF) underlying30 ti5 tz5 ts5 rfl rfl rfl (h6.keep e2) hq21 (by rw [tb5, Bt.end4L_eq, Bt.sum4_len]; omega) (by unfold maxLen; rw [Bt.end4L_eq, Bt.sum4_len]; omega) (by omega) (fun v22 w3 h22 e3 => ?_)
 have z3 := e3.size
 have h22s := h22.sl
 refine O.asg (O.nil (hK2 _ _ (C.ret (Outs.one rfl rfl ?_))))
 exact ⟨(Ext.new (Ext.trans e1 e2) e3 (by intro i hi h; have := (h6.keep e2).bk_ge i h; omega)), (h22).lst (by rw [Bt.end4L_eq])⟩
set_option maxHeartbeats 4000000 in
theorem rbody_spec (v0 : Value) (raw : List EntR) (l : List EntT) (F : Nat → Prop) (w : World) (hr : Sl entF.enc w F v0 raw) (he : EntL w F raw l) (hF : ∀ k, F k → k < w.heap.size) (hB : Bt.Big l) (hT : (l.flatMap Bt.entB).length ≤ 100000000) (hn : l.length ≤ 1000000) :
 Ret Tryz.prog 30 #[v0] w (fun v w' => Le w w' ∧ OwnF byteF 5 w.heap.size w' v (Bt.body l)) := by
 obtain ⟨ie5, ti5, ts5, tb5, tz5⟩ := inf5
 have hl := he.1
 have hrl := hr.le
 have hnl := Cn.num_le l.length (by omega)
 refine enT [v0] 31 func30 rfl rfl (C.seqK fun K1 hK1 => C.region (O.asg (O.nil (hK1 _ _ (C.seqK fun K2 hK2 => C.region (O.mv (O.len underlying22 rfl hr (O.convIU (m' := 64) underlying3 underlying110 rfl rfl rfl (O.call call67 (args1 rfl) (rnum_spec (BitVec.ofInt 64 (raw.length : Int)) _) ?_)))))))))
 rintro v_8 w1 ⟨e1, h8⟩
 have z1 := e1.size
 rw [Cn.u_def, Cn.u_nat (by omega), hl] at h8
 have sp1_ := OG.of h8 (by have := Cn.num_len l.length; omega)
 obtain ⟨g8, ho8, hb8⟩ := sp1_
 have hc8 := ho8.2.2
 refine O.asg (O.nil (hK2 _ _ (C.seqK fun K3 hK3 => C.seqK fun K4 hK4 => C.region (O.asg (O.nil (hK4 _ _ (C.block fun K5 hK5 => C.loop0 (σ := Nat × Value × Nat) (fun f0 w0 ⟨k, o, gl⟩ f wz => f 3 = o ∧ f 4 = .int .i64 ((k : Int)) ∧ f 0 = f0 0 ∧ f 2 = f0 2 ∧ Le w wz ∧ OG byteF 5 wz o gl (Cn.num l.length ++ (l.take k).flatMap Bt.entB) ∧ k ≤ l.length ∧ w.heap.size ≤ gl ∧ gl < wz.heap.size) (fun ⟨k, o, gl⟩ => l.length - k) (0, v_8, g8) ?_ ?_)))))))
 ·
  refine ⟨rfl, rfl, rfl, rfl, e1, ((ho8).lst (by simp)), ?_⟩
  exact ⟨Nat.zero_le _, by omega, by omega⟩
 ·
  rintro ⟨k, o, gl⟩ f_1 w2 ⟨s3_1, s4_1, s0_1, s2_1, e_1, r0_1, ⟨hk, hgl, hgl2⟩⟩
  have z_1 := e_1.size
  have htl := Bt.take_len l k
  refine C.seqK fun K6 hK6 => C.seqK fun K7 hK7 => C.region (O.mv (O.mv (O.len underlying22 s0_1 (hr.keep e_1) (O.lssI s4_1 rfl (O.nil (hK7 _ _ (C.condD rfl (fun c12 => ?_) (fun c12 => ?_))))))))
  ·
   have hk2 : k < l.length := by omega
   have hk9r : k < raw.length := by have q9 := ((he.keep e_1)).1; omega
   have hk8r : k < l.length := by have q9 := ((he.keep e_1)).1; omega
   have sp2_ : ∃ q : EntR, q = raw[k] := ⟨_, rfl⟩
   obtain ⟨r, hrr⟩ := sp2_
   have sp3_ : ∃ q : EntT, q = l[k] := ⟨_, rfl⟩
   obtain ⟨x, hxr⟩ := sp3_
   have t0 := ((he.keep e_1)).2 k hk9r hk8r
   have hkxr : r.1 = x.1 := by rw [hrr, hxr]; exact t0.1
   have hca : CartAt w2 F r.2 x.2 := by rw [hrr, hxr]; exact t0.2
   have hmxr : x ∈ l := by rw [hxr]; exact List.getElem_mem _
   have hbr := hB x hmxr
   have hml := Bt.mem_len hmxr
   have hel2 := Bt.entB_len x
   have hrl1 : r.1.length = x.1.length := by rw [hkxr]
   have hsl9 : (Cn.strB r.1).length = (Cn.num x.1.length).length + x.1.length := by rw [hkxr]; unfold Cn.strB; rw [List.length_append]
   refine C.skip (hK6 _ _ (C.seqK fun K8 hK8 => C.block fun K9 hK9 => C.join (fun f w f' w' => Ext (fun k => k = gl) w w' ∧ f' 0 = f 0 ∧ f' 2 = f 2 ∧ f' 4 = f 4 ∧ ∃ (v3m : Value) (g3m : Nat), f' 3 = v3m ∧ OG byteF 5 w' v3m g3m (Cn.num l.length ++ (l.take k).flatMap Bt.entB ++ Cn.strB r.1 ++ Cn.bytes x.2) ∧ (g3m = gl ∨ w.heap.size ≤ g3m)) ?_ ?_))
   ·
    refine C.drawB (wB := w) (by kernel_rfl) fun w3 e3 => ?_
    have z3 := e3.size
    have t1 := Ext.trans e_1 e3
    refine D.tk 0 rfl rfl rfl rfl t1 ⟨pure _, rfl⟩ (fun _ hw_ _ hN => O.mv (O.nil hN)) (D.tk 1 rfl rfl rfl rfl t1 ⟨pure _, rfl⟩ (fun _ hw_ _ hN => O.mv (O.nil hN)) (D.tk 2 rfl rfl rfl rfl t1 ⟨pure _, rfl⟩ (fun _ hw_ _ hN => O.mv (O.nil hN)) ?_))
    have sp4_ := Sl.at (i := (k : Int)) (P := Tryz.prog) underlying22 sizeOf50 rfl hr (by omega)
    obtain ⟨a18, h18, hr18⟩ := sp4_
    refine D.tk 3 rfl rfl rfl rfl t1 ⟨_, rfl⟩ (fun _ hw_ _ hN => O.idxR s0_1 s4_1 hr18 (O.nil hN)) (D.tk 4 rfl rfl rfl rfl t1 ⟨_, rfl⟩ (fun _ hw_ _ hN => O.fieldAt underlying50 rfl sizeOf9 (by decide) rfl (O.nil hN)) (D.tk 5 rfl rfl rfl rfl t1 ⟨_, rfl⟩ (fun _ hw_ _ hN => O.loadAtF (G := entF) isAgg9 rfl rfl (h18.keep hw_) (O.nil hN)) (D.cast (v' := str r.1) (by rw [hrr]; rfl) (D.tk 8 rfl rfl rfl rfl t1 ⟨pure _, rfl⟩ (fun _ hw_ _ hN => O.mv (O.nil hN)) (D.tk 9 rfl rfl rfl rfl t1 ⟨pure _, rfl⟩ (fun _ hw_ _ hN => O.mv (O.nil hN)) ?_)))))
    have sp5_ := Sl.at (i := (k : Int)) (P := Tryz.prog) underlying22 sizeOf50 rfl hr (by omega)
    obtain ⟨a25, h25, hr25⟩ := sp5_
    refine D.tk 10 rfl rfl rfl rfl t1 ⟨_, rfl⟩ (fun _ hw_ _ hN => O.idxR s0_1 s4_1 hr25 (O.nil hN)) (D.tk 11 rfl rfl rfl rfl t1 ⟨_, rfl⟩ (fun _ hw_ _ hN => O.fieldAt underlying50 rfl sizeOf47 (by decide) rfl (O.nil hN)) (D.tk 12 rfl rfl rfl rfl t1 ⟨_, rfl⟩ (fun _ hw_ _ hN => O.loadPart (G := entF) isAgg47 sizeOf47 (by decide) rfl (h25.keep hw_) (O.nil hN)) (D.cast (v' := .agg #[slv r.2.1.1, slv r.2.1.2, slv r.2.2]) (by rw [hrr]; rfl) (D.on 6 rfl rfl (O.call call68 (args1 rfl) (rstr_spec r.1 _ (by omega)) ?_)))))
    rintro v_21 w4 ⟨e4, h21⟩
    have z4 := e4.size
    refine O.nil ⟨(Ext.trans t1 e4), ?_⟩
    have h21s := h21.sl
    refine D.on 7 rfl rfl ?_
    have t2 := (r0_1.keep e3).keep e4
    refine O.appG (G := byteF) underlying30 ti5 tz5 ts5 rfl s3_1 rfl t2 h21s (by rw [tb5]; (try simp only [List.length_append]); omega) (by unfold maxLen; (try simp only [List.length_append]); omega) (fun v22 gg22 w5 h22 hg22 e5 hw22 => ?_)
    have e5m := e5.mono (M' := fun k => k = _) (fun k _ hk => t2.2.1 k hk)
    have z5 := e5.size
    have hgl22 := h22.2.2
    have t3 := Ext.new (Ext.trans t1 e4) e5 (by intro i hi h; replace h := t2.2.1 _ h; (try dsimp only at h); omega)
    refine O.nil ⟨t3, D.on 13 rfl rfl ?_⟩
    have t4 := (hca.keep e3).keep e4
    have t5 := t4.keepM e5 (by intro k hk h; replace h := t2.2.1 _ h; first | (have q1 := hF k hk; (try dsimp only at h); omega) | (have q1 := hF2 k hk; (try dsimp only at h); omega) | (have q1 := hFb k hk; (try dsimp only at h); omega) | ((try dsimp only at hk); (try dsimp only at h); omega))
    refine O.call call69 (args1 rfl) (rbytes_spec (slv r.2.1.1) (slv r.2.1.2) (slv r.2.2) x.2 F _ (t5).1 (t5).2.1 (t5).2.2 (fun j hj => by have q1 := hF j hj; omega) hbr.2.2.2.1 hbr.2.2.2.2 hbr.2.1 hbr.2.2.1) ?_
    rintro v_28 w6 ⟨e6, h28⟩
    have z6 := e6.size
    refine O.nil ⟨(Ext.trans t3 e6), ?_⟩
    have h28s := h28.sl
    refine D.on 14 rfl rfl (O.appG (G := byteF) underlying30 ti5 tz5 ts5 rfl rfl rfl (h22.keep e6) h28s (by rw [tb5]; (try simp only [List.length_append]); omega) (by unfold maxLen; (try simp only [List.length_append]); omega) (fun v29 gg29 w7 h29 hg29 e7 hw29 => ?_))
    have e7m := e7.mono (M' := fun k => k = _) (fun k _ hk => (h22.keep e6).2.1 k hk)
    have z7 := e7.size
    have hgl29 := h29.2.2
    have t6 := Ext.new (Ext.trans t3 e6) e7 (by intro i hi h; replace h := (h22.keep e6).2.1 _ h; (try dsimp only at h); omega)
    refine O.nil ⟨t6, D.tk 15 rfl rfl rfl rfl t6 ⟨pure _, rfl⟩ (fun _ hw_ _ hN => O.asg (O.nil hN)) (D.dn ?_)⟩
    exact ⟨(Ext.nw (Ext.nw (Ext.nw (Ext.nw (Ext.nw (Ext.refl _ _) e3) e4) e5m) e6) e7m), rfl, rfl, rfl, ⟨_, _, rfl, ⟨h29, by omega⟩⟩⟩
   ·
    rintro f_2 w8 ⟨e_2, s0_2, s2_2, s4_2, ⟨v3m, g3m, s3_2, q0_2⟩⟩
    have z_2 := e_2.size
    obtain ⟨h29, hg29⟩ := q0_2
    have hgl29 := h29.2.2
    refine hK9 _ _ (hK8 _ _ (C.region (O.mv (O.addI (Eq.trans s4_2 s4_1) rfl (by unfold InI; omega) (O.asg (O.nil (⟨(k + 1, _, _), ⟨s3_2, rfl, (Eq.trans s0_2 s0_1), (Eq.trans s2_2 s2_1), (Ext.new e_1 e_2 (by intro i hi h; (try dsimp only at h); omega)), ((h29).lst (by rw [Cn.flatMap_take _ hk2, ← hxr, hkxr]; unfold Bt.entB; simp only [List.append_assoc])), ?_⟩, by first | omega | (simp only []; omega)⟩)))))))
    exact ⟨by omega, by omega, by omega⟩
  ·
   have hk3 : k = l.length := by omega
   refine C.exit (hK5 _ _ (hK3 _ _ (C.seqK fun K10 hK10 => C.region (O.mv (O.asg (O.nil (hK10 _ _ (C.ret (Outs.one rfl s3_1 ?_)))))))))
   exact ⟨e_1, ((r0_1).own (by omega)).lst (by rw [hk3, List.take_length]; rfl)⟩
theorem lwhole_spec (v0 : Value) (raw : List EntR) (l : List EntT) (F : Nat → Prop) (w : World) (hr : Sl entF.enc w F v0 raw) (he : EntL w F raw l) (hF : ∀ k, F k → k < w.heap.size) (hB : Bt.Big l) (hT : (l.flatMap Bt.entB).length ≤ 100000000) (hn : l.length ≤ 1000000) :
 Ret Tryz.prog 22 #[v0] w (fun v w' => Le w w' ∧ OwnF byteF 5 w.heap.size w' v (Bt.enc l)) := by
 have hbl := Bt.body_le hT hn
 refine enT [v0] 10 func22 rfl rfl (C.seqK fun K1 hK1 => C.region (O.asg (O.nil (hK1 _ _ (C.seqK fun K2 hK2 => C.region (O.mv (O.call call30 (args1 rfl) (rbody_spec v0 raw l F _ hr he (fun j hj => by have q1 := hF j hj; omega) hB hT hn) ?_)))))))
 rintro v_5 w1 ⟨e1, h5⟩
 have z1 := e1.size
 have h5s := h5.sl
 refine O.asg (O.nil (hK2 _ _ (C.seqK fun K3 hK3 => C.region (O.mv (O.mv (O.call call25 (args1 rfl) (csum_spec _ _ _ _ h5s) ?_))))))
 rintro v_8 w2 ⟨rfl, e2⟩
 have z2 := e2.size
 refine O.call call24 (args2 rfl rfl) (rend_spec _ (Bt.body l) _ (Bt.sumOf (Bt.body l)) _ (h5s.keep e2) (by omega)) ?_
 rintro v_9 w3 ⟨e3, h9⟩
 have z3 := e3.size
 refine O.asg (O.nil (hK3 _ _ (C.ret (Outs.one rfl rfl ?_))))
 exact ⟨(Ext.trans (Ext.trans e1 e2) e3), h9.low (by omega)⟩
set_option maxHeartbeats 4000000 in
theorem copyL_spec (v0 : Value) (raw : List EntR) (l : List EntT) (F : Nat → Prop) (w : World) (hr : Sl entF.enc w F v0 raw) (he : EntL w F raw l) (hF : ∀ k, F k → k < w.heap.size) (hB : Bt.Big l) (hn : l.length ≤ 1000000) (mx : Mx w) :
 Ret Tryz.prog 17 #[v0] w (fun v w' => SlS 50 w' (fun j => w.heap.size ≤ j ∧ j < w'.heap.size) (fun j => w.heap.size ≤ j ∧ j < w'.heap.size ∧ ¬ bk v j) v l ∧ Le w w') := by
 obtain ⟨ie50, ti50, ts50, tb50, tz50⟩ := inf50
 have hl := he.1
 have hrl := hr.le
 have hgl9 := mx.lt
 refine enT [v0] 27 func17 rfl rfl (C.seqK fun K1 hK1 => C.region (O.asg (O.nil (hK1 _ _ (C.seqK fun K2 hK2 => C.region (O.asg (O.nil (hK2 _ _ (C.seqK fun K3 hK3 => C.seqK fun K4 hK4 => C.region (O.asg (O.nil (hK4 _ _ (C.block fun K5 hK5 => C.loop0 (σ := Nat × Value × Nat × List EntR × Nat) (fun f0 w0 ⟨k, o, gl, rr, hi⟩ f wz => f 3 = o ∧ f 4 = .int .i64 ((k : Int)) ∧ f 0 = f0 0 ∧ f 2 = f0 2 ∧ Le w wz ∧ OG entF 50 wz o gl (rr) ∧ EntL wz (fun j => w.heap.size ≤ j ∧ j < hi ∧ j ≠ gl) rr (l.take k) ∧ k ≤ l.length ∧ (∀ j, bk o j → w.heap.size ≤ j) ∧ hi ≤ wz.heap.size) (fun ⟨k, o, gl, rr, hi⟩ => l.length - k) (0, .slice none 0 0, 0, [], 0) ?_ ?_)))))))))))))
 ·
  refine ⟨rfl, rfl, rfl, rfl, (Le.refl _), (OG.nil (by omega)), EntL.nil, ?_⟩
  exact ⟨Nat.zero_le _, fun _ h => h.elim, Nat.zero_le _⟩
 ·
  rintro ⟨k, o, gl, rr, hi⟩ f_1 w1 ⟨s3_1, s4_1, s0_1, s2_1, e_1, r0_1, r1_1, ⟨hk, hob, hhi⟩⟩
  have z_1 := e_1.size
  have hogl := (r0_1).2.2
  have hogu := (r0_1).2.1
  have hrx := (r1_1).1
  rw [List.length_take] at hrx
  refine C.seqK fun K6 hK6 => C.seqK fun K7 hK7 => C.region (O.mv (O.mv (O.len underlying22 s0_1 (hr.keep e_1) (O.lssI s4_1 rfl (O.nil (hK7 _ _ (C.condD rfl (fun c8 => ?_) (fun c8 => ?_))))))))
  ·
   have hk2 : k < l.length := by omega
   have hk9r : k < raw.length := by have q9 := ((he.keep e_1)).1; omega
   have hk8r : k < l.length := by have q9 := ((he.keep e_1)).1; omega
   have sp6_ : ∃ q : EntR, q = raw[k] := ⟨_, rfl⟩
   obtain ⟨r, hrr⟩ := sp6_
   have sp7_ : ∃ q : EntT, q = l[k] := ⟨_, rfl⟩
   obtain ⟨x, hxr⟩ := sp7_
   have t0 := ((he.keep e_1)).2 k hk9r hk8r
   have hkxr : r.1 = x.1 := by rw [hrr, hxr]; exact t0.1
   have hca : CartAt w1 F r.2 x.2 := by rw [hrr, hxr]; exact t0.2
   have hmxr : x ∈ l := by rw [hxr]; exact List.getElem_mem _
   have hbr := hB x hmxr
   have sp8_ : ∃ n, n = w1.heap.size := ⟨_, rfl⟩
   obtain ⟨w0_, hw0_⟩ := sp8_
   refine C.skip (hK6 _ _ (C.seqK fun K8 hK8 => C.block fun K9 hK9 => C.drawB (wB := w) (by kernel_rfl) fun w2 e2 => ?_))
   have z2 := e2.size
   have t1 := Ext.trans e_1 e2
   refine D.tk 0 rfl rfl rfl rfl t1 ⟨pure _, rfl⟩ (fun _ hw_ _ hN => O.mv (O.nil hN)) (D.tk 1 rfl rfl rfl rfl t1 ⟨pure _, rfl⟩ (fun _ hw_ _ hN => O.mv (O.nil hN)) (D.tk 2 rfl rfl rfl rfl t1 ⟨pure _, rfl⟩ (fun _ hw_ _ hN => O.mv (O.nil hN)) ?_))
   have sp9_ := Sl.at (i := (k : Int)) (P := Tryz.prog) underlying22 sizeOf50 rfl hr (by omega)
   obtain ⟨a14, h14, hr14⟩ := sp9_
   refine D.tk 3 rfl rfl rfl rfl t1 ⟨_, rfl⟩ (fun _ hw_ _ hN => O.idxR s0_1 s4_1 hr14 (O.nil hN)) (D.tk 4 rfl rfl rfl rfl t1 ⟨_, rfl⟩ (fun _ hw_ _ hN => O.fieldAt underlying50 rfl sizeOf9 (by decide) rfl (O.nil hN)) (D.tk 5 rfl rfl rfl rfl t1 ⟨_, rfl⟩ (fun _ hw_ _ hN => O.loadAtF (G := entF) isAgg9 rfl rfl (h14.keep hw_) (O.nil hN)) (D.cast (v' := str r.1) (by rw [hrr]; rfl) (D.tk 6 rfl rfl rfl rfl t1 ⟨pure _, rfl⟩ (fun _ hw_ _ hN => O.mv (O.nil hN)) (D.tk 7 rfl rfl rfl rfl t1 ⟨pure _, rfl⟩ (fun _ hw_ _ hN => O.mv (O.nil hN)) ?_)))))
   have sp10_ := Sl.at (i := (k : Int)) (P := Tryz.prog) underlying22 sizeOf50 rfl hr (by omega)
   obtain ⟨a19, h19, hr19⟩ := sp10_
   refine D.tk 8 rfl rfl rfl rfl t1 ⟨_, rfl⟩ (fun _ hw_ _ hN => O.idxR s0_1 s4_1 hr19 (O.nil hN)) (D.tk 9 rfl rfl rfl rfl t1 ⟨_, rfl⟩ (fun _ hw_ _ hN => O.fieldAt underlying50 rfl sizeOf47 (by decide) rfl (O.nil hN)) (D.tk 10 rfl rfl rfl rfl t1 ⟨_, rfl⟩ (fun _ hw_ _ hN => O.loadPart (G := entF) isAgg47 sizeOf47 (by decide) rfl (h19.keep hw_) (O.nil hN)) (D.cast (v' := .agg #[slv r.2.1.1, slv r.2.1.2, slv r.2.2]) (by rw [hrr]; rfl) (D.on 11 rfl rfl ?_))))
   refine O.call call53 (args1 rfl) (copy_spec (slv r.2.1.1) (slv r.2.1.2) (slv r.2.2) x.2 F _ ((hca.keep e2)).1 ((hca.keep e2)).2.1 ((hca.keep e2)).2.2 (fun j hj => by have q1 := hF j hj; omega) hbr.2.2.2.1 hbr.2.2.2.2 hbr.2.1 hbr.2.2.1) ?_
   rintro v_22 w3 ⟨vav22, vbv22, vcv22, rfl, hxv22, hyv22, hzv22, e3⟩
   have z3 := e3.size
   refine O.nil ⟨(Ext.trans t1 e3), ?_⟩
   have sp11_ := hxv22.slv
   obtain ⟨p1, sp11_⟩ := sp11_
   subst sp11_
   have sp12_ := hyv22.slv
   obtain ⟨p2, sp12_⟩ := sp12_
   subst sp12_
   have sp13_ := hzv22.slv
   obtain ⟨p3, sp13_⟩ := sp13_
   subst sp13_
   have sp14_ : ∃ n, n = w3.heap.size := ⟨_, rfl⟩
   obtain ⟨wa, hwa⟩ := sp14_
   have hca22 : CartAt w3 (fun j => w0_ ≤ j ∧ j < wa) ((p1, p2), p3) x.2 := ⟨hxv22.weak (by intro j hj; (try dsimp only at hj); (try dsimp only); omega), hyv22.weak (by intro j hj; (try dsimp only at hj); (try dsimp only); omega), hzv22.weak (by intro j hj; (try dsimp only at hj); (try dsimp only); omega)⟩
   refine D.on 12 rfl rfl (O.build (cells := #[str r.1, slv p1, slv p2, slv p3]) rfl (by kernel_rfl) (O.nil ⟨(Ext.trans t1 e3), D.on 13 rfl rfl (O.litG (G := entF) [(r.1, (p1, p2), p3)] underlying22 ti50 ts50 tz50 rfl (by decide) (by decide) rfl (fun b24 w4 hb24 hz24 e4 => ?_))⟩))
   have z4 := e4.size
   have h24 := hz24.own
   have hq24 := Sl.litG (n := 1) h24 rfl (by unfold maxLen; omega)
   have t2 := Ext.trans (Ext.trans t1 e3) e4
   refine O.nil ⟨t2, D.on 14 rfl rfl ?_⟩
   have t3 := ((r0_1.keep e2).keep e3).keep e4
   refine O.appG (G := entF) underlying22 ti50 tz50 ts50 rfl s3_1 rfl t3 hq24 (by rw [tb50]; simp; omega) (by unfold maxLen; simp; omega) (fun v25 gg25 w5 h25 hg25 e5 hw25 => ?_)
   have e5m := e5.mono (M' := fun k => k = _) (fun k _ hk => t3.2.1 k hk)
   have z5 := e5.size
   have hgl25 := h25.2.2
   have t4 := Ext.new t2 e5 (by intro i hi h; have := hob i h; omega)
   refine O.nil ⟨t4, ?_⟩
   have hob25 : ∀ k, bk v25 k → w.heap.size ≤ k := fun k hk => by
    rcases hw25 k hk with q | q
    ·exact hob k q
    ·omega
   have hg25 : w.heap.size ≤ gg25 := hob25 _ (h25.bk (by simp))
   have hgg25 := (hw25 _ (h25.bk (by simp))).imp (hogu _) id
   refine D.tk 15 rfl rfl rfl rfl t4 ⟨pure _, rfl⟩ (fun _ hw_ _ hN => O.asg (O.nil hN)) (D.dn (hK9 _ _ (hK8 _ _ (C.region (O.mv (O.addI s4_1 rfl (by unfold InI; omega) (O.asg (O.nil ?_))))))))
   refine ⟨(k + 1, v25, gg25, rr ++ [(r.1, (p1, p2), p3)], wa), ⟨rfl, rfl, s0_1, s2_1, t4, h25, (show EntL _ (fun j => w.heap.size ≤ j ∧ j < wa ∧ j ≠ gg25) (rr ++ [(r.1, (p1, p2), p3)]) (l.take (k + 1)) by
 rw [List.take_succ_eq_append_getElem hk2, ← hxr]
 exact ((((((r1_1.keep e2).keep e3).keep e4).keepM e5 (by intro j hj h; exact hj.2.2 (hogu j h)))).weak (fun j hj => by (try dsimp only at hj); (try dsimp only); omega)).snoc hkxr ((((hca22.keep e4).keepM e5 (by intro j hj h; have q3 := hogu j h; (try dsimp only at hj); omega))).weak (fun j hj => by (try dsimp only at hj); (try dsimp only); omega))), ?_⟩, by first | omega | (simp only []; omega)⟩
   exact ⟨by omega, hob25, by omega⟩
  ·
   have hk3 : k = l.length := by omega
   refine C.exit (hK5 _ _ (hK3 _ _ (C.seqK fun K10 hK10 => C.region (O.mv (O.asg (O.nil (hK10 _ _ (C.ret (Outs.one rfl s3_1 ?_)))))))))
   have hbk9 := (r0_1).1.bk_ge
   refine ⟨⟨rr, (r0_1).1.fre (fun j hj => ⟨hob j hj, (hbk9 j hj).2⟩), ?_⟩, e_1⟩
   have q9 := (r1_1).weak (F' := fun j => w.heap.size ≤ j ∧ j < w1.heap.size ∧ ¬ bk o j) (fun j hj => ⟨hj.1, by omega, fun q => hj.2.2 (hogu j q)⟩)
   rw [hk3, List.take_length] at q9
   exact q9
end Go.Proofs.YtpbcafkcfobngaaGreatDoor
end
section
namespace Go.Proofs.YtpbcafkcfobngaaGreatDoor
open Go.Pn Go.RowKit Go.Proofs _root_.Go.Proofs.Tryz
attribute [local irreducible] O C D
end Go.Proofs.YtpbcafkcfobngaaGreatDoor
end
section
namespace Go.Proofs.YtpbcafkcfobngaaGreatDoor
open Go.Pn Go.RowKit Go.Proofs _root_.Go.Proofs.Tryz
attribute [local irreducible] O C D
end Go.Proofs.YtpbcafkcfobngaaGreatDoor
end
section
namespace Go.Proofs.YtpbcafkcfobngaaGreatDoor
open Go.Pn Go.RowKit Go.Proofs _root_.Go.Proofs.Tryz
attribute [local irreducible] O C D
end Go.Proofs.YtpbcafkcfobngaaGreatDoor
end
section
namespace Go.Proofs.YtpbcafkcfobngaaGreatDoor
open Go.Pn Go.RowKit Go.Proofs _root_.Go.Proofs.Tryz
attribute [local irreducible] O C D
end Go.Proofs.YtpbcafkcfobngaaGreatDoor
end
section
namespace Go.Proofs.YtpbcafkcfobngaaGreatDoor
open Go.Pn Go.RowKit Go.Proofs _root_.Go.Proofs.Tryz
attribute [local irreducible] O C D
end Go.Proofs.YtpbcafkcfobngaaGreatDoor
end
section
namespace Go.Proofs.YtpbcafkcfobngaaGreatDoor
open Go.Pn Go.RowKit Go.Proofs _root_.Go.Proofs.Tryz
attribute [local irreducible] O C D
end Go.Proofs.YtpbcafkcfobngaaGreatDoor
end
section
namespace Go.Proofs.YtpbcafkcfobngaaGreatDoor
open Go.Pn Go.RowKit Go.Proofs _root_.Go.Proofs.Tryz
attribute [local irreducible] O C D
end Go.Proofs.YtpbcafkcfobngaaGreatDoor
end
section
namespace Go.Proofs.YtpbcafkcfobngaaGreatDoor
open Go.Pn Go.RowKit Go.Proofs _root_.Go.Proofs.Tryz
attribute [local irreducible] O C D
end Go.Proofs.YtpbcafkcfobngaaGreatDoor
end
section
namespace Go.Proofs.YtpbcafkcfobngaaGreatDoor
open Go.Pn Go.RowKit Go.Proofs _root_.Go.Proofs.Tryz
attribute [local irreducible] O C D
end Go.Proofs.YtpbcafkcfobngaaGreatDoor
end
section
namespace Go.Proofs.YtpbcafkcfobngaaGreatDoor
open Go.Pn Go.RowKit Go.Proofs _root_.Go.Proofs.Tryz
attribute [local irreducible] O C D
end Go.Proofs.YtpbcafkcfobngaaGreatDoor
end
section
namespace Go.Proofs.YtpbcafkcfobngaaGreatDoor
open Go.Pn Go.RowKit Go.Proofs _root_.Go.Proofs.Tryz
attribute [local irreducible] O C D
end Go.Proofs.YtpbcafkcfobngaaGreatDoor
end
section
namespace Go.Proofs.YtpbcafkcfobngaaGreatDoor
open Go.Pn Go.RowKit Go.Proofs _root_.Go.Proofs.Tryz
attribute [local irreducible] O C D
theorem clipN_spec (w : World) :
 Ret Tryz.prog 78 #[.slice none 0 0] w (fun v w' => v = .slice none 0 0 ∧ w' = w) := by
 refine enT [.slice none 0 0] 9 func78 rfl rfl (C.seqK fun K1 hK1 => C.region (O.asg (O.nil (hK1 _ _ (C.seqK fun K2 hK2 => C.region (O.mv (O.mv (O.len underlying22 rfl (Sl.nil entF.enc w (fun _ => False)) (O.mv (O.len underlying22 rfl (Sl.nil entF.enc w (fun _ => False)) (O.clipNil underlying22 sizeOf50 rfl rfl rfl (O.asg (O.nil (hK2 _ _ (C.ret (Outs.one rfl rfl ?_))))))))))))))))
 exact ⟨rfl, rfl⟩
theorem clipS_spec (g n cap : Nat) (xs : List EntR) (w : World) (hs : Sl entF.enc w (fun k => k = g) (.slice (some ⟨g, 0, none⟩) n cap) xs) (hl : xs.length = n) (hc : n ≤ cap) :
 Ret Tryz.prog 78 #[.slice (some ⟨g, 0, none⟩) n cap] w (fun v w' => v = .slice (some ⟨g, 0, none⟩) n n ∧ w' = w) := by
 refine enT [.slice (some ⟨g, 0, none⟩) n cap] 9 func78 rfl rfl (C.seqK fun K1 hK1 => C.region (O.asg (O.nil (hK1 _ _ (C.seqK fun K2 hK2 => C.region (O.mv (O.mv (O.len underlying22 rfl hs (O.cast (v' := .int .i64 (n : Int)) (by rw [hl]) (O.mv (O.len underlying22 rfl hs (O.cast (v' := .int .i64 (n : Int)) (by rw [hl]) (O.clip underlying22 sizeOf50 rfl rfl rfl hc (O.asg (O.nil (hK2 _ _ (C.ret (Outs.one rfl rfl ?_))))))))))))))))))
 exact ⟨rfl, rfl⟩
theorem clip_spec (v0 : Value) (raw : List EntR) (ty : TypeId) (w : World) (h : OwnF entF ty 0 w v0 raw) : Ret Tryz.prog 78 #[v0] w (fun v w' => Clip v0 v ∧ w' = w) := by
 rcases h.1.2 with ⟨rfl, _⟩ | ⟨g, cap, cur, rfl, hb, hg, hn, hc, _⟩
 ·refine (clipN_spec w).mono ?_
  rintro v w' ⟨rfl, rfl⟩
  exact ⟨.inl rfl, rfl⟩
 ·refine (clipS_spec g raw.length cap raw w h.sl rfl hn).mono ?_
  rintro v w' ⟨rfl, rfl⟩
  exact ⟨.inr ⟨g, _, cap, rfl, rfl⟩, rfl⟩
end Go.Proofs.YtpbcafkcfobngaaGreatDoor
end
