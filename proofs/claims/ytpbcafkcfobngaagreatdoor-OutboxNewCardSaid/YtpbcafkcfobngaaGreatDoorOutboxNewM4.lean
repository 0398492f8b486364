/-
 The walks of the laws of outboxes: strings in order; an outbox and the reference's. Conditions: slices as they lie in memory.
-/
import Derived.Test.YtpbcafkcfobngaaGreatDoorOutboxNewM3
set_option maxHeartbeats 16000000
namespace Go.Proofs.YtpbcafkcfobngaaGreatDoor
open Go.Pn Go.RowKit Go.Proofs _root_.Go.Proofs.Tryz
attribute [local irreducible] O C D
theorem sortedS_spec (v0 : Value) (l : List Jn.Name) (F : Nat → Prop) (w : World) (hs : Sl strF.enc w F v0 l) (hn : l.length ≤ 100000) :
 Ret prog 94 #[v0] w (fun v w' => Le w w' ∧ OwnF strF 9 w.heap.size w' v (Ob.srt l)) := by
 obtain ⟨ie9, ti9, ts9, tb9, tz9⟩ := inf9
 have hrl := hs.le
 refine enT [v0] 46 func94 rfl rfl (C.sr fun K1 => O.asg (K1 (C.sr fun K2 => O.asg (K2 (C.sq fun K3 => C.sr fun K4 => O.asg (K4 (C.bl fun K5 => C.loop0 (σ := Nat × Value) (fun f0 w0 ⟨i, o⟩ f wz => f 3 = o ∧ f 4 = .int .i64 ((i : Int)) ∧ f 0 = f0 0 ∧ f 2 = f0 2 ∧ Le w wz ∧ OwnF strF 9 w.heap.size wz o (Ob.srt (l.take i)) ∧ i ≤ l.length) (fun ⟨i, o⟩ => l.length - i) (0, .slice none 0 0) ?_ ?_)))))))
 ·
  refine ⟨rfl, rfl, rfl, rfl, (Le.refl _), (OwnF.nil _ _ _ _), ?_⟩
  exact Nat.zero_le _
 rintro ⟨i, o⟩ f_1 w1 ⟨s3_1, s4_1, s0_1, s2_1, e_1, r0_1, hi⟩
 have z_1 := e_1.size
 have r0_1s := r0_1.sl
 refine C.sq fun K6 => C.sr fun K7 => O.mv (O.mv (O.len U69 s0_1 (hs.keep e_1) (O.lssI s4_1 rfl (K7 (C.condD rfl (fun c10 => ?_) (fun c10 => ?_))))))
 ·
  have hk2 : i < l.length := by omega
  have sp1_ : ∃ s, s = l[i] := ⟨_, rfl⟩
  obtain ⟨s, hsi⟩ := sp1_
  have hsl := Ob.srt_len (l.take i)
  rw [List.length_take] at hsl
  refine C.skip (K6 (C.sq fun K8 => C.bl fun K9 => C.sr fun K10 => O.asg (K10 (C.sq fun K11 => C.bl fun K12 => C.loop0 (σ := Nat) (fun f0 w0 k f wz => f 5 = .int .i64 ((k : Int)) ∧ f 0 = f0 0 ∧ f 2 = f0 2 ∧ f 3 = f0 3 ∧ f 4 = f0 4 ∧ Le w wz ∧ OwnF strF 9 w.heap.size wz o (Ob.srt (l.take i)) ∧ k ≤ (Ob.srt (l.take i)).length ∧ (∀ j, ∀ h : j < (Ob.srt (l.take i)).length, j < k → Jn.BL (Ob.srt (l.take i))[j] s)) (fun k => (Ob.srt (l.take i)).length - k) 0 ?_ ?_))))
  ·
   refine ⟨rfl, rfl, rfl, rfl, rfl, e_1, r0_1, ?_⟩
   exact ⟨Nat.zero_le _, fun j h q => absurd q (Nat.not_lt_zero _)⟩
  rintro k f_2 w2 ⟨s5_2, s0_2, s2_2, s3_2, s4_2, e_2, r0_2, ⟨hk, hI⟩⟩
  have z_2 := e_2.size
  have r0_2s := r0_2.sl
  have hbo := (r0_2).bk_ge
  refine C.sq fun K13 => C.sq fun K14 => C.join (fun f w f' w' => Le w w' ∧ f' 0 = f 0 ∧ f' 2 = f 2 ∧ f' 3 = f 3 ∧ f' 4 = f 4 ∧ f' 5 = f 5 ∧ f' 27 = .bool (Ob.nxt (Ob.srt (l.take i)) s k)) ?_ ?_
  ·
   refine C.draw (by kernel_rfl) fun w3 e3 => ?_
   have z3 := e3.size
   refine D.mv 0 rfl (Le.refl _) (D.mv 1 rfl (Le.refl _) (D.tk 2 rfl rfl rfl rfl (Le.refl _) len_form (fun _ hw_ _ hN => O.len U69 (Eq.trans s3_2 s3_1) ((r0_2s.keep e3).keep hw_) (O.nil hN)) (D.t 3 rfl (Le.refl _) (fun _ _ _ hN => O.lssI s5_2 rfl (O.nil hN)) (D.mv 4 rfl (Le.refl _) (D.splitD (x := .tmp 17) rfl (fun c17 => ?_) (fun c17 => ?_))))))
   ·
    refine D.ty 5 rfl rfl rfl rfl (isT rfl c17) (Le.refl _) ⟨pure _, rfl⟩ (fun _ hw_ _ hN => O.mv (O.nil hN)) (D.ty 6 rfl rfl rfl rfl (isT rfl c17) (Le.refl _) ⟨pure _, rfl⟩ (fun _ hw_ _ hN => O.mv (O.nil hN)) ?_)
    have sp2_ := Sl.at (i := (k : Int)) (P := prog) U69 Z9 rfl (r0_2s.keep e3) (by omega)
    obtain ⟨a20, h20, hr20⟩ := sp2_
    refine D.ty 7 rfl rfl rfl rfl (isT rfl c17) (Le.refl _) ⟨_, rfl⟩ (fun _ hw_ _ hN => O.idxR (Eq.trans s3_2 s3_1) s5_2 hr20 (O.nil hN)) (D.ty 8 rfl rfl rfl rfl (isT rfl c17) (Le.refl _) ⟨_, rfl⟩ (fun _ hw_ _ hN => O.load1F (G := strF) isAgg9 rfl rfl rfl (h20.keep hw_) (O.nil hN)) (D.ty 9 rfl rfl rfl rfl (isT rfl c17) (Le.refl _) ⟨pure _, rfl⟩ (fun _ hw_ _ hN => O.mv (O.nil hN)) (D.ty 10 rfl rfl rfl rfl (isT rfl c17) (Le.refl _) ⟨pure _, rfl⟩ (fun _ hw_ _ hN => O.mv (O.nil hN)) ?_)))
    have sp3_ := Sl.at (i := (i : Int)) (P := prog) U69 Z9 rfl ((hs.keep e_2).keep e3) (by omega)
    obtain ⟨a24, h24, hr24⟩ := sp3_
    refine D.ty 11 rfl rfl rfl rfl (isT rfl c17) (Le.refl _) ⟨_, rfl⟩ (fun _ hw_ _ hN => O.idxR (Eq.trans s0_2 s0_1) (Eq.trans s4_2 s4_1) hr24 (O.nil hN)) (D.ty 12 rfl rfl rfl rfl (isT rfl c17) (Le.refl _) ⟨_, rfl⟩ (fun _ hw_ _ hN => O.load1F (G := strF) isAgg9 rfl rfl rfl (h24.keep hw_) (O.nil hN)) (D.ty 13 rfl rfl rfl rfl (isT rfl c17) (Le.refl _) ⟨_, rfl⟩ (fun _ hw_ _ hN => O.lssS rfl rfl (O.nil hN)) (D.tk 14 rfl rfl rfl rfl (Le.refl _) pick_form (fun _ hw_ _ hN => O.pickT (isT rfl c17) (O.nil hN)) (D.dn ?_))))
    exact ⟨e3, rfl, rfl, rfl, rfl, rfl, (by first | exact Eq.trans rfl (congrArg Value.bool (by rw [Ob.nxt_lt (by omega), hsi]; rfl)) | exact Eq.trans rfl (congrArg Value.bool (Ob.nxt_ge (by omega)).symm))⟩
   refine D.tn 5 rfl rfl (Le.refl _) rfl (noB (isF rfl c17) rfl) (D.tn 6 rfl rfl (Le.refl _) rfl (noB (isF rfl c17) rfl) (D.tn 7 rfl rfl (Le.refl _) rfl (noB (isF rfl c17) rfl) (D.tn 8 rfl rfl (Le.refl _) rfl (noB (isF rfl c17) rfl) (D.tn 9 rfl rfl (Le.refl _) rfl (noB (isF rfl c17) rfl) (D.tn 10 rfl rfl (Le.refl _) rfl (noB (isF rfl c17) rfl) (D.tn 11 rfl rfl (Le.refl _) rfl (noB (isF rfl c17) rfl) (D.tn 12 rfl rfl (Le.refl _) rfl (noB (isF rfl c17) rfl) (D.tn 13 rfl rfl (Le.refl _) rfl (noB (isF rfl c17) rfl) (D.tk 14 rfl rfl rfl rfl (Le.refl _) pick_form (fun _ hw_ _ hN => O.pickF (isF rfl c17) (O.nil hN)) (D.dn ?_))))))))))
   exact ⟨e3, rfl, rfl, rfl, rfl, rfl, (by first | exact Eq.trans rfl (congrArg Value.bool (by rw [Ob.nxt_lt (by omega), hsi]; rfl)) | exact Eq.trans rfl (congrArg Value.bool (Ob.nxt_ge (by omega)).symm))⟩
  rintro f_3 w4 ⟨e_3, s0_3, s2_3, s3_3, s4_3, s5_3, s27_3⟩
  have z_3 := e_3.size
  refine K14 (C.cond s27_3 (fun c27 => ?_) (fun c27 => ?_))
  ·
   have hnx := Ob.nxt_true c27
   obtain ⟨hn9, hb9⟩ := hnx
   refine C.skip (K13 (C.bl fun K15 => C.region (O.mv (O.addI (Eq.trans s5_3 s5_2) rfl (by unfold InI; omega) (O.asg (O.nil (K15 (⟨(k + 1), ⟨rfl, (Eq.trans s0_3 s0_2), (Eq.trans s2_3 s2_2), (Eq.trans s3_3 s3_2), (Eq.trans s4_3 s4_2), (Ext.trans e_2 e_3), (r0_2.keep e_3), ?_⟩, by first | omega | (simp only []; omega)⟩))))))))
   refine ⟨by omega, fun j h q => ?_⟩
   rcases Nat.lt_or_eq_of_le (Nat.le_of_lt_succ q) with g | rfl
   ·exact hI j h g
   ·exact hb9
  have hno := Ob.nxt_false c27
  refine C.exit (K12 (K11 (C.sd fun K16 w5 e5 z5 => D.mv 0 rfl (Le.refl _) (D.mv 1 rfl (Le.refl _) ?_))))
  have sp4_ := Sl.at (i := (i : Int)) (P := prog) U69 Z9 rfl (((hs.keep e_2).keep e_3).keep e5) (by omega)
  obtain ⟨a32, h32, hr32⟩ := sp4_
  refine D.t 2 rfl (Le.refl _) (fun _ _ _ hN => O.idxR (Eq.trans s0_3 (Eq.trans s0_2 s0_1)) (Eq.trans s4_3 (Eq.trans s4_2 s4_1)) hr32 (O.nil hN)) (D.t 3 rfl (Le.refl _) (fun _ hw_ _ hN => O.load1F (G := strF) isAgg9 rfl rfl rfl (h32.keep hw_) (O.nil hN)) (D.mv 5 rfl (Le.refl _) (D.mv 6 rfl (Le.refl _) ?_)))
  have hb37 := Sl.sub (P := prog) (k) ((Ob.srt (l.take i)).length) U69 Z9 (by rfl) ((r0_2s.keep e_3).keep e5) hk (Nat.le_refl _)
  obtain ⟨v37, hs37, hr37⟩ := hb37
  refine D.t 7 rfl (Le.refl _) (fun _ _ _ hN => O.subR (Eq.trans s3_3 (Eq.trans s3_2 s3_1)) hr37 (.inr ⟨_, _, rfl, (Eq.trans s5_3 s5_2)⟩) (.inl ⟨rfl, rfl⟩) (O.nil hN)) ?_
  rw [List.take_length] at hs37
  refine D.on 4 rfl rfl (O.lit1 U69 ti9 ts9 tz9 rfl rfl (fun b34 w6 hb34 hz34 e6 => ?_))
  have z6 := e6.size
  have hl34 := hz34.own.lt
  refine O.nil ⟨e6, ?_⟩
  have h34o : OwnF strF 9 b34 w6 (.slice (some ⟨b34, 0, none⟩) 1 1) [s] := OwnF.lit1 rfl hz34 (by rw [hsi]; rfl) (Nat.le_refl _)
  refine D.on 8 rfl rfl (O.appF (G := strF) U69 ti9 tz9 ts9 rfl rfl rfl h34o (hs37.keep e6) (by rw [tb9]; simp; omega) (by unfold maxLen; simp; omega) (by omega) (fun v38 w7 h38 e7 => ?_))
  have z7 := e7.size
  have h38s := h38.sl
  have t0 := Ext.new e6 e7 (by intro i hi h; have h0 : i = b34 := h; omega)
  refine O.nil ⟨t0, D.as 9 rfl t0 (K16 (C.region (O.mv (O.mv ?_))))⟩
  have hb41 := Sl.sub (P := prog) (0) (k) U69 Z9 (by rfl) ((((r0_2s.keep e_3).keep e5).keep e6).keepM e7 (fun k hk h => by have h0 : k = b34 := h; have := hbo k hk; omega)) (Nat.zero_le _) hk
  obtain ⟨v41, hs41, hr41⟩ := hb41
  refine O.subR (Eq.trans s3_3 (Eq.trans s3_2 s3_1)) hr41 (.inl ⟨rfl, rfl⟩) (.inr ⟨_, _, rfl, (Eq.trans s5_3 s5_2)⟩) ?_
  rw [List.drop_zero] at hs41
  refine O.appF (G := strF) U69 ti9 tz9 ts9 rfl rfl rfl (OwnF.nil _ _ _ _) hs41 (by rw [tb9]; simp; omega) (by unfold maxLen; simp; omega) (Nat.le_refl _) (fun v42 w8 h42 e8 => ?_)
  replace e8 : Le w7 w8 := e8.mono (fun _ _ h => h)
  have z8 := e8.size
  have h42s := h42.sl
  refine O.mv (O.appF (G := strF) U69 ti9 tz9 ts9 rfl rfl rfl h42 (h38s.keep e8) (by rw [tb9]; simp; omega) (by unfold maxLen; simp; omega) (by omega) (fun v44 w9 h44 e9 => ?_))
  have z9 := e9.size
  have h44s := h44.sl
  refine O.asg (O.nil (K9 (K8 (C.region (O.mv (O.addI (Eq.trans s4_3 (Eq.trans s4_2 s4_1)) rfl (by unfold InI; omega) (O.asg (O.nil (⟨(i + 1, v44), ⟨rfl, rfl, (Eq.trans s0_3 (Eq.trans s0_2 s0_1)), (Eq.trans s2_3 (Eq.trans s2_2 s2_1)), (Ext.new (Ext.trans (Ext.new (Ext.trans (Ext.trans (Ext.trans e_2 e_3) e5) e6) e7 (by intro i hi h; have h0 : i = b34 := h; omega)) e8) e9 (by intro i hi h; have := h42.bk_ge i h; omega)), (show OwnF strF 9 w.heap.size _ v44 (Ob.srt (l.take (i + 1))) by rw [Ob.srt_take hk2, ← hsi, ← Ob.lin_at hk hI hno]; exact h44.low (by omega)), ?_⟩, by first | omega | (simp only []; omega)⟩)))))))))
  omega
 refine C.exit (K5 (K3 (C.sr fun K17 => O.mv (O.asg (K17 (C.ret (Outs.one rfl s3_1 ?_)))))))
 have hi9 : i = l.length := by omega
 have q := r0_1
 rw [hi9, List.take_length] at q
 exact ⟨e_1, q⟩
theorem alike_spec (b : Nat) (n : Int) (l : List EntT) (d : List Jn.Name) (uo ud us : Value) (lo hi : Nat) (bx : Nat) (n2 : Int) (m : List Jn.Name) (vl vm : Value) (raw2 : List EntR) (F2 : Nat → Prop) (w : World) (hob : OB 50 112 117 114 71 9 w b n l d uo ud us lo hi) (hxo : Own w bx 89 [.int .i64 n2, vl, vm]) (hr2 : Sl entF.enc w F2 vl raw2) (he2 : EntL w F2 raw2 l) (hm : Sl strF.enc w F2 vm m) (hsd : d = Ob.srt m) (hG2 : ∀ j, F2 j → j < w.heap.size) (hn0 : n ≠ 0) (hB : Bt.Big l) (hln : l.length ≤ 100000) (hdn : d.length ≤ 100000) :
 Ret prog 50 #[.pointer (some ⟨b, 0, none⟩), .pointer (some ⟨bx, 0, none⟩)] w (fun v w' => v = .bool true ∧ Le w w') := by
 have hob9 := hob
 have hse9 := hob.ents.clips hob.clip
 obtain ⟨raw, hr, he⟩ := hse9
 have hus := hob.keys.sl
 have hl := he.1
 have hrl := hr.le
 have hdl := hus.le
 have hbl := hob.own.lt
 have hF : ∀ j, (lo ≤ j ∧ j < hi) → j < w.heap.size := fun j hj => by have := hob.top; omega
 have hF2 : ∀ j, bk us j → j < w.heap.size := fun j hj => (hob.keys.bk_ge j hj).2
 have hl2 := he2.1
 have hrl2 := hr2.le
 have hml := hm.le
 have hxl := hxo.lt
 have hsl := Ob.srt_len m
 rw [← hsd] at hsl
 have hol := hob.lt
 refine enT [.pointer (some ⟨b, 0, none⟩), .pointer (some ⟨bx, 0, none⟩)] 60 func50 rfl rfl (C.sr fun K1 => O.asg (K1 (C.sq fun K2 => C.sq fun K3 => C.join (fun f w f' w' => Le w w' ∧ f' 0 = f 0 ∧ f' 1 = f 1 ∧ f' 4 = f 4 ∧ f' 20 = .bool false) ?_ ?_)))
 ·
  refine C.draw (by kernel_rfl) fun w1 e1 => ?_
  have z1 := e1.size
  refine D.mv 0 rfl (Le.refl _) (D.t 1 rfl (Le.refl _) (fun _ _ _ hN => O.eqlP0 U68 rfl (O.nil hN)) (D.mv 2 rfl (Le.refl _) (D.ty 3 rfl rfl rfl rfl rfl (Le.refl _) ⟨pure _, rfl⟩ (fun _ hw_ _ hN => O.mv (O.nil hN)) (D.ty 5 rfl rfl rfl rfl rfl (Le.refl _) ⟨pure _, rfl⟩ (fun _ hw_ _ hN => O.mv (O.nil hN)) (D.ty 6 rfl rfl rfl rfl rfl (Le.refl _) (nil_form rfl) (fun _ hw_ _ hN => O.nilChk rfl (O.nil hN)) (D.ty 7 rfl rfl rfl rfl rfl (Le.refl _) ⟨_, rfl⟩ (fun _ hw_ _ hN => O.fa underlying89 rfl Z69 rfl (O.nil hN)) (D.ty 8 rfl rfl rfl rfl rfl (Le.refl _) ⟨_, rfl⟩ (fun _ hw_ _ hN => O.loadO isAgg69 rfl ((hxo.keep e1).keep hw_) rfl (O.nil hN)) ?_)))))))
  refine D.oneYes (i := 4) rfl rfl rfl (by kernel_rfl) (O.call call43 (args1 rfl) (oDirty_spec b n l d uo ud us lo hi _ (hob.keep e1) hn0 (by omega)) ?_)
  rintro v_12 w2 ⟨e2, h12⟩
  have z2 := e2.size
  refine O.nil ⟨e2, ?_⟩
  have h12s := h12.sl
  refine D.oneYes (i := 9) rfl rfl rfl (by kernel_rfl) (O.call call94 (args1 rfl) (sortedS_spec vm m F2 _ ((hm.keep e1).keep e2) (by omega)) ?_)
  rintro v_17 w3 ⟨e3, h17⟩
  have z3 := e3.size
  refine O.nil ⟨(Ext.trans e2 e3), ?_⟩
  have h17s := h17.sl
  refine D.oneYes (i := 10) rfl rfl rfl (by kernel_rfl) (O.call call86 (args2 rfl rfl) (strings2_spec v_12 d _ v_17 (Ob.srt m) _ _ (h12s.keep e3) h17s) ?_)
  rintro v_18 w4 ⟨rfl, e4⟩
  have z4 := e4.size
  have t0 := Ext.trans (Ext.trans e2 e3) e4
  refine O.nil ⟨t0, D.cast (v' := .bool true) (congrArg Value.bool (by exact decide_eq_true hsd)) (D.ty 11 rfl rfl rfl rfl rfl t0 ⟨_, rfl⟩ (fun _ hw_ _ hN => O.not rfl (O.cast (v' := .bool false) rfl (O.nil hN))) (D.tk 12 rfl rfl rfl rfl t0 pick_form (fun _ hw_ _ hN => O.pickF rfl (O.nil hN)) (D.dn ?_)))⟩
  exact ⟨(Ext.trans (Ext.trans (Ext.trans e1 e2) e3) e4), rfl, rfl, rfl, rfl⟩
 rintro f_1 w5 ⟨e_1, s0_1, s1_1, s4_1, s20_1⟩
 have z_1 := e_1.size
 refine K3 (C.condF s20_1 (C.skip (K2 (C.sr fun K4 => O.mv (O.call call42 (args1 s0_1) (oDeltas_spec b n l d uo ud us lo hi _ (hob.keep e_1) hn0 hB (by omega)) ?_)))))
 rintro v_22 w6 ⟨e6, h22⟩
 have z6 := e6.size
 have hr22 := h22.raws
 obtain ⟨raw22, hra22, hea22⟩ := hr22
 refine O.asg (K4 (C.sq fun K5 => C.sr fun K6 => O.mv (O.mv (O.nilChk s1_1 (O.fa underlying89 rfl Z22 rfl (O.loadO isAgg22 rfl ((hxo.keep e_1).keep e6) rfl (O.call call21 (args2 rfl rfl) (sameL_spec v_22 raw22 l (fun j => j < w6.heap.size) vl raw2 l F2 _ ((hra22).weakA) ((hea22).weakA) ((hr2.keep e_1).keep e6) ((he2.keep e_1).keep e6) (fun j hj => hj) (fun j hj => by have := hG2 j hj; omega)) ?_)))))))
 rintro v_28 w7 ⟨rfl, e7⟩
 have z7 := e7.size
 refine O.cast (v' := .bool true) (congrArg Value.bool (by exact decide_eq_true rfl)) (O.not rfl (O.cast (v' := .bool false) rfl (K6 (C.condF rfl (C.skip (K5 (C.sr fun K7 => O.mv (O.call call35 (args1 rfl) (stainL_spec v_22 v_22 l _ _ _ (.inl rfl) (h22.keep e7) (by omega) hB) ?_))))))))
 rintro v_31 w8 ⟨rfl, e8⟩
 have z8 := e8.size
 refine K7 (C.sr fun K8 => O.mv ?_)
 have t1 := Ext.trans (Ext.trans e_1 e6) e7
 have t2 := Ext.new t1 e8 (by intro i hi h; (try dsimp only at h); omega)
 refine O.call call43 (args1 s0_1) (oDirty_spec b n l d uo ud us lo hi _ (hob.keep t2) hn0 (by omega)) ?_
 rintro v_33 w9 ⟨e9, h33⟩
 have z9 := e9.size
 have h33s := h33.sl
 have hb33 := h33.bk_ge
 refine O.asg (K8 (C.sq fun K9 => C.sr fun K10 => O.asg (K10 (C.bl fun K11 => C.loop0 (σ := Nat × List Jn.Name) (fun f0 w0 ⟨k, dd⟩ f wz => f 7 = .int .i64 ((k : Int)) ∧ f 0 = f0 0 ∧ f 1 = f0 1 ∧ f 4 = f0 4 ∧ f 6 = f0 6 ∧ Le w wz ∧ OwnF strF 9 w.heap.size wz v_33 dd ∧ k ≤ d.length ∧ dd.length = d.length) (fun ⟨k, dd⟩ => d.length - k) (0, d) ?_ ?_))))
 ·
  refine ⟨rfl, rfl, rfl, rfl, rfl, (Ext.trans t2 e9), ((h33).low (by omega)), ?_⟩
  exact ⟨Nat.zero_le _, rfl⟩
 rintro ⟨k, dd⟩ f_2 w10 ⟨s7_2, s0_2, s1_2, s4_2, s6_2, e_2, r0_2, ⟨hk, hdd⟩⟩
 have z_2 := e_2.size
 have r0_2s := r0_2.sl
 have hsv := (r0_2).sl
 refine C.sq fun K12 => C.sr fun K13 => O.mv (O.mv (O.len U69 s6_2 hsv (O.lssI s7_2 rfl (K13 (C.condD rfl (fun c37 => ?_) (fun c37 => ?_))))))
 ·
  have hk2 : k < dd.length := by omega
  refine C.skip (K12 (C.sq fun K14 => C.bl fun K15 => C.region (O.mv (O.mv ?_))))
  have sp5_ := OwnF.ptr r0_2 (by omega)
  obtain ⟨g42, cap42, hv42⟩ := sp5_
  have ho42 := r0_2
  rw [hv42] at ho42
  refine O.idxO U69 Z9 (Eq.trans s6_2 hv42) s7_2 (by omega) (O.storeF (G := strF) ([115, 116, 97, 105, 110, 101, 100]) Z9 rfl (fun _ => rfl) rfl rfl rfl ho42 (by omega) (fun w11 hs11 e11 z11 => ?_))
  rw [← hv42] at hs11
  have h34x := hs11
  simp only [Nat.zero_add, Nat.mul_one, Int.toNat_natCast] at h34x
  refine O.nil (K15 (K14 (C.region (O.mv (O.addI s7_2 rfl (by unfold InI; omega) (O.asg (O.nil (⟨(k + 1, dd.set k [115, 116, 97, 105, 110, 101, 100]), ⟨rfl, s0_2, s1_2, s4_2, s6_2, (Ext.new e_2 e11 (by intro i hi h; have h0 : i = g42 := h; have q0 := hb33 g42 (by rw [hv42]; rfl); omega)), h34x, ?_⟩, by first | omega | (simp only []; omega)⟩))))))))
  exact ⟨by omega, by rw [List.length_set]; exact hdd⟩
 refine C.exit (K11 (K9 (C.sq fun K16 => C.join (fun f w f' w' => Le w w' ∧ f' 4 = .bool true) ?_ ?_)))
 ·
  refine C.draw (by kernel_rfl) fun w12 e12 => ?_
  have z12 := e12.size
  refine D.mv 0 rfl (Le.refl _) (D.mv 2 rfl (Le.refl _) (D.tk 3 rfl rfl rfl rfl (Le.refl _) (nil_form (Eq.trans s1_2 s1_1)) (fun _ hw_ _ hN => O.nilChk (Eq.trans s1_2 s1_1) (O.nil hN)) (D.t 4 rfl (Le.refl _) (fun _ _ _ hN => O.fa underlying89 rfl Z22 rfl (O.nil hN)) (D.t 5 rfl (Le.refl _) (fun _ hw_ _ hN => O.loadO isAgg22 rfl (((hxo.keep e_2).keep e12).keep hw_) rfl (O.nil hN)) (D.on 1 rfl rfl (O.call call42 (args1 (Eq.trans s0_2 s0_1)) (oDeltas_spec b n l d uo ud us lo hi _ ((hob.keep e_2).keep e12) hn0 hB (by omega)) ?_))))))
  rintro v_44 w13 ⟨e13, h44⟩
  have z13 := e13.size
  refine O.nil ⟨e13, ?_⟩
  have hr44 := h44.raws
  obtain ⟨raw44, hra44, hea44⟩ := hr44
  refine D.on 6 rfl rfl (O.call call21 (args2 rfl rfl) (sameL_spec v_44 raw44 l (fun j => j < w13.heap.size) vl raw2 l F2 _ ((hra44).weakA) ((hea44).weakA) (((hr2.keep e_2).keep e12).keep e13) (((he2.keep e_2).keep e12).keep e13) (fun j hj => hj) (fun j hj => by have := hG2 j hj; omega)) ?_)
  rintro v_49 w14 ⟨rfl, e14⟩
  have z14 := e14.size
  have t3 := Ext.trans e13 e14
  refine O.nil ⟨t3, D.cast (v' := .bool true) (congrArg Value.bool (by exact decide_eq_true rfl)) (D.mv 7 rfl t3 (D.ty 8 rfl rfl rfl rfl rfl t3 ⟨pure _, rfl⟩ (fun _ hw_ _ hN => O.mv (O.nil hN)) (D.ty 10 rfl rfl rfl rfl rfl t3 ⟨pure _, rfl⟩ (fun _ hw_ _ hN => O.mv (O.nil hN)) (D.ty 11 rfl rfl rfl rfl rfl t3 (nil_form (Eq.trans s1_2 s1_1)) (fun _ hw_ _ hN => O.nilChk (Eq.trans s1_2 s1_1) (O.nil hN)) (D.ty 12 rfl rfl rfl rfl rfl t3 ⟨_, rfl⟩ (fun _ hw_ _ hN => O.fa underlying89 rfl Z69 rfl (O.nil hN)) (D.ty 13 rfl rfl rfl rfl rfl t3 ⟨_, rfl⟩ (fun _ hw_ _ hN => O.loadO isAgg69 rfl (((hxo.keep e_2).keep e12).keep hw_) rfl (O.nil hN)) ?_))))))⟩
  refine D.oneYes (i := 9) rfl rfl rfl (by kernel_rfl) (O.call call43 (args1 (Eq.trans s0_2 s0_1)) (oDirty_spec b n l d uo ud us lo hi _ ((((hob.keep e_2).keep e12).keep e13).keep e14) hn0 (by omega)) ?_)
  rintro v_52 w15 ⟨e15, h52⟩
  have z15 := e15.size
  have t4 := Ext.trans t3 e15
  refine O.nil ⟨t4, ?_⟩
  have h52s := h52.sl
  refine D.oneYes (i := 14) rfl rfl rfl (by kernel_rfl) (O.call call94 (args1 rfl) (sortedS_spec vm m F2 _ (((((hm.keep e_2).keep e12).keep e13).keep e14).keep e15) (by omega)) ?_)
  rintro v_57 w16 ⟨e16, h57⟩
  have z16 := e16.size
  have t5 := Ext.trans t4 e16
  refine O.nil ⟨t5, ?_⟩
  have h57s := h57.sl
  refine D.oneYes (i := 15) rfl rfl rfl (by kernel_rfl) (O.call call86 (args2 rfl rfl) (strings2_spec v_52 d _ v_57 (Ob.srt m) _ _ (h52s.keep e16) h57s) ?_)
  rintro v_58 w17 ⟨rfl, e17⟩
  have z17 := e17.size
  have t6 := Ext.trans t5 e17
  refine O.nil ⟨t6, D.cast (v' := .bool true) (congrArg Value.bool (by exact decide_eq_true hsd)) (D.tk 16 rfl rfl rfl rfl t6 pick_form (fun _ hw_ _ hN => O.pickT rfl (O.nil hN)) (D.as 17 rfl t6 (D.dn ?_)))⟩
  exact ⟨(Ext.trans (Ext.trans (Ext.trans (Ext.trans (Ext.trans e12 e13) e14) e15) e16) e17), rfl⟩
 rintro f_3 w18 ⟨e_3, s4_3⟩
 have z_3 := e_3.size
 refine K16 (C.ret (Outs.one rfl s4_3 ?_))
 exact ⟨rfl, (Ext.trans e_2 e_3)⟩
theorem outboxNewA_spec (n : Int) (w : World) (h1 : 1 ≤ n) (h2 : n ≤ 256) (mx : Mx w) :
 Ret prog 12 #[.int .i64 (n)] w (fun v w' => v = .bool true ∧ Le w w') := by
 refine enT [.int .i64 (n)] 37 func12 rfl rfl (C.sr fun K1 => O.asg (K1 (C.sr fun K2 => O.mv (O.call call45 (args1 rfl) (newOk_spec n _ h1 h2) ?_))))
 rintro v_7 w1 ⟨bv7, rfl, hbv7, hov7, e1⟩
 have z1 := e1.size
 have hob7 : OB 50 112 117 114 71 9 w1 bv7 n [] [] (.slice none 0 0) (.slice none 0 0) (.slice none 0 0) 0 0 := OB.new hov7
 refine O.mv (O.extract rfl rfl (O.extract rfl rfl (O.asg (O.asg (K2 (C.sq fun K3 => C.sr fun K4 => O.mv (O.lssI rfl rfl (O.cast (v' := .bool false) (congrArg Value.bool (by exact decide_eq_false (by omega))) (O.mv (O.yes rfl rfl (O.mv (O.yes rfl rfl (O.gtrI rfl rfl (O.cast (v' := .bool false) (congrArg Value.bool (by exact decide_eq_false (by omega))) (O.pickF rfl (K4 (C.condF rfl (C.skip (K3 (C.sr fun K5 => O.mv (O.eqlI rfl rfl (O.cast (v' := .bool true) (congrArg Value.bool (by exact decide_eq_true rfl)) (O.mv (O.yes rfl rfl (O.mv (O.yes rfl rfl (O.mv (O.yes rfl rfl ?_))))))))))))))))))))))))))))
 refine O.build (cells := #[.int .i64 n, .slice none 0 0, .slice none 0 0]) rfl (by kernel_rfl) (O.yes rfl rfl (O.box rfl (fun b31 w2 hb31 hz31 e2 => ?_)))
 have z2 := e2.size
 have h31 := hz31.own
 have hl31 := h31.lt
 refine O.yes rfl rfl (O.call call50 (args2 rfl rfl) (alike_spec bv7 n [] [] (.slice none 0 0) (.slice none 0 0) (.slice none 0 0) 0 0 b31 n [] (.slice none 0 0) (.slice none 0 0) [] (fun _ => False) _ (hob7.keep e2) h31 (Sl.nil _ _ _) EntL.nil (Sl.nil _ _ _) rfl (fun _ h => h.elim) (by omega) (fun x hx => by cases hx) (by decide) (by decide)) ?_)
 rintro v_32 w3 ⟨rfl, e3⟩
 have z3 := e3.size
 refine O.pickT rfl (O.mv (O.yes rfl rfl (O.call call39 (argsN) (oknown_spec _ (((mx.keep e1).keep e2).keep e3)) ?_)))
 rintro v_35 w4 ⟨rfl, e4⟩
 have z4 := e4.size
 refine O.pickT rfl (O.asg (K5 (C.ret (Outs.one rfl rfl ?_))))
 exact ⟨rfl, (Ext.trans (Ext.trans (Ext.trans e1 e2) e3) e4)⟩
theorem outboxNewB_spec (n : Int) (w : World) (h1 : n < 1 ∨ n > 256) (mx : Mx w) :
 Ret prog 12 #[.int .i64 (n)] w (fun v w' => v = .bool true ∧ Le w w') := by
 refine enT [.int .i64 (n)] 37 func12 rfl rfl (C.sr fun K1 => O.asg (K1 (C.sr fun K2 => O.mv (O.call call45 (args1 rfl) (newNo_spec n _ h1) ?_))))
 rintro v_7 w1 ⟨rfl, hw_⟩
 replace hw_ := hw_.symm
 subst hw_
 refine O.mv (O.extract rfl rfl (O.extract rfl rfl (O.asg (O.asg (K2 (C.sq fun K3 => C.sr fun K4 => O.mv (O.lssI rfl rfl (O.mv (O.cut 3 (fun f f' => f' 15 = .bool (decide (n < 1 ∨ n > 256)) ∧ f' 0 = f 0 ∧ f' 2 = f 2 ∧ f' 3 = f 3 ∧ f' 4 = f 4) ?_ ?_)))))))))
 ·
  refine O.splitD (x := .tmp 12) rfl (fun c12 => ?_) (fun c12 => ?_)
  ·
   refine O.no rfl (noB (isT rfl c12) rfl) (O.no rfl (noB (isT rfl c12) rfl) (O.pickT (isT rfl c12) (O.nil (⟨⟨?_, rfl, rfl, rfl, rfl⟩, rfl⟩))))
   exact dJ rfl
  refine O.yes rfl (isF rfl c12) (O.mv (O.yes rfl (isF rfl c12) (O.gtrI rfl rfl (O.pickF (isF rfl c12) (O.nil (⟨⟨?_, rfl, rfl, rfl, rfl⟩, rfl⟩))))))
  exact dJ rfl
 rintro f_1 ⟨s15_1, s0_1, s2_1, s3_1, s4_1⟩
 refine K4 (C.condD s15_1 (fun c15 => ?_) (fun c15 => ?_))
 ·
  refine C.sr fun K5 => O.mv (O.eqlN U68 (by exact s3_1) (O.mv (O.yes rfl rfl (O.mv (O.yes rfl rfl (O.eqlI s4_1 rfl (O.cast (v' := .bool true) (congrArg Value.bool (by exact decide_eq_true rfl)) (O.pickT rfl (O.mv (O.yes rfl rfl (O.call call39 (argsN) (oknown_spec _ mx) ?_)))))))))))
  rintro v_23 w1 ⟨rfl, e1⟩
  have z1 := e1.size
  refine O.pickT rfl (O.asg (K5 (C.ret (Outs.one rfl rfl ?_))))
  exact ⟨rfl, e1⟩
 exact absurd h1 c15
theorem outboxNew_spec (n : Int) (w : World) (mx : Mx w) : Ret prog 12 #[.int .i64 n] w (fun v w' => v = .bool true ∧ Le w w') := by
 by_cases h : 1 ≤ n ∧ n ≤ 256
 ·exact outboxNewA_spec n w h.1 h.2 mx
 ·exact outboxNewB_spec n w (by omega) mx
end Go.Proofs.YtpbcafkcfobngaaGreatDoor
