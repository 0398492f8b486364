/-
 The walk of the law of batches: merging. Conditions: slices as they lie in memory.
-/
import Derived.Test.YtpbcafkcfobngaaGreatDoorBatchMergesM3
namespace Go.Proofs.YtpbcafkcfobngaaGreatDoor
open Go.Pn Go.RowKit Go.Proofs _root_.Go.Proofs.Tryz
attribute [local irreducible] O C D
set_option maxHeartbeats 16000000 in
theorem batchMerges0_spec (v0 : Value) (raw : List EntR) (l : List EntT) (F : Nat → Prop) (v1 : Value) (raw2 : List EntR) (l2 : List EntT) (F2 : Nat → Prop) (w : World) (hr : Sl entF.enc w F v0 raw) (he : EntL w F raw l) (hr2 : Sl entF.enc w F2 v1 raw2) (he2 : EntL w F2 raw2 l2) (hF : ∀ k, F k → k < w.heap.size) (hF2 : ∀ k, F2 k → k < w.heap.size) (mx : Mx w) :
 Ret prog 8 #[v0, v1] w (fun v w' => v = .bool true ∧ Le w w') := by
 obtain ⟨ie50, ti50, ts50, tb50, tz50⟩ := inf50
 have hl := he.1
 have hrl := hr.le
 have hl2 := he2.1
 have hrl2 := hr2.le
 have hgl := mx.lt
 have _hF9 := hF
 have _hF8 := hF2
 refine enT [v0, v1] 158 func8 rfl rfl (C.sr fun K1 => O.asg (K1 (C.sq fun K2 => C.sr fun K3 => O.mv (O.call call15 (args2 rfl rfl) (smallL_spec v0 raw l F 12 _ hr he) ?_))))
 rintro v_15 w1 ⟨rfl, e1⟩
 have z1 := e1.size
 refine O.not rfl (O.mv (O.split (x := .tmp 17) rfl (fun c17 => ?_) (fun c17 => ?_)))
 ·
  refine O.no rfl (noB (isT' rfl c17) rfl) (O.no rfl (noB (isT' rfl c17) rfl) (O.no rfl (noB (isT' rfl c17) rfl) (O.pickT (isT' rfl c17) (K3 (C.condT rfl (C.sr fun K4 => O.call call16 (argsN) (bknown_spec _ (mx.keep e1)) ?_))))))
  rintro v_22 w2 ⟨rfl, e2⟩
  have z2 := e2.size
  refine O.asg (K4 (C.ret (Outs.one rfl rfl ?_)))
  exact ⟨rfl, (Ext.trans e1 e2)⟩
 have hsm : Bt.small l 12 = true := by simpa using c17
 have hsmB := Bt.small_Big hsm
 have hsml := Bt.small_len hsm
 have hsmf := Bt.small_flat hsm
 have hsme := Bt.enc_le hsm
 have hsmv := Bt.small_valid hsm (by omega)
 have hsmM := Bt.small_mid hsm
 refine O.yes rfl (isF' rfl c17) (O.mv (O.yes rfl (isF' rfl c17) (O.call call15 (args2 rfl rfl) (smallL_spec v1 raw2 l2 F2 12 _ (hr2.keep e1) (he2.keep e1)) ?_)))
 rintro v_19 w3 ⟨rfl, e3⟩
 have z3 := e3.size
 refine O.yes rfl (isF' rfl c17) (O.not rfl (O.pickF (isF' rfl c17) (K3 (C.cond rfl (fun c21 => ?_) (fun c21 => ?_)))))
 ·
  refine C.sr fun K5 => O.call call16 (argsN) (bknown_spec _ ((mx.keep e1).keep e3)) ?_
  rintro v_22 w4 ⟨rfl, e4⟩
  have z4 := e4.size
  refine O.asg (K5 (C.ret (Outs.one rfl rfl ?_)))
  exact ⟨rfl, (Ext.trans (Ext.trans e1 e3) e4)⟩
 have hsn : Bt.small l2 12 = true := by simpa using c21
 have hsnB := Bt.small_Big hsn
 have hsnl := Bt.small_len hsn
 have hsnf := Bt.small_flat hsn
 have hsne := Bt.enc_le hsn
 have hsnv := Bt.small_valid hsn (by omega)
 have hsnM := Bt.small_mid hsn
 refine C.skip (K2 (C.sq fun K6 => C.sr fun K7 => O.mv ?_))
 have t0 := (he.keep e1).keep e3
 have t1 := (hr.keep e1).keep e3
 have t2 := (mx.keep e1).keep e3
 refine O.call call19 (args1 rfl) (lordered_spec v0 raw l F _ t1 t0 (fun j hj => by have q1 := hF j hj; omega) hsmB t2) ?_
 rintro v_24 w5 ⟨rfl, e5⟩
 have z5 := e5.size
 refine O.not rfl (O.mv (O.split (x := .tmp 26) rfl (fun c26 => ?_) (fun c26 => ?_)))
 ·
  have hoN : Bt.ordered l = false ∨ Bt.ordered l2 = false := .inl (by simpa using c26)
  refine O.no rfl (noB (isT' rfl c26) rfl) (O.no rfl (noB (isT' rfl c26) rfl) (O.no rfl (noB (isT' rfl c26) rfl) (O.pickT (isT' rfl c26) (K7 (C.condT rfl (C.sr fun K8 => O.mv (O.mv (O.call call32 (args4 rfl rfl rfl rfl) (merges_spec v0 raw l F v1 raw2 l2 F2 (.slice none 0 0) [] [] (fun _ => False) 2 _ (t1.keep e5) (t0.keep e5) (((hr2.keep e1).keep e3).keep e5) (((he2.keep e1).keep e3).keep e5) (Sl.nil _ _ _) EntL.nil (fun j hj => by have q1 := hF j hj; omega) (fun j hj => by have q1 := hF2 j hj; omega) (fun _ h => h.elim) hsmB hsnB hsmM hsnM (by omega) (t2.keep e5) (.inr ⟨hoN, rfl, rfl⟩)) ?_))))))))
  rintro v_33 w6 ⟨rfl, e6⟩
  have z6 := e6.size
  refine O.mv (O.yes rfl rfl (O.call call16 (argsN) (bknown_spec _ ((t2.keep e5).keep e6)) ?_))
  rintro v_35 w7 ⟨rfl, e7⟩
  have z7 := e7.size
  refine O.pickT rfl (O.asg (K8 (C.ret (Outs.one rfl rfl ?_))))
  exact ⟨rfl, (Ext.trans (Ext.trans (Ext.trans (Ext.trans e1 e3) e5) e6) e7)⟩
 refine O.yes rfl (isF' rfl c26) (O.mv (O.yes rfl (isF' rfl c26) ?_))
 have t3 := (he2.keep e1).keep e3
 have t4 := (hr2.keep e1).keep e3
 refine O.call call19 (args1 rfl) (lordered_spec v1 raw2 l2 F2 _ (t4.keep e5) (t3.keep e5) (fun j hj => by have q1 := hF2 j hj; omega) hsnB (t2.keep e5)) ?_
 rintro v_28 w8 ⟨rfl, e8⟩
 have z8 := e8.size
 refine O.yes rfl (isF' rfl c26) (O.not rfl (O.pickF (isF' rfl c26) (K7 (C.cond rfl (fun c30 => ?_) (fun c30 => ?_)))))
 ·
  have hoN : Bt.ordered l = false ∨ Bt.ordered l2 = false := .inr (by simpa using c30)
  refine C.sr fun K9 => O.mv (O.mv (O.call call32 (args4 rfl rfl rfl rfl) (merges_spec v0 raw l F v1 raw2 l2 F2 (.slice none 0 0) [] [] (fun _ => False) 2 _ ((t1.keep e5).keep e8) ((t0.keep e5).keep e8) ((t4.keep e5).keep e8) ((t3.keep e5).keep e8) (Sl.nil _ _ _) EntL.nil (fun j hj => by have q1 := hF j hj; omega) (fun j hj => by have q1 := hF2 j hj; omega) (fun _ h => h.elim) hsmB hsnB hsmM hsnM (by omega) ((t2.keep e5).keep e8) (.inr ⟨hoN, rfl, rfl⟩)) ?_))
  rintro v_33 w9 ⟨rfl, e9⟩
  have z9 := e9.size
  refine O.mv (O.yes rfl rfl (O.call call16 (argsN) (bknown_spec _ (((t2.keep e5).keep e8).keep e9)) ?_))
  rintro v_35 w10 ⟨rfl, e10⟩
  have z10 := e10.size
  refine O.pickT rfl (O.asg (K9 (C.ret (Outs.one rfl rfl ?_))))
  exact ⟨rfl, (Ext.trans (Ext.trans (Ext.trans (Ext.trans (Ext.trans e1 e3) e5) e8) e9) e10)⟩
 have hO1 : Bt.ordered l = true := by simpa using c26
 have hO2 : Bt.ordered l2 = true := by simpa using c30
 have hD1 := Bt.ord_iff.1 hO1
 have hD2 := Bt.ord_iff.1 hO2
 refine C.skip (K6 (C.sr fun K10 => O.mv (O.call call17 (args1 rfl) (copyL_spec v0 raw l F _ ((t1.keep e5).keep e8) ((t0.keep e5).keep e8) (fun j hj => by have q1 := hF j hj; omega) hsmB (by omega) ((t2.keep e5).keep e8)) ?_)))
 rintro v_38 w11 ⟨h38, e11⟩
 have z11 := e11.size
 obtain ⟨rw38, hra38, hea38⟩ := h38
 have hrs38 := hra38.sl.weak (F' := fun j => j < w11.heap.size) (fun j hj => by have q1 := hj.2; omega)
 have hes38 := hea38.weak (F' := fun j => j < w11.heap.size) (fun j hj => by have q1 := hj.2.1; omega)
 have hrn38 := hes38.1
 refine O.mv (O.call call17 (args1 rfl) (copyL_spec v1 raw2 l2 F2 _ (((t4.keep e5).keep e8).keep e11) (((t3.keep e5).keep e8).keep e11) (fun j hj => by have q1 := hF2 j hj; omega) hsnB (by omega) (((t2.keep e5).keep e8).keep e11)) ?_)
 rintro v_40 w12 ⟨h40, e12⟩
 have z12 := e12.size
 obtain ⟨rw40, hra40, hea40⟩ := h40
 have hrs40 := hra40.sl.weak (F' := fun j => j < w12.heap.size) (fun j hj => by have q1 := hj.2; omega)
 have hes40 := hea40.weak (F' := fun j => j < w12.heap.size) (fun j hj => by have q1 := hj.2.1; omega)
 have hrn40 := hes40.1
 have sp1_ : ∃ n, n = w12.heap.size := ⟨_, rfl⟩
 obtain ⟨n9, hn9⟩ := sp1_
 refine O.asg (O.asg (K10 (C.sr fun K11 => O.asg (K11 (C.sq fun K12 => C.bl fun K13 => ?_)))))
 refine C.loop0 (σ := Value × Value × List EntR × List EntR × List EntT × List EntT × Value × Nat × List EntR × List EntT × Nat) (fun f0 w0 ⟨va, vb, ra, rb, la, lb, o, gl, raw3, done, hz⟩ f wz => f 5 = va ∧ f 6 = vb ∧ f 7 = o ∧ f 0 = f0 0 ∧ f 1 = f0 1 ∧ Le w wz ∧ Sl entF.enc wz (fun j => j < n9) va ra ∧ EntL wz (fun j => j < n9) ra la ∧ Sl entF.enc wz (fun j => j < n9) vb rb ∧ EntL wz (fun j => j < n9) rb lb ∧ OG entF 50 wz o gl raw3 ∧ EntL wz (fun j => j < hz ∧ j ≠ gl) raw3 done ∧ Bt.merge l l2 = done ++ Bt.merge la lb ∧ (Bt.Ord la ∧ Bt.Ord lb) ∧ (Bt.Mid 20000 la ∧ Bt.Mid 20000 lb) ∧ (∀ j, bk o j → n9 ≤ j) ∧ (n9 ≤ wz.heap.size ∧ hz ≤ wz.heap.size) ∧ done.length + la.length + lb.length ≤ l.length + l2.length) (fun ⟨va, vb, ra, rb, la, lb, o, gl, raw3, done, hz⟩ => la.length + lb.length) (v_38, v_40, rw38, rw40, l, l2, .slice none 0 0, 0, [], [], 0) ?_ ?_
 ·
  refine ⟨rfl, rfl, rfl, rfl, rfl, (Ext.trans (Ext.trans (Ext.trans (Ext.trans (Ext.trans e1 e3) e5) e8) e11) e12), (((hrs38.keep e12)).weakA), (((hes38.keep e12)).weakA), ((hrs40).weakA), ((hes40).weakA), (OG.nil (by omega)), EntL.nil, ?_⟩
  exact ⟨rfl, ⟨hD1, hD2⟩, ⟨hsmM, hsnM⟩, fun _ h => h.elim, by omega, by simp⟩
 rintro ⟨va, vb, ra, rb, la, lb, o, gl, raw3, done, hz⟩ f_1 w13 ⟨s5_1, s6_1, s7_1, s0_1, s1_1, e_1, r0_1, r1_1, r2_1, r3_1, r4_1, r5_1, ⟨hmg, ⟨hoa, hob9⟩, ⟨hma, hmb⟩, hob, ⟨hn9z, hhz⟩, hdn⟩⟩
 have z_1 := e_1.size
 have hogl := (r4_1).2.2
 have hogu := (r4_1).2.1
 have hrx := (r5_1).1
 have hral := (r0_1).le
 have hrbl := (r2_1).le
 have hlra := (r1_1).1
 have hlrb := (r3_1).1
 refine C.sq fun K14 => C.sr fun K15 => O.mv (O.len U22 s5_1 r0_1 (O.gtrI rfl rfl (O.mv (O.cut 4 (fun f f' => f' 48 = .bool (decide ((ra.length : Int) > 0 ∨ (rb.length : Int) > 0)) ∧ f' 0 = f 0 ∧ f' 1 = f 1 ∧ f' 5 = f 5 ∧ f' 6 = f 6 ∧ f' 7 = f 7) ?_ ?_))))
 ·
  refine O.splitD (x := .tmp 44) rfl (fun c44 => ?_) (fun c44 => ?_)
  ·
   refine O.no rfl (noB (isT rfl c44) rfl) (O.no rfl (noB (isT rfl c44) rfl) (O.no rfl (noB (isT rfl c44) rfl) (O.pickT (isT rfl c44) (O.nil (⟨⟨?_, rfl, rfl, rfl, rfl, rfl⟩, rfl⟩)))))
   exact dJ rfl
  refine O.yes rfl (isF rfl c44) (O.mv (O.yes rfl (isF rfl c44) (O.len U22 s6_1 r2_1 (O.yes rfl (isF rfl c44) (O.gtrI rfl rfl (O.pickF (isF rfl c44) (O.nil (⟨⟨?_, rfl, rfl, rfl, rfl, rfl⟩, rfl⟩))))))))
  exact dJ rfl
 rintro f_2 ⟨s48_2, s0_2, s1_2, s5_2, s6_2, s7_2⟩
 refine K15 (C.condD s48_2 (fun c48 => ?_) (fun c48 => ?_))
 ·
  refine C.skip (K14 (C.bl fun K16 => C.bl fun K17 => C.sq fun K18 => C.join (fun f w f' w' => Le w w' ∧ f' 0 = f 0 ∧ f' 1 = f 1 ∧ f' 5 = f 5 ∧ f' 6 = f 6 ∧ f' 7 = f 7 ∧ f' 76 = .bool (Bt.first la lb)) ?_ ?_))
  ·
   refine C.draw (by kernel_rfl) fun w14 e14 => ?_
   have z14 := e14.size
   refine D.mv 0 rfl (Le.refl _) (D.tk 1 rfl rfl rfl rfl (Le.refl _) len_form (fun _ hw_ _ hN => O.len U22 (Eq.trans s6_2 s6_1) ((r2_1.keep e14).keep hw_) (O.nil hN)) (D.t 2 rfl (Le.refl _) (fun _ _ _ hN => O.eqlI rfl rfl (O.nil hN)) (D.mv 3 rfl (Le.refl _) (D.splitD (x := .tmp 80) rfl (fun c80 => ?_) (fun c80 => ?_)))))
   ·
    refine D.tn 4 rfl rfl (Le.refl _) rfl (noB (isT rfl c80) rfl) (D.tn 5 rfl rfl (Le.refl _) rfl (noB (isT rfl c80) rfl) (D.tn 6 rfl rfl (Le.refl _) rfl (noB (isT rfl c80) rfl) (D.tn 7 rfl rfl (Le.refl _) rfl (noB (isT rfl c80) rfl) (D.tn 8 rfl rfl (Le.refl _) rfl (noU rfl) (D.tn 9 rfl rfl (Le.refl _) rfl (noU rfl) (D.tn 10 rfl rfl (Le.refl _) rfl (noU rfl) (D.tn 11 rfl rfl (Le.refl _) rfl (noU rfl) (D.tn 12 rfl rfl (Le.refl _) rfl (noU rfl) (D.tn 13 rfl rfl (Le.refl _) rfl (noU rfl) (D.tn 14 rfl rfl (Le.refl _) rfl (noU rfl) (D.tn 15 rfl rfl (Le.refl _) rfl (noU rfl) (D.tn 16 rfl rfl (Le.refl _) rfl (noU rfl) ?_))))))))))))
    refine D.tn 17 rfl rfl (Le.refl _) rfl (noB (isT rfl c80) rfl) (D.tk 18 rfl rfl rfl rfl (Le.refl _) pick_form (fun _ hw_ _ hN => O.pickT (isT rfl c80) (O.nil hN)) (D.as 19 rfl (Le.refl _) (D.dn ?_)))
    exact ⟨e14, rfl, rfl, rfl, rfl, rfl, (by first | exact Eq.trans rfl (congrArg Value.bool (Bt.first_nil (by omega)).symm) | exact Eq.trans rfl (congrArg Value.bool (Bt.first_no (by omega) (by omega)).symm) | (subst hla; subst hlb; exact Eq.trans rfl (congrArg Value.bool (by rw [hkxr, hkys]; rfl))))⟩
   refine D.ty 4 rfl rfl rfl rfl (isF rfl c80) (Le.refl _) ⟨pure _, rfl⟩ (fun _ hw_ _ hN => O.mv (O.nil hN)) (D.ty 5 rfl rfl rfl rfl (isF rfl c80) (Le.refl _) len_form (fun _ hw_ _ hN => O.len U22 (Eq.trans s5_2 s5_1) ((r0_1.keep e14).keep hw_) (O.nil hN)) (D.ty 6 rfl rfl rfl rfl (isF rfl c80) (Le.refl _) ⟨_, rfl⟩ (fun _ hw_ _ hN => O.gtrI rfl rfl (O.nil hN)) (D.ty 7 rfl rfl rfl rfl (isF rfl c80) (Le.refl _) ⟨pure _, rfl⟩ (fun _ hw_ _ hN => O.mv (O.nil hN)) (D.splitD (x := .tmp 84) rfl (fun c84 => ?_) (fun c84 => ?_)))))
   ·
    have ca9 := cons_ent (r0_1.keep e14) (r1_1.keep e14) (by have q := ((r1_1.keep e14)).1; omega) hoa hma
    obtain ⟨r, ra2, x, la2, hra, hla, hsa, hea, hca, hkxr, ⟨hoaC, hoa2⟩, ⟨hmaC, hma2⟩, hgx, hbx, hlal⟩ := ca9
    have hmid := hmaC x List.mem_cons_self
    have cb9 := cons_ent (r2_1.keep e14) (r3_1.keep e14) (by have q := ((r3_1.keep e14)).1; omega) hob9 hmb
    obtain ⟨s, rb2, y, lb2, hrb, hlb, hsb, heb, hcb, hkys, ⟨hobC, hob2⟩, ⟨hmbC, hmb2⟩, hgy, hby, hlbl⟩ := cb9
    have hmiy := hmbC y List.mem_cons_self
    refine D.ty 8 rfl rfl rfl rfl (isT rfl c84) (Le.refl _) ⟨pure _, rfl⟩ (fun _ hw_ _ hN => O.mv (O.nil hN)) ?_
    have sp2_ := Sl.at (i := 0) (P := prog) U22 Z50 rfl hsa (by simp)
    obtain ⟨a86, h86, hr86⟩ := sp2_
    refine D.ty 9 rfl rfl rfl rfl (isT rfl c84) (Le.refl _) ⟨_, rfl⟩ (fun _ hw_ _ hN => O.idxR (Eq.trans s5_2 s5_1) rfl hr86 (O.nil hN)) (D.ty 10 rfl rfl rfl rfl (isT rfl c84) (Le.refl _) ⟨_, rfl⟩ (fun _ hw_ _ hN => O.ft U50 rfl Z9 rfl (O.nil hN)) (D.ty 11 rfl rfl rfl rfl (isT rfl c84) (Le.refl _) ⟨_, rfl⟩ (fun _ hw_ _ hN => O.loadAtF (G := entF) isAgg9 rfl rfl (h86.keep hw_) (O.nil hN)) (D.cast (v' := str r.1) rfl (D.ty 12 rfl rfl rfl rfl (isT rfl c84) (Le.refl _) ⟨pure _, rfl⟩ (fun _ hw_ _ hN => O.mv (O.nil hN)) ?_))))
    have sp3_ := Sl.at (i := 0) (P := prog) U22 Z50 rfl hsb (by simp)
    obtain ⟨a90, h90, hr90⟩ := sp3_
    refine D.ty 13 rfl rfl rfl rfl (isT rfl c84) (Le.refl _) ⟨_, rfl⟩ (fun _ hw_ _ hN => O.idxR (Eq.trans s6_2 s6_1) rfl hr90 (O.nil hN)) (D.ty 14 rfl rfl rfl rfl (isT rfl c84) (Le.refl _) ⟨_, rfl⟩ (fun _ hw_ _ hN => O.ft U50 rfl Z9 rfl (O.nil hN)) (D.ty 15 rfl rfl rfl rfl (isT rfl c84) (Le.refl _) ⟨_, rfl⟩ (fun _ hw_ _ hN => O.loadAtF (G := entF) isAgg9 rfl rfl (h90.keep hw_) (O.nil hN)) (D.cast (v' := str s.1) rfl (D.ty 16 rfl rfl rfl rfl (isT rfl c84) (Le.refl _) ⟨_, rfl⟩ (fun _ hw_ _ hN => O.lssS rfl rfl (O.nil hN)) (D.ty 17 rfl rfl rfl rfl (isF rfl c80) (Le.refl _) pick_form (fun _ hw_ _ hN => O.pickT (isT rfl c84) (O.nil hN)) ?_)))))
    refine D.tk 18 rfl rfl rfl rfl (Le.refl _) pick_form (fun _ hw_ _ hN => O.pickF (isF rfl c80) (O.nil hN)) (D.as 19 rfl (Le.refl _) (D.dn ?_))
    exact ⟨e14, rfl, rfl, rfl, rfl, rfl, (by first | exact Eq.trans rfl (congrArg Value.bool (Bt.first_nil (by omega)).symm) | exact Eq.trans rfl (congrArg Value.bool (Bt.first_no (by omega) (by omega)).symm) | (subst hla; subst hlb; exact Eq.trans rfl (congrArg Value.bool (by rw [hkxr, hkys]; rfl))))⟩
   refine D.tn 8 rfl rfl (Le.refl _) rfl (noB (isF rfl c84) rfl) (D.tn 9 rfl rfl (Le.refl _) rfl (noB (isF rfl c84) rfl) (D.tn 10 rfl rfl (Le.refl _) rfl (noB (isF rfl c84) rfl) (D.tn 11 rfl rfl (Le.refl _) rfl (noB (isF rfl c84) rfl) (D.tn 12 rfl rfl (Le.refl _) rfl (noB (isF rfl c84) rfl) (D.tn 13 rfl rfl (Le.refl _) rfl (noB (isF rfl c84) rfl) (D.tn 14 rfl rfl (Le.refl _) rfl (noB (isF rfl c84) rfl) (D.tn 15 rfl rfl (Le.refl _) rfl (noB (isF rfl c84) rfl) (D.tn 16 rfl rfl (Le.refl _) rfl (noB (isF rfl c84) rfl) (D.ty 17 rfl rfl rfl rfl (isF rfl c80) (Le.refl _) pick_form (fun _ hw_ _ hN => O.pickF (isF rfl c84) (O.nil hN)) ?_)))))))))
   refine D.tk 18 rfl rfl rfl rfl (Le.refl _) pick_form (fun _ hw_ _ hN => O.pickF (isF rfl c80) (O.nil hN)) (D.as 19 rfl (Le.refl _) (D.dn ?_))
   exact ⟨e14, rfl, rfl, rfl, rfl, rfl, (by first | exact Eq.trans rfl (congrArg Value.bool (Bt.first_nil (by omega)).symm) | exact Eq.trans rfl (congrArg Value.bool (Bt.first_no (by omega) (by omega)).symm) | (subst hla; subst hlb; exact Eq.trans rfl (congrArg Value.bool (by rw [hkxr, hkys]; rfl))))⟩
  rintro f_3 w15 ⟨e_3, s0_3, s1_3, s5_3, s6_3, s7_3, s76_3⟩
  have z_3 := e_3.size
  refine K18 (C.cond s76_3 (fun c76 => ?_) (fun c76 => ?_))
  ·
   have hlr := ((r1_1.keep e_3)).1
   have hp9 := Bt.first_pos c76 (by have q := ((r3_1.keep e_3)).1; omega)
   have ca9 := cons_ent (r0_1.keep e_3) (r1_1.keep e_3) (by have q := ((r1_1.keep e_3)).1; omega) hoa hma
   obtain ⟨r, ra2, x, la2, hra, hla, hsa, hea, hca, hkxr, ⟨hoaC, hoa2⟩, ⟨hmaC, hma2⟩, hgx, hbx, hlal⟩ := ca9
   have hmid := hmaC x List.mem_cons_self
   have hmg2 : Bt.merge la lb = (r.1, x.2) :: Bt.merge la2 lb := by rw [hla] at c76 ⊢; rw [Bt.first_merge c76, hkxr]
   refine C.drawB (wB := w) (by kernel_rfl) fun w16 e16 => ?_
   have z16 := e16.size
   have t5 := Ext.trans e_1 e_3
   have t6 := Ext.trans t5 e16
   refine D.mv 0 rfl t6 (D.mv 1 rfl t6 (D.mv 6 rfl t6 ?_))
   have hb103 := Sl.sub (P := prog) (1) ((r :: ra2).length) U22 Z50 (by rfl) (hsa.keep e16) (by simp) (Nat.le_refl _)
   obtain ⟨v103, hs103, hr103⟩ := hb103
   refine D.t 7 rfl t6 (fun _ _ _ hN => O.subR (Eq.trans s5_3 (Eq.trans s5_2 s5_1)) hr103 (.inr ⟨_, _, rfl, rfl⟩) (.inl ⟨rfl, rfl⟩) (O.nil hN)) ?_
   rw [List.take_length] at hs103
   replace hs103 : Sl entF.enc _ (fun j => j < n9) v103 ra2 := hs103
   have het103 := ((hea.keep e16)).tail
   refine D.on 2 rfl rfl (O.idx U22 Z50 rfl (Eq.trans s5_3 (Eq.trans s5_2 s5_1)) (hsa.keep e16) rfl (by simp) (fun a98 h98 => O.nil ⟨t6, D.on 3 rfl rfl (O.loadG (G := entF) isAgg50 Z50 rfl h98 (O.nil ⟨t6, D.cast (v' := .agg #[str r.1, slv r.2.1.1, slv r.2.1.2, slv r.2.2]) rfl (D.on 4 rfl rfl (O.litG (G := entF) [r] U22 ti50 ts50 tz50 rfl (by decide) (by decide) rfl (fun b100 w17 hb100 hz100 e17 => ?_)))⟩))⟩))
   have z17 := e17.size
   have h100 := hz100.own
   have hq100 := Sl.litG (n := 1) h100 rfl (by unfold maxLen; omega)
   have t7 := Ext.trans t6 e17
   refine O.nil ⟨t7, D.on 5 rfl rfl ?_⟩
   have t8 := ((r4_1.keep e_3).keep e16).keep e17
   refine O.appG (G := entF) U22 ti50 tz50 ts50 rfl (Eq.trans s7_3 (Eq.trans s7_2 s7_1)) rfl t8 hq100 (by rw [tb50]; simp; omega) (by unfold maxLen; simp; omega) (fun v101 gg101 w18 h101 hg101 e18 hw101 => ?_)
   have e18m := e18.mono (M' := fun k => k = _) (fun k _ hk => t8.2.1 k hk)
   have z18 := e18.size
   have hgl101 := h101.2.2
   have t9 := Ext.new t7 e18 (by intro i hi h; have := hob i h; omega)
   refine O.nil ⟨t9, ?_⟩
   have hob9_ : ∀ j, bk v101 j → n9 ≤ j := fun j hj => by
    rcases hw101 j hj with q | q
    ·exact hob j q
    ·omega
   have hg101 : n9 ≤ gg101 := hob9_ _ (h101.bk (by simp))
   have hgg101 := (hw101 _ (h101.bk (by simp))).imp (hogu _) id
   have hhe101 := ((((r5_1.keep e_3).keep e16).keep e17).keepM e18 (by intro j hj h; exact hj.2 (hogu j h)))
   have hcd101 := (((hca.keep e16).keep e17).keepM e18 (by intro j hj h; have q2 := hob j h; have q3 := hogu j h; first | (have q1 := hF j hj; omega) | (have q1 := hF2 j hj; omega) | ((try dsimp only at hj); omega)))
   have sp4_ : ∃ n, n = w18.heap.size := ⟨_, rfl⟩
   obtain ⟨wa, hwa⟩ := sp4_
   have hen9 : EntL w18 (fun j => j < wa ∧ j ≠ gg101) (raw3 ++ [r]) (done ++ [(r.1, x.2)]) := (hhe101.weakA).snoc rfl (hcd101.weakA)
   refine D.as 8 rfl t9 (D.as 9 rfl t9 (D.dn (K17 (K16 ?_))))
   refine ⟨(v103, vb, ra2, rb, la2, lb, v101, gg101, raw3 ++ [r], done ++ [(r.1, x.2)], wa), ⟨rfl, (Eq.trans s6_3 (Eq.trans s6_2 s6_1)), rfl, (Eq.trans s0_3 (Eq.trans s0_2 s0_1)), (Eq.trans s1_3 (Eq.trans s1_2 s1_1)), t9, ((hs103.keep e17).keepM e18 (by intro j hj h; have q2 := hob j h; have q3 := hogu j h; first | (have q1 := hF j hj; omega) | (have q1 := hF2 j hj; omega) | ((try dsimp only at hj); omega))), ((het103.keep e17).keepM e18 (by intro j hj h; have q2 := hob j h; have q3 := hogu j h; first | (have q1 := hF j hj; omega) | (have q1 := hF2 j hj; omega) | ((try dsimp only at hj); omega))), ((((r2_1.keep e_3).keep e16).keep e17).keepM e18 (by intro j hj h; have q2 := hob j h; have q3 := hogu j h; first | (have q1 := hF j hj; omega) | (have q1 := hF2 j hj; omega) | ((try dsimp only at hj); omega))), ((((r3_1.keep e_3).keep e16).keep e17).keepM e18 (by intro j hj h; have q2 := hob j h; have q3 := hogu j h; first | (have q1 := hF j hj; omega) | (have q1 := hF2 j hj; omega) | ((try dsimp only at hj); omega))), h101, hen9, ?_⟩, by (try dsimp only); omega⟩
   exact ⟨by rw [hmg, hmg2, List.append_assoc]; rfl, ⟨hoa2, hob9⟩, ⟨hma2, hmb⟩, hob9_, by omega, by rw [List.length_append, List.length_singleton]; omega⟩
  have hp9 := Bt.second_pos c76
  have hp8 := ((r3_1.keep e_3)).1
  refine C.sq fun K19 => C.join (fun f w f' w' => Le w w' ∧ f' 0 = f 0 ∧ f' 1 = f 1 ∧ f' 5 = f 5 ∧ f' 6 = f 6 ∧ f' 7 = f 7 ∧ f' 104 = .bool (Bt.second la lb)) ?_ ?_
  ·
   refine C.draw (by kernel_rfl) fun w19 e19 => ?_
   have z19 := e19.size
   refine D.mv 0 rfl (Le.refl _) (D.tk 1 rfl rfl rfl rfl (Le.refl _) len_form (fun _ hw_ _ hN => O.len U22 (Eq.trans s5_3 (Eq.trans s5_2 s5_1)) (((r0_1.keep e_3).keep e19).keep hw_) (O.nil hN)) (D.t 2 rfl (Le.refl _) (fun _ _ _ hN => O.eqlI rfl rfl (O.nil hN)) (D.mv 3 rfl (Le.refl _) (D.splitD (x := .tmp 108) rfl (fun c108 => ?_) (fun c108 => ?_)))))
   ·
    refine D.tn 4 rfl rfl (Le.refl _) rfl (noB (isT rfl c108) rfl) (D.tn 5 rfl rfl (Le.refl _) rfl (noB (isT rfl c108) rfl) (D.tn 6 rfl rfl (Le.refl _) rfl (noB (isT rfl c108) rfl) (D.tn 7 rfl rfl (Le.refl _) rfl (noB (isT rfl c108) rfl) (D.tn 8 rfl rfl (Le.refl _) rfl (noB (isT rfl c108) rfl) (D.tn 9 rfl rfl (Le.refl _) rfl (noB (isT rfl c108) rfl) (D.tn 10 rfl rfl (Le.refl _) rfl (noB (isT rfl c108) rfl) (D.tn 11 rfl rfl (Le.refl _) rfl (noB (isT rfl c108) rfl) (D.tn 12 rfl rfl (Le.refl _) rfl (noB (isT rfl c108) rfl) (D.tk 13 rfl rfl rfl rfl (Le.refl _) pick_form (fun _ hw_ _ hN => O.pickT (isT rfl c108) (O.nil hN)) (D.as 14 rfl (Le.refl _) (D.dn ?_)))))))))))
    exact ⟨e19, rfl, rfl, rfl, rfl, rfl, (by first | exact Eq.trans rfl (congrArg Value.bool (Bt.second_nil (by omega)).symm) | (subst hla; subst hlb; exact Eq.trans rfl (congrArg Value.bool (by rw [hkxr, hkys]; rfl))))⟩
   have ca9 := cons_ent ((r0_1.keep e_3).keep e19) ((r1_1.keep e_3).keep e19) (by have q := (((r1_1.keep e_3).keep e19)).1; omega) hoa hma
   obtain ⟨r, ra2, x, la2, hra, hla, hsa, hea, hca, hkxr, ⟨hoaC, hoa2⟩, ⟨hmaC, hma2⟩, hgx, hbx, hlal⟩ := ca9
   have hmid := hmaC x List.mem_cons_self
   have cb9 := cons_ent ((r2_1.keep e_3).keep e19) ((r3_1.keep e_3).keep e19) (by have q := (((r3_1.keep e_3).keep e19)).1; omega) hob9 hmb
   obtain ⟨s, rb2, y, lb2, hrb, hlb, hsb, heb, hcb, hkys, ⟨hobC, hob2⟩, ⟨hmbC, hmb2⟩, hgy, hby, hlbl⟩ := cb9
   have hmiy := hmbC y List.mem_cons_self
   refine D.ty 4 rfl rfl rfl rfl (isF rfl c108) (Le.refl _) ⟨pure _, rfl⟩ (fun _ hw_ _ hN => O.mv (O.nil hN)) ?_
   have sp5_ := Sl.at (i := 0) (P := prog) U22 Z50 rfl hsb (by simp)
   obtain ⟨a110, h110, hr110⟩ := sp5_
   refine D.ty 5 rfl rfl rfl rfl (isF rfl c108) (Le.refl _) ⟨_, rfl⟩ (fun _ hw_ _ hN => O.idxR (Eq.trans s6_3 (Eq.trans s6_2 s6_1)) rfl hr110 (O.nil hN)) (D.ty 6 rfl rfl rfl rfl (isF rfl c108) (Le.refl _) ⟨_, rfl⟩ (fun _ hw_ _ hN => O.ft U50 rfl Z9 rfl (O.nil hN)) (D.ty 7 rfl rfl rfl rfl (isF rfl c108) (Le.refl _) ⟨_, rfl⟩ (fun _ hw_ _ hN => O.loadAtF (G := entF) isAgg9 rfl rfl (h110.keep hw_) (O.nil hN)) (D.cast (v' := str s.1) rfl (D.ty 8 rfl rfl rfl rfl (isF rfl c108) (Le.refl _) ⟨pure _, rfl⟩ (fun _ hw_ _ hN => O.mv (O.nil hN)) ?_))))
   have sp6_ := Sl.at (i := 0) (P := prog) U22 Z50 rfl hsa (by simp)
   obtain ⟨a114, h114, hr114⟩ := sp6_
   refine D.ty 9 rfl rfl rfl rfl (isF rfl c108) (Le.refl _) ⟨_, rfl⟩ (fun _ hw_ _ hN => O.idxR (Eq.trans s5_3 (Eq.trans s5_2 s5_1)) rfl hr114 (O.nil hN)) (D.ty 10 rfl rfl rfl rfl (isF rfl c108) (Le.refl _) ⟨_, rfl⟩ (fun _ hw_ _ hN => O.ft U50 rfl Z9 rfl (O.nil hN)) (D.ty 11 rfl rfl rfl rfl (isF rfl c108) (Le.refl _) ⟨_, rfl⟩ (fun _ hw_ _ hN => O.loadAtF (G := entF) isAgg9 rfl rfl (h114.keep hw_) (O.nil hN)) (D.cast (v' := str r.1) rfl (D.ty 12 rfl rfl rfl rfl (isF rfl c108) (Le.refl _) ⟨_, rfl⟩ (fun _ hw_ _ hN => O.lssS rfl rfl (O.nil hN)) (D.tk 13 rfl rfl rfl rfl (Le.refl _) pick_form (fun _ hw_ _ hN => O.pickF (isF rfl c108) (O.nil hN)) ?_)))))
   refine D.as 14 rfl (Le.refl _) (D.dn ?_)
   exact ⟨e19, rfl, rfl, rfl, rfl, rfl, (by first | exact Eq.trans rfl (congrArg Value.bool (Bt.second_nil (by omega)).symm) | (subst hla; subst hlb; exact Eq.trans rfl (congrArg Value.bool (by rw [hkxr, hkys]; rfl))))⟩
  rintro f_4 w20 ⟨e_4, s0_4, s1_4, s5_4, s6_4, s7_4, s104_4⟩
  have z_4 := e_4.size
  refine K19 (C.cond s104_4 (fun c104 => ?_) (fun c104 => ?_))
  ·
   have cb9 := cons_ent ((r2_1.keep e_3).keep e_4) ((r3_1.keep e_3).keep e_4) (by have q := (((r3_1.keep e_3).keep e_4)).1; omega) hob9 hmb
   obtain ⟨s, rb2, y, lb2, hrb, hlb, hsb, heb, hcb, hkys, ⟨hobC, hob2⟩, ⟨hmbC, hmb2⟩, hgy, hby, hlbl⟩ := cb9
   have hmiy := hmbC y List.mem_cons_self
   have hmg2 : Bt.merge la lb = (s.1, y.2) :: Bt.merge la lb2 := by rw [hlb] at c104 ⊢; rw [Bt.second_merge c104, hkys]
   refine C.drawB (wB := w) (by kernel_rfl) fun w21 e21 => ?_
   have z21 := e21.size
   have t10 := Ext.trans e_1 e_3
   have t11 := Ext.trans t10 e_4
   have t12 := Ext.trans t11 e21
   refine D.mv 0 rfl t12 (D.mv 1 rfl t12 (D.mv 6 rfl t12 ?_))
   have hb126 := Sl.sub (P := prog) (1) ((s :: rb2).length) U22 Z50 (by rfl) (hsb.keep e21) (by simp) (Nat.le_refl _)
   obtain ⟨v126, hs126, hr126⟩ := hb126
   refine D.t 7 rfl t12 (fun _ _ _ hN => O.subR (Eq.trans s6_4 (Eq.trans s6_3 (Eq.trans s6_2 s6_1))) hr126 (.inr ⟨_, _, rfl, rfl⟩) (.inl ⟨rfl, rfl⟩) (O.nil hN)) ?_
   rw [List.take_length] at hs126
   replace hs126 : Sl entF.enc _ (fun j => j < n9) v126 rb2 := hs126
   have het126 := ((heb.keep e21)).tail
   refine D.on 2 rfl rfl (O.idx U22 Z50 rfl (Eq.trans s6_4 (Eq.trans s6_3 (Eq.trans s6_2 s6_1))) (hsb.keep e21) rfl (by simp) (fun a121 h121 => O.nil ⟨t12, D.on 3 rfl rfl (O.loadG (G := entF) isAgg50 Z50 rfl h121 (O.nil ⟨t12, D.cast (v' := .agg #[str s.1, slv s.2.1.1, slv s.2.1.2, slv s.2.2]) rfl (D.on 4 rfl rfl (O.litG (G := entF) [s] U22 ti50 ts50 tz50 rfl (by decide) (by decide) rfl (fun b123 w22 hb123 hz123 e22 => ?_)))⟩))⟩))
   have z22 := e22.size
   have h123 := hz123.own
   have hq123 := Sl.litG (n := 1) h123 rfl (by unfold maxLen; omega)
   have t13 := Ext.trans t12 e22
   refine O.nil ⟨t13, D.on 5 rfl rfl ?_⟩
   have t14 := ((r4_1.keep e_3).keep e_4).keep e21
   refine O.appG (G := entF) U22 ti50 tz50 ts50 rfl (Eq.trans s7_4 (Eq.trans s7_3 (Eq.trans s7_2 s7_1))) rfl (t14.keep e22) hq123 (by rw [tb50]; simp; omega) (by unfold maxLen; simp; omega) (fun v124 gg124 w23 h124 hg124 e23 hw124 => ?_)
   have e23m := e23.mono (M' := fun k => k = _) (fun k _ hk => (t14.keep e22).2.1 k hk)
   have z23 := e23.size
   have hgl124 := h124.2.2
   have t15 := Ext.new t13 e23 (by intro i hi h; have := hob i h; omega)
   refine O.nil ⟨t15, ?_⟩
   have hob9_ : ∀ j, bk v124 j → n9 ≤ j := fun j hj => by
    rcases hw124 j hj with q | q
    ·exact hob j q
    ·omega
   have hg124 : n9 ≤ gg124 := hob9_ _ (h124.bk (by simp))
   have hgg124 := (hw124 _ (h124.bk (by simp))).imp (hogu _) id
   have hhe124 := (((((r5_1.keep e_3).keep e_4).keep e21).keep e22).keepM e23 (by intro j hj h; exact hj.2 (hogu j h)))
   have hcd124 := (((hcb.keep e21).keep e22).keepM e23 (by intro j hj h; have q2 := hob j h; have q3 := hogu j h; first | (have q1 := hF j hj; omega) | (have q1 := hF2 j hj; omega) | ((try dsimp only at hj); omega)))
   have sp7_ : ∃ n, n = w23.heap.size := ⟨_, rfl⟩
   obtain ⟨wa, hwa⟩ := sp7_
   have hen9 : EntL w23 (fun j => j < wa ∧ j ≠ gg124) (raw3 ++ [s]) (done ++ [(s.1, y.2)]) := (hhe124.weakA).snoc rfl (hcd124.weakA)
   refine D.as 8 rfl t15 (D.as 9 rfl t15 (D.dn (K17 (K16 ?_))))
   refine ⟨(va, v126, ra, rb2, la, lb2, v124, gg124, raw3 ++ [s], done ++ [(s.1, y.2)], wa), ⟨(Eq.trans s5_4 (Eq.trans s5_3 (Eq.trans s5_2 s5_1))), rfl, rfl, (Eq.trans s0_4 (Eq.trans s0_3 (Eq.trans s0_2 s0_1))), (Eq.trans s1_4 (Eq.trans s1_3 (Eq.trans s1_2 s1_1))), t15, (((((r0_1.keep e_3).keep e_4).keep e21).keep e22).keepM e23 (by intro j hj h; have q2 := hob j h; have q3 := hogu j h; first | (have q1 := hF j hj; omega) | (have q1 := hF2 j hj; omega) | ((try dsimp only at hj); omega))), (((((r1_1.keep e_3).keep e_4).keep e21).keep e22).keepM e23 (by intro j hj h; have q2 := hob j h; have q3 := hogu j h; first | (have q1 := hF j hj; omega) | (have q1 := hF2 j hj; omega) | ((try dsimp only at hj); omega))), ((hs126.keep e22).keepM e23 (by intro j hj h; have q2 := hob j h; have q3 := hogu j h; first | (have q1 := hF j hj; omega) | (have q1 := hF2 j hj; omega) | ((try dsimp only at hj); omega))), ((het126.keep e22).keepM e23 (by intro j hj h; have q2 := hob j h; have q3 := hogu j h; first | (have q1 := hF j hj; omega) | (have q1 := hF2 j hj; omega) | ((try dsimp only at hj); omega))), h124, hen9, ?_⟩, by (try dsimp only); omega⟩
   first
   | exact ⟨by rw [hmg, hmg2, List.append_assoc]; rfl, ⟨hoa2, hob9⟩, ⟨hma2, hmb⟩, hob9_, by omega, by rw [List.length_append, List.length_singleton]; omega⟩
   | exact ⟨by rw [hmg, hmg2, List.append_assoc]; rfl, ⟨hoa, hob2⟩, ⟨hma, hmb2⟩, hob9_, by omega, by rw [List.length_append, List.length_singleton]; omega⟩
  have hp7 := Bt.third_pos c76 c104
  have ca9 := cons_ent ((r0_1.keep e_3).keep e_4) ((r1_1.keep e_3).keep e_4) (by have q := (((r1_1.keep e_3).keep e_4)).1; omega) hoa hma
  obtain ⟨r, ra2, x, la2, hra, hla, hsa, hea, hca, hkxr, ⟨hoaC, hoa2⟩, ⟨hmaC, hma2⟩, hgx, hbx, hlal⟩ := ca9
  have hmid := hmaC x List.mem_cons_self
  have cb9 := cons_ent ((r2_1.keep e_3).keep e_4) ((r3_1.keep e_3).keep e_4) (by have q := (((r3_1.keep e_3).keep e_4)).1; omega) hob9 hmb
  obtain ⟨s, rb2, y, lb2, hrb, hlb, hsb, heb, hcb, hkys, ⟨hobC, hob2⟩, ⟨hmbC, hmb2⟩, hgy, hby, hlbl⟩ := cb9
  have hmiy := hmbC y List.mem_cons_self
  have hze : x.1 = y.1 := by rw [hla, hlb] at c76 c104; exact Bt.third_eq c76 c104
  have hmg2 : Bt.merge la lb = (r.1, Jn.join x.2 y.2) :: Bt.merge la2 lb2 := by rw [hla, hlb, Bt.mrg_ab hze, hkxr]
  refine C.sq fun K20 => C.join (fun f w f' w' => Le w w' ∧ f' 0 = f 0 ∧ f' 1 = f 1 ∧ f' 5 = f 5 ∧ f' 6 = f 6 ∧ f' 7 = f 7 ∧ ∃ (b9 : Nat) (u1 : Raw) (u2 : Raw) (u3 : Raw), f' 8 = .pointer (some ⟨b9, 0, none⟩) ∧ f' 9 = .int .i64 0 ∧ Own w' b9 47 [slv u1, slv u2, slv u3] ∧ CartAt w' (fun j => w.heap.size ≤ j ∧ j < w'.heap.size) ((u1, u2), u3) (Jn.join x.2 y.2)) ?_ ?_
  ·
   refine C.draw (by kernel_rfl) fun w24 e24 => ?_
   have z24 := e24.size
   refine D.mv 0 rfl (Le.refl _) ?_
   have sp8_ := Sl.at (i := 0) (P := prog) U22 Z50 rfl (hsa.keep e24) (by simp)
   obtain ⟨a51, h51, hr51⟩ := sp8_
   refine D.t 1 rfl (Le.refl _) (fun _ _ _ hN => O.idxR (Eq.trans s5_4 (Eq.trans s5_3 (Eq.trans s5_2 s5_1))) rfl hr51 (O.nil hN)) (D.t 2 rfl (Le.refl _) (fun _ _ _ hN => O.ft U50 rfl Z47 rfl (O.nil hN)) (D.t 3 rfl (Le.refl _) (fun _ hw_ _ hN => O.loadPart (G := entF) isAgg47 Z47 (by decide) rfl (h51.keep hw_) (O.nil hN)) (D.cast (v' := .agg #[slv r.2.1.1, slv r.2.1.2, slv r.2.2]) rfl (D.mv 4 rfl (Le.refl _) ?_))))
   have sp9_ := Sl.at (i := 0) (P := prog) U22 Z50 rfl (hsb.keep e24) (by simp)
   obtain ⟨a55, h55, hr55⟩ := sp9_
   refine D.t 5 rfl (Le.refl _) (fun _ _ _ hN => O.idxR (Eq.trans s6_4 (Eq.trans s6_3 (Eq.trans s6_2 s6_1))) rfl hr55 (O.nil hN)) (D.t 6 rfl (Le.refl _) (fun _ _ _ hN => O.ft U50 rfl Z47 rfl (O.nil hN)) (D.t 7 rfl (Le.refl _) (fun _ hw_ _ hN => O.loadPart (G := entF) isAgg47 Z47 (by decide) rfl (h55.keep hw_) (O.nil hN)) (D.cast (v' := .agg #[slv s.2.1.1, slv s.2.1.2, slv s.2.2]) rfl (D.many [8, 12] (by kernel_rfl) (by decide) ⟨?_, ?_, trivial⟩))))
   ·
    refine D.stepU rfl rfl (O.call call33 (args2 rfl rfl) (join_spec (slv r.2.1.1) (slv r.2.1.2) (slv r.2.2) x.2 (fun j => j < n9) (slv s.2.1.1) (slv s.2.1.2) (slv s.2.2) y.2 (fun j => j < n9) _ ((hca.keep e24)).1 ((hca.keep e24)).2.1 ((hca.keep e24)).2.2 ((hcb.keep e24)).1 ((hcb.keep e24)).2.1 ((hcb.keep e24)).2.2 (fun j hj => by have q1 : j < n9 := hj; omega) (fun j hj => by have q1 : j < n9 := hj; omega) hgx hgy hmid.2.2.1 hmiy.2.2.1 (Bt.Mid.tall hmid.2.2.2) (Bt.Mid.tall hmiy.2.2.2) (by have := hmid.1; have := hmiy.1; omega) (by have := hmid.2.1; have := hmiy.2.1; omega) ((((mx.keep e_1).keep e_3).keep e_4).keep e24)) ?_)
    rintro v_58 w25 ⟨e25, uav58, ubv58, ucv58, rfl, hxv58, hyv58, hzv58⟩
    have z25 := e25.size
    refine O.nil ⟨e25, ?_⟩
    have sp10_ := hxv58.slv
    obtain ⟨u1, sp10_⟩ := sp10_
    subst sp10_
    have sp11_ := hyv58.slv
    obtain ⟨u2, sp11_⟩ := sp11_
    subst sp11_
    have sp12_ := hzv58.sl.slv
    obtain ⟨u3, sp12_⟩ := sp12_
    subst sp12_
    have hcj : CartAt w25 _ ((u1, u2), u3) (Jn.join x.2 y.2) := ⟨hxv58.sl, hyv58.sl, hzv58.sl⟩
    refine D.mv 9 rfl e25 (D.t 10 rfl e25 (fun _ _ _ hN => O.extract rfl rfl (O.nil hN)) (D.t 11 rfl e25 (fun _ _ _ hN => O.extract rfl rfl (O.nil hN)) (D.on 12 rfl rfl (O.alloc zeroValue47 (fun b8 w26 hb8 hz8 e26 => ?_)))))
    have z26 := e26.size
    have h8 := hz8.own
    have hl8 := h8.lt
    have t16 := Ext.trans e25 e26
    refine O.nil ⟨t16, D.on 13 rfl rfl (O.storeA (vs := [slv u1, slv u2, slv u3]) Z47 rfl rfl rfl (by intro u hu; simp only [List.mem_cons, List.not_mem_nil, or_false] at hu; rcases hu with rfl | rfl | rfl <;> rfl) h8 (leB rfl) (fun w27 hs27 e27 z27 => O.nil ⟨(Ext.nr t16 e27), D.as 14 rfl (Ext.nr t16 e27) (D.dn ?_)⟩))⟩
    exact ⟨(Ext.nr (Ext.trans (Ext.trans e24 e25) e26) e27), rfl, rfl, rfl, rfl, rfl, ⟨_, _, _, _, rfl, rfl, hs27, ((((hcj.keep e26).keepA e27)).weakA)⟩⟩
   refine D.stepU rfl rfl (O.alloc zeroValue47 (fun b8 w28 hb8 hz8 e28 => ?_))
   have z28 := e28.size
   have h8 := hz8.own
   have hl8 := h8.lt
   refine O.nil ⟨e28, D.on 8 rfl rfl ?_⟩
   have t17 := (hca.keep e24).keep e28
   have t18 := (hcb.keep e24).keep e28
   refine O.call call33 (args2 rfl rfl) (join_spec (slv r.2.1.1) (slv r.2.1.2) (slv r.2.2) x.2 (fun j => j < n9) (slv s.2.1.1) (slv s.2.1.2) (slv s.2.2) y.2 (fun j => j < n9) _ (t17).1 (t17).2.1 (t17).2.2 (t18).1 (t18).2.1 (t18).2.2 (fun j hj => by have q1 : j < n9 := hj; omega) (fun j hj => by have q1 : j < n9 := hj; omega) hgx hgy hmid.2.2.1 hmiy.2.2.1 (Bt.Mid.tall hmid.2.2.2) (Bt.Mid.tall hmiy.2.2.2) (by have := hmid.1; have := hmiy.1; omega) (by have := hmid.2.1; have := hmiy.2.1; omega) (((((mx.keep e_1).keep e_3).keep e_4).keep e24).keep e28)) ?_
   rintro v_58 w29 ⟨e29, uav58, ubv58, ucv58, rfl, hxv58, hyv58, hzv58⟩
   have z29 := e29.size
   have t19 := Ext.trans e28 e29
   refine O.nil ⟨t19, ?_⟩
   have sp13_ := hxv58.slv
   obtain ⟨u1, sp13_⟩ := sp13_
   subst sp13_
   have sp14_ := hyv58.slv
   obtain ⟨u2, sp14_⟩ := sp14_
   subst sp14_
   have sp15_ := hzv58.sl.slv
   obtain ⟨u3, sp15_⟩ := sp15_
   subst sp15_
   have hcj : CartAt w29 _ ((u1, u2), u3) (Jn.join x.2 y.2) := ⟨hxv58.sl, hyv58.sl, hzv58.sl⟩
   refine D.mv 9 rfl t19 (D.t 10 rfl t19 (fun _ _ _ hN => O.extract rfl rfl (O.nil hN)) (D.t 11 rfl t19 (fun _ _ _ hN => O.extract rfl rfl (O.nil hN)) (D.on 13 rfl rfl (O.storeA (vs := [slv u1, slv u2, slv u3]) Z47 rfl rfl rfl (by intro u hu; simp only [List.mem_cons, List.not_mem_nil, or_false] at hu; rcases hu with rfl | rfl | rfl <;> rfl) (h8.keep e29) (leB rfl) (fun w30 hs30 e30 z30 => O.nil ⟨(Ext.nr t19 e30), D.as 14 rfl (Ext.nr t19 e30) (D.dn ?_)⟩)))))
   exact ⟨(Ext.nr (Ext.trans (Ext.trans e24 e28) e29) e30), rfl, rfl, rfl, rfl, rfl, ⟨_, _, _, _, rfl, rfl, hs30, (((hcj.keepA e30)).weakA)⟩⟩
  rintro f_5 w31 ⟨e_5, s0_5, s1_5, s5_5, s6_5, s7_5, ⟨b9, u1, u2, u3, s8_5, s9_5, q0_5, q1_5⟩⟩
  have z_5 := e_5.size
  refine K20 (C.sq fun K21 => C.sr fun K22 => O.mv (O.neqI s9_5 rfl (O.cast (v' := .bool false) (congrArg Value.bool (by exact decide_eq_false (by decide))) (K22 (C.condF rfl (C.skip (K21 (C.drawB (wB := w) (by kernel_rfl) fun w32 e32 => ?_))))))))
  have z32 := e32.size
  have t20 := Ext.trans e_1 e_3
  have t21 := Ext.trans t20 e_4
  have t22 := Ext.trans t21 e_5
  have t23 := Ext.trans t22 e32
  refine D.mv 0 rfl t23 (D.mv 1 rfl t23 (D.mv 9 rfl t23 ?_))
  have t24 := (hsa.keep e_5).keep e32
  have hb73 := Sl.sub (P := prog) (1) ((r :: ra2).length) U22 Z50 (by rfl) t24 (by simp) (Nat.le_refl _)
  obtain ⟨v73, hs73, hr73⟩ := hb73
  refine D.t 10 rfl t23 (fun _ _ _ hN => O.subR (Eq.trans s5_5 (Eq.trans s5_4 (Eq.trans s5_3 (Eq.trans s5_2 s5_1)))) hr73 (.inr ⟨_, _, rfl, rfl⟩) (.inl ⟨rfl, rfl⟩) (O.nil hN)) ?_
  rw [List.take_length] at hs73
  replace hs73 : Sl entF.enc _ (fun j => j < n9) v73 ra2 := hs73
  have het73 := (((hea.keep e_5).keep e32)).tail
  refine D.mv 11 rfl t23 ?_
  have hb75 := Sl.sub (P := prog) (1) ((s :: rb2).length) U22 Z50 (by rfl) ((hsb.keep e_5).keep e32) (by simp) (Nat.le_refl _)
  obtain ⟨v75, hs75, hr75⟩ := hb75
  refine D.t 12 rfl t23 (fun _ _ _ hN => O.subR (Eq.trans s6_5 (Eq.trans s6_4 (Eq.trans s6_3 (Eq.trans s6_2 s6_1)))) hr75 (.inr ⟨_, _, rfl, rfl⟩) (.inl ⟨rfl, rfl⟩) (O.nil hN)) ?_
  rw [List.take_length] at hs75
  replace hs75 : Sl entF.enc _ (fun j => j < n9) v75 rb2 := hs75
  have het75 := (((heb.keep e_5).keep e32)).tail
  refine D.many [2, 5] (by kernel_rfl) (by decide) ⟨?_, ?_, trivial⟩
  ·
   refine D.stepU rfl rfl (O.idx U22 Z50 rfl (Eq.trans s5_5 (Eq.trans s5_4 (Eq.trans s5_3 (Eq.trans s5_2 s5_1)))) t24 rfl (by simp) (fun a65 h65 => O.nil ⟨t23, D.t 3 rfl t23 (fun _ _ _ hN => O.ft U50 rfl Z9 rfl (O.nil hN)) (D.many [4, 5] (by kernel_rfl) (by decide) ⟨?_, ?_, trivial⟩)⟩))
   ·
    refine D.stepU rfl rfl (O.loadAtF (G := entF) isAgg9 rfl rfl h65 (O.nil ⟨t23, D.cast (v' := str r.1) rfl (D.on 5 rfl rfl (O.loadOA isAgg47 Z47 s8_5 (q0_5.keep e32) (leB rfl) (O.nil ⟨t23, D.on 6 rfl rfl (O.build (cells := #[str r.1, slv u1, slv u2, slv u3]) rfl (by kernel_rfl) (O.nil ⟨t23, D.on 7 rfl rfl (O.litG (G := entF) [(r.1, (u1, u2), u3)] U22 ti50 ts50 tz50 rfl (by decide) (by decide) rfl (fun b70 w33 hb70 hz70 e33 => ?_))⟩))⟩)))⟩))
    have z33 := e33.size
    have h70 := hz70.own
    have hq70 := Sl.litG (n := 1) h70 rfl (by unfold maxLen; omega)
    have t25 := Ext.trans t23 e33
    refine O.nil ⟨t25, D.on 8 rfl rfl ?_⟩
    have t26 := ((r4_1.keep e_3).keep e_4).keep e_5
    refine O.appG (G := entF) U22 ti50 tz50 ts50 rfl (Eq.trans s7_5 (Eq.trans s7_4 (Eq.trans s7_3 (Eq.trans s7_2 s7_1)))) rfl ((t26.keep e32).keep e33) hq70 (by rw [tb50]; simp; omega) (by unfold maxLen; simp; omega) (fun v71 gg71 w34 h71 hg71 e34 hw71 => ?_)
    have e34m := e34.mono (M' := fun k => k = _) (fun k _ hk => ((t26.keep e32).keep e33).2.1 k hk)
    have z34 := e34.size
    have hgl71 := h71.2.2
    have t27 := Ext.new t25 e34 (by intro i hi h; have := hob i h; omega)
    refine O.nil ⟨t27, ?_⟩
    have hob9_ : ∀ j, bk v71 j → n9 ≤ j := fun j hj => by
     rcases hw71 j hj with q | q
     ·exact hob j q
     ·omega
    have hg71 : n9 ≤ gg71 := hob9_ _ (h71.bk (by simp))
    have hgg71 := (hw71 _ (h71.bk (by simp))).imp (hogu _) id
    have hhe71 := ((((((r5_1.keep e_3).keep e_4).keep e_5).keep e32).keep e33).keepM e34 (by intro j hj h; exact hj.2 (hogu j h)))
    have hcd71 := (((q1_5.keep e32).keep e33).keepM e34 (by intro j hj h; have q2 := hob j h; have q3 := hogu j h; first | (have q1 := hF j hj; omega) | (have q1 := hF2 j hj; omega) | ((try dsimp only at hj); omega)))
    have sp16_ : ∃ n, n = w34.heap.size := ⟨_, rfl⟩
    obtain ⟨wa, hwa⟩ := sp16_
    have hen9 : EntL w34 (fun j => j < wa ∧ j ≠ gg71) (raw3 ++ [(r.1, (u1, u2), u3)]) (done ++ [(r.1, Jn.join x.2 y.2)]) := (hhe71.weakA).snoc rfl (hcd71.weakA)
    refine D.as 13 rfl t27 (D.as 14 rfl t27 (D.as 15 rfl t27 (D.dn (K17 (K16 ?_)))))
    refine ⟨(v73, v75, ra2, rb2, la2, lb2, v71, gg71, raw3 ++ [(r.1, (u1, u2), u3)], done ++ [(r.1, Jn.join x.2 y.2)], wa), ⟨rfl, rfl, rfl, (Eq.trans s0_5 (Eq.trans s0_4 (Eq.trans s0_3 (Eq.trans s0_2 s0_1)))), (Eq.trans s1_5 (Eq.trans s1_4 (Eq.trans s1_3 (Eq.trans s1_2 s1_1)))), t27, ((hs73.keep e33).keepM e34 (by intro j hj h; have q2 := hob j h; have q3 := hogu j h; first | (have q1 := hF j hj; omega) | (have q1 := hF2 j hj; omega) | ((try dsimp only at hj); omega))), ((het73.keep e33).keepM e34 (by intro j hj h; have q2 := hob j h; have q3 := hogu j h; first | (have q1 := hF j hj; omega) | (have q1 := hF2 j hj; omega) | ((try dsimp only at hj); omega))), ((hs75.keep e33).keepM e34 (by intro j hj h; have q2 := hob j h; have q3 := hogu j h; first | (have q1 := hF j hj; omega) | (have q1 := hF2 j hj; omega) | ((try dsimp only at hj); omega))), ((het75.keep e33).keepM e34 (by intro j hj h; have q2 := hob j h; have q3 := hogu j h; first | (have q1 := hF j hj; omega) | (have q1 := hF2 j hj; omega) | ((try dsimp only at hj); omega))), h71, hen9, ?_⟩, by (try dsimp only); omega⟩
    first
    | exact ⟨by rw [hmg, hmg2, List.append_assoc]; rfl, ⟨hoa2, hob9⟩, ⟨hma2, hmb⟩, hob9_, by omega, by rw [List.length_append, List.length_singleton]; omega⟩
    | exact ⟨by rw [hmg, hmg2, List.append_assoc]; rfl, ⟨hoa, hob2⟩, ⟨hma, hmb2⟩, hob9_, by omega, by rw [List.length_append, List.length_singleton]; omega⟩
    | exact ⟨by rw [hmg, hmg2, List.append_assoc]; rfl, ⟨hoa2, hob2⟩, ⟨hma2, hmb2⟩, hob9_, by omega, by rw [List.length_append, List.length_singleton]; omega⟩
   refine D.stepU rfl rfl (O.loadOA isAgg47 Z47 s8_5 (q0_5.keep e32) (leB rfl) (O.nil ⟨t23, D.on 4 rfl rfl (O.loadAtF (G := entF) isAgg9 rfl rfl h65 (O.nil ⟨t23, D.cast (v' := str r.1) rfl (D.on 6 rfl rfl (O.build (cells := #[str r.1, slv u1, slv u2, slv u3]) rfl (by kernel_rfl) (O.nil ⟨t23, D.on 7 rfl rfl (O.litG (G := entF) [(r.1, (u1, u2), u3)] U22 ti50 ts50 tz50 rfl (by decide) (by decide) rfl (fun b70 w35 hb70 hz70 e35 => ?_))⟩)))⟩))⟩))
   have z35 := e35.size
   have h70 := hz70.own
   have hq70 := Sl.litG (n := 1) h70 rfl (by unfold maxLen; omega)
   have t28 := Ext.trans t23 e35
   refine O.nil ⟨t28, D.on 8 rfl rfl ?_⟩
   have t29 := ((r4_1.keep e_3).keep e_4).keep e_5
   refine O.appG (G := entF) U22 ti50 tz50 ts50 rfl (Eq.trans s7_5 (Eq.trans s7_4 (Eq.trans s7_3 (Eq.trans s7_2 s7_1)))) rfl ((t29.keep e32).keep e35) hq70 (by rw [tb50]; simp; omega) (by unfold maxLen; simp; omega) (fun v71 gg71 w36 h71 hg71 e36 hw71 => ?_)
   have e36m := e36.mono (M' := fun k => k = _) (fun k _ hk => ((t29.keep e32).keep e35).2.1 k hk)
   have z36 := e36.size
   have hgl71 := h71.2.2
   have t30 := Ext.new t28 e36 (by intro i hi h; have := hob i h; omega)
   refine O.nil ⟨t30, ?_⟩
   have hob9_ : ∀ j, bk v71 j → n9 ≤ j := fun j hj => by
    rcases hw71 j hj with q | q
    ·exact hob j q
    ·omega
   have hg71 : n9 ≤ gg71 := hob9_ _ (h71.bk (by simp))
   have hgg71 := (hw71 _ (h71.bk (by simp))).imp (hogu _) id
   have hhe71 := ((((((r5_1.keep e_3).keep e_4).keep e_5).keep e32).keep e35).keepM e36 (by intro j hj h; exact hj.2 (hogu j h)))
   have hcd71 := (((q1_5.keep e32).keep e35).keepM e36 (by intro j hj h; have q2 := hob j h; have q3 := hogu j h; first | (have q1 := hF j hj; omega) | (have q1 := hF2 j hj; omega) | ((try dsimp only at hj); omega)))
   have sp17_ : ∃ n, n = w36.heap.size := ⟨_, rfl⟩
   obtain ⟨wa, hwa⟩ := sp17_
   have hen9 : EntL w36 (fun j => j < wa ∧ j ≠ gg71) (raw3 ++ [(r.1, (u1, u2), u3)]) (done ++ [(r.1, Jn.join x.2 y.2)]) := (hhe71.weakA).snoc rfl (hcd71.weakA)
   refine D.as 13 rfl t30 (D.as 14 rfl t30 (D.as 15 rfl t30 (D.dn (K17 (K16 ?_)))))
   refine ⟨(v73, v75, ra2, rb2, la2, lb2, v71, gg71, raw3 ++ [(r.1, (u1, u2), u3)], done ++ [(r.1, Jn.join x.2 y.2)], wa), ⟨rfl, rfl, rfl, (Eq.trans s0_5 (Eq.trans s0_4 (Eq.trans s0_3 (Eq.trans s0_2 s0_1)))), (Eq.trans s1_5 (Eq.trans s1_4 (Eq.trans s1_3 (Eq.trans s1_2 s1_1)))), t30, ((hs73.keep e35).keepM e36 (by intro j hj h; have q2 := hob j h; have q3 := hogu j h; first | (have q1 := hF j hj; omega) | (have q1 := hF2 j hj; omega) | ((try dsimp only at hj); omega))), ((het73.keep e35).keepM e36 (by intro j hj h; have q2 := hob j h; have q3 := hogu j h; first | (have q1 := hF j hj; omega) | (have q1 := hF2 j hj; omega) | ((try dsimp only at hj); omega))), ((hs75.keep e35).keepM e36 (by intro j hj h; have q2 := hob j h; have q3 := hogu j h; first | (have q1 := hF j hj; omega) | (have q1 := hF2 j hj; omega) | ((try dsimp only at hj); omega))), ((het75.keep e35).keepM e36 (by intro j hj h; have q2 := hob j h; have q3 := hogu j h; first | (have q1 := hF j hj; omega) | (have q1 := hF2 j hj; omega) | ((try dsimp only at hj); omega))), h71, hen9, ?_⟩, by (try dsimp only); omega⟩
   first
   | exact ⟨by rw [hmg, hmg2, List.append_assoc]; rfl, ⟨hoa2, hob9⟩, ⟨hma2, hmb⟩, hob9_, by omega, by rw [List.length_append, List.length_singleton]; omega⟩
   | exact ⟨by rw [hmg, hmg2, List.append_assoc]; rfl, ⟨hoa, hob2⟩, ⟨hma, hmb2⟩, hob9_, by omega, by rw [List.length_append, List.length_singleton]; omega⟩
   | exact ⟨by rw [hmg, hmg2, List.append_assoc]; rfl, ⟨hoa2, hob2⟩, ⟨hma2, hmb2⟩, hob9_, by omega, by rw [List.length_append, List.length_singleton]; omega⟩
  refine D.stepU rfl rfl (O.loadOA isAgg47 Z47 s8_5 (q0_5.keep e32) (leB rfl) (O.nil ⟨t23, D.on 2 rfl rfl (O.idx U22 Z50 rfl (Eq.trans s5_5 (Eq.trans s5_4 (Eq.trans s5_3 (Eq.trans s5_2 s5_1)))) t24 rfl (by simp) (fun a65 h65 => O.nil ⟨t23, D.t 3 rfl t23 (fun _ _ _ hN => O.ft U50 rfl Z9 rfl (O.nil hN)) (D.on 4 rfl rfl (O.loadAtF (G := entF) isAgg9 rfl rfl h65 (O.nil ⟨t23, D.cast (v' := str r.1) rfl (D.on 6 rfl rfl (O.build (cells := #[str r.1, slv u1, slv u2, slv u3]) rfl (by kernel_rfl) (O.nil ⟨t23, D.on 7 rfl rfl ?_⟩)))⟩)))⟩))⟩))
  refine O.litG (G := entF) [(r.1, (u1, u2), u3)] U22 ti50 ts50 tz50 rfl (by decide) (by decide) rfl (fun b70 w37 hb70 hz70 e37 => ?_)
  have z37 := e37.size
  have h70 := hz70.own
  have hq70 := Sl.litG (n := 1) h70 rfl (by unfold maxLen; omega)
  have t31 := Ext.trans t23 e37
  refine O.nil ⟨t31, D.on 8 rfl rfl ?_⟩
  have t32 := ((r4_1.keep e_3).keep e_4).keep e_5
  refine O.appG (G := entF) U22 ti50 tz50 ts50 rfl (Eq.trans s7_5 (Eq.trans s7_4 (Eq.trans s7_3 (Eq.trans s7_2 s7_1)))) rfl ((t32.keep e32).keep e37) hq70 (by rw [tb50]; simp; omega) (by unfold maxLen; simp; omega) (fun v71 gg71 w38 h71 hg71 e38 hw71 => ?_)
  have e38m := e38.mono (M' := fun k => k = _) (fun k _ hk => ((t32.keep e32).keep e37).2.1 k hk)
  have z38 := e38.size
  have hgl71 := h71.2.2
  have t33 := Ext.new t31 e38 (by intro i hi h; have := hob i h; omega)
  refine O.nil ⟨t33, ?_⟩
  have hob9_ : ∀ j, bk v71 j → n9 ≤ j := fun j hj => by
   rcases hw71 j hj with q | q
   ·exact hob j q
   ·omega
  have hg71 : n9 ≤ gg71 := hob9_ _ (h71.bk (by simp))
  have hgg71 := (hw71 _ (h71.bk (by simp))).imp (hogu _) id
  have hhe71 := ((((((r5_1.keep e_3).keep e_4).keep e_5).keep e32).keep e37).keepM e38 (by intro j hj h; exact hj.2 (hogu j h)))
  have hcd71 := (((q1_5.keep e32).keep e37).keepM e38 (by intro j hj h; have q2 := hob j h; have q3 := hogu j h; first | (have q1 := hF j hj; omega) | (have q1 := hF2 j hj; omega) | ((try dsimp only at hj); omega)))
  have sp18_ : ∃ n, n = w38.heap.size := ⟨_, rfl⟩
  obtain ⟨wa, hwa⟩ := sp18_
  have hen9 : EntL w38 (fun j => j < wa ∧ j ≠ gg71) (raw3 ++ [(r.1, (u1, u2), u3)]) (done ++ [(r.1, Jn.join x.2 y.2)]) := (hhe71.weakA).snoc rfl (hcd71.weakA)
  refine D.as 13 rfl t33 (D.as 14 rfl t33 (D.as 15 rfl t33 (D.dn (K17 (K16 ?_)))))
  refine ⟨(v73, v75, ra2, rb2, la2, lb2, v71, gg71, raw3 ++ [(r.1, (u1, u2), u3)], done ++ [(r.1, Jn.join x.2 y.2)], wa), ⟨rfl, rfl, rfl, (Eq.trans s0_5 (Eq.trans s0_4 (Eq.trans s0_3 (Eq.trans s0_2 s0_1)))), (Eq.trans s1_5 (Eq.trans s1_4 (Eq.trans s1_3 (Eq.trans s1_2 s1_1)))), t33, ((hs73.keep e37).keepM e38 (by intro j hj h; have q2 := hob j h; have q3 := hogu j h; first | (have q1 := hF j hj; omega) | (have q1 := hF2 j hj; omega) | ((try dsimp only at hj); omega))), ((het73.keep e37).keepM e38 (by intro j hj h; have q2 := hob j h; have q3 := hogu j h; first | (have q1 := hF j hj; omega) | (have q1 := hF2 j hj; omega) | ((try dsimp only at hj); omega))), ((hs75.keep e37).keepM e38 (by intro j hj h; have q2 := hob j h; have q3 := hogu j h; first | (have q1 := hF j hj; omega) | (have q1 := hF2 j hj; omega) | ((try dsimp only at hj); omega))), ((het75.keep e37).keepM e38 (by intro j hj h; have q2 := hob j h; have q3 := hogu j h; first | (have q1 := hF j hj; omega) | (have q1 := hF2 j hj; omega) | ((try dsimp only at hj); omega))), h71, hen9, ?_⟩, by (try dsimp only); omega⟩
  first
  | exact ⟨by rw [hmg, hmg2, List.append_assoc]; rfl, ⟨hoa2, hob9⟩, ⟨hma2, hmb⟩, hob9_, by omega, by rw [List.length_append, List.length_singleton]; omega⟩
  | exact ⟨by rw [hmg, hmg2, List.append_assoc]; rfl, ⟨hoa, hob2⟩, ⟨hma, hmb2⟩, hob9_, by omega, by rw [List.length_append, List.length_singleton]; omega⟩
  | exact ⟨by rw [hmg, hmg2, List.append_assoc]; rfl, ⟨hoa2, hob2⟩, ⟨hma2, hmb2⟩, hob9_, by omega, by rw [List.length_append, List.length_singleton]; omega⟩
 have hla0 : la = [] := List.eq_nil_of_length_eq_zero (by have q := (r1_1).1; omega)
 have hlb0 : lb = [] := List.eq_nil_of_length_eq_zero (by have q := (r3_1).1; omega)
 have hfin : Bt.merge l l2 = done := by rw [hmg, hla0, hlb0, Bt.merge_nil, List.append_nil]
 refine C.exit (K13 (K12 (C.sr fun K23 => O.mv (O.call call17 (args1 (Eq.trans s0_2 s0_1)) (copyL_spec v0 raw l F _ (hr.keep e_1) (he.keep e_1) (fun j hj => by have q1 := hF j hj; omega) hsmB (by omega) (mx.keep e_1)) ?_))))
 rintro v_128 w39 ⟨h128, e39⟩
 have z39 := e39.size
 obtain ⟨rw128, hra128, hea128⟩ := h128
 have hrs128 := hra128.sl.weak (F' := fun j => j < w39.heap.size) (fun j hj => by have q1 := hj.2; omega)
 have hes128 := hea128.weak (F' := fun j => j < w39.heap.size) (fun j hj => by have q1 := hj.2.1; omega)
 have hrn128 := hes128.1
 refine O.mv ?_
 have t34 := (he2.keep e_1).keep e39
 have t35 := (hr2.keep e_1).keep e39
 refine O.call call17 (args1 (Eq.trans s1_2 s1_1)) (copyL_spec v1 raw2 l2 F2 _ t35 t34 (fun j hj => by have q1 := hF2 j hj; omega) hsnB (by omega) ((mx.keep e_1).keep e39)) ?_
 rintro v_130 w40 ⟨h130, e40⟩
 have z40 := e40.size
 obtain ⟨rw130, hra130, hea130⟩ := h130
 have hrs130 := hra130.sl.weak (F' := fun j => j < w40.heap.size) (fun j hj => by have q1 := hj.2; omega)
 have hes130 := hea130.weak (F' := fun j => j < w40.heap.size) (fun j hj => by have q1 := hj.2.1; omega)
 have hrn130 := hes130.1
 refine O.asg (O.asg (K23 (C.sr fun K24 => O.mv (O.mv (O.call call34 (args2 (Eq.trans s0_2 s0_1) (Eq.trans s1_2 s1_1)) (bmerge_spec v0 raw l F v1 raw2 l2 F2 _ (((hr.keep e_1).keep e39).keep e40) (((he.keep e_1).keep e39).keep e40) (t35.keep e40) (t34.keep e40) (fun j hj => by have q1 := hF j hj; omega) (fun j hj => by have q1 := hF2 j hj; omega) hsmB hsnB hsmM hsnM (by omega) (((mx.keep e_1).keep e39).keep e40)) ?_)))))
 rintro v_134 w41 ⟨uv134, e9v134, esv134, uov134, rfl, hkv134, hv134, hRv134, e41⟩
 have z41 := e41.size
 have hq134 : e9v134 = 0 ∧ esv134 = Bt.merge l l2 := by
  rcases hRv134 with ⟨_, _, h1, h2⟩ | ⟨h1 | h1, _⟩
  ·exact ⟨h1, h2⟩
  ·rw [hO1] at h1; cases h1
  ·rw [hO2] at h1; cases h1
 rw [hq134.2] at hv134
 have sp19_ := hv134.clips hkv134
 obtain ⟨raw134, hrm, hem⟩ := sp19_
 have hmB := Bt.merge_big hsm hsn hD1 hD2
 refine O.mv (O.extract rfl rfl (O.extract rfl rfl (O.cast (v' := .int .i64 0) (congrArg (Value.int .i64) hq134.1) (O.asg (O.asg (K24 (C.sq fun K25 => C.sr fun K26 => O.mv (O.mv ?_))))))))
 have t36 := (r4_1.keep e39).keep e40
 refine O.call call21 (args2 rfl (Eq.trans s7_2 s7_1)) (sameL_spec uv134 raw134 (Bt.merge l l2) _ o raw3 done (fun j => j < w41.heap.size) _ hrm hem (((t36.keep e41)).1.sl.weak (fun j hj => by have := ((t36.keep e41)).1.bk_ge j hj; (try dsimp only); omega)) (((((r5_1.keep e39).keep e40).keep e41)).weakA) (fun j hj => by (try dsimp only at hj); omega) (fun j hj => hj)) ?_
 rintro v_139 w42 ⟨rfl, e42⟩
 have z42 := e42.size
 refine O.cast (v' := .bool true) (congrArg Value.bool (by exact decide_eq_true hfin)) (O.not rfl (O.cast (v' := .bool false) rfl (O.mv (O.yes rfl rfl (O.mv (O.yes rfl rfl (O.neqI rfl rfl (O.cast (v' := .bool false) rfl (O.pickF rfl (K26 (C.condF rfl (C.skip (K25 (C.sr fun K27 => O.mv (O.call call35 (args1 rfl) (stainL_spec uov134 uv134 (Bt.merge l l2) _ _ _ hkv134 (hv134.keep e42) (by omega) hmB) ?_)))))))))))))))
 rintro v_146 w43 ⟨rfl, e43⟩
 have z43 := e43.size
 refine K27 (C.sr fun K28 => O.mv (O.mv ?_))
 have t37 := Ext.trans e_1 e39
 have t38 := Ext.trans t37 e40
 have t39 := Ext.trans t38 e41
 have t40 := Ext.trans t39 e42
 have t41 := Ext.new t40 e43 (by intro i hi h; (try dsimp only at h); omega)
 refine O.call call21 (args2 (Eq.trans s0_2 s0_1) rfl) (sameL_spec v0 raw l F v_128 rw128 l _ _ (hr.keep t41) (he.keep t41) ((((hrs128.keep e40).keep e41).keep e42).keepA e43) ((((hes128.keep e40).keep e41).keep e42).keepA e43) (fun j hj => by have q1 := hF j hj; omega) (fun j hj => by (try dsimp only at hj); omega)) ?_
 rintro v_149 w44 ⟨rfl, e44⟩
 have z44 := e44.size
 refine O.cast (v' := .bool true) (congrArg Value.bool (by exact decide_eq_true rfl)) (O.mv (O.yes rfl rfl (O.mv (O.yes rfl rfl (O.mv (O.yes rfl rfl ?_))))))
 have t42 := Ext.trans t41 e44
 refine O.call call21 (args2 (Eq.trans s1_2 s1_1) rfl) (sameL_spec v1 raw2 l2 F2 v_130 rw130 l2 _ _ (hr2.keep t42) (he2.keep t42) ((((hrs130.keep e41).keep e42).keepA e43).keep e44) ((((hes130.keep e41).keep e42).keepA e43).keep e44) (fun j hj => by have q1 := hF2 j hj; omega) (fun j hj => by (try dsimp only at hj); omega)) ?_
 rintro v_153 w45 ⟨rfl, e45⟩
 have z45 := e45.size
 refine O.cast (v' := .bool true) (congrArg Value.bool (by exact decide_eq_true rfl)) (O.pickT rfl (O.mv (O.yes rfl rfl (O.call call16 (argsN) (bknown_spec _ (mx.keep (Ext.trans t42 e45))) ?_))))
 rintro v_156 w46 ⟨rfl, e46⟩
 have z46 := e46.size
 refine O.pickT rfl (O.asg (K28 (C.ret (Outs.one rfl rfl ?_))))
 exact ⟨rfl, (Ext.trans (Ext.trans t42 e45) e46)⟩
theorem batchMerges_spec (v0 : Value) (l : List EntT) (v1 : Value) (l2 : List EntT) (F : Nat → Prop) (w : World) (hl : Sl entE w F v0 l) (hl2 : Sl entE w F v1 l2) (hF : ∀ k, F k → k < w.heap.size) (mx : Mx w) : Ret prog 8 #[v0, v1] w (fun v w' => v = .bool true ∧ Le w w') := by
 obtain ⟨raw, hr, he⟩ := hl.ents
 obtain ⟨raw2, hr2, he2⟩ := hl2.ents
 exact batchMerges0_spec v0 raw l F v1 raw2 l2 F w hr he hr2 he2 hF hF mx
end Go.Proofs.YtpbcafkcfobngaaGreatDoor
