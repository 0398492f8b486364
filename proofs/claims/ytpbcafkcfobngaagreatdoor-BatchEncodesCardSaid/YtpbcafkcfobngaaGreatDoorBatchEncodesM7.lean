/-
 The walk of batches merged. Conditions: slices as they lie in memory.
-/
import Derived.Test.YtpbcafkcfobngaaGreatDoorBatchEncodesM6
import Derived.Test.YtpbcafkcfobngaaGreatDoorBatchEncodesM3
import Derived.Test.YtpbcafkcfobngaaGreatDoorBatchEncodesM1
import Derived.Test.YtpbcafkcfobngaaGreatDoorCards
import Derived.Test.YtpbcafkcfobngaaGreatDoorTie
section
namespace Go.Proofs.YtpbcafkcfobngaaGreatDoor
open Go.Pn Go.RowKit Go.Proofs _root_.Go.Proofs.Tryz
attribute [local irreducible] O C D
set_option maxHeartbeats 16000000 in
theorem bmerge_spec (v0 : Value) (raw : List EntR) (l : List EntT) (F : Nat → Prop) (v1 : Value) (raw2 : List EntR) (l2 : List EntT) (F2 : Nat → Prop) (w : World) (hr : Sl entF.enc w F v0 raw) (he : EntL w F raw l) (hr2 : Sl entF.enc w F2 v1 raw2) (he2 : EntL w F2 raw2 l2) (hF : ∀ k, F k → k < w.heap.size) (hF2 : ∀ k, F2 k → k < w.heap.size) (hB : Bt.Big l) (hB2 : Bt.Big l2) (hM : Bt.Mid 20000 l) (hM2 : Bt.Mid 20000 l2) (hn : l.length + l2.length ≤ 1000000) (mx : Mx w) :
 Ret Tryz.prog 34 #[v0, v1] w (fun v w' => ∃ (u : Value) (e : Int) (es : List EntT) (u' : Value), v = .tuple #[u, .int .i64 e] ∧ Clip u' u ∧ SlE 50 112 117 114 w' w.heap.size w'.heap.size u' es ∧ ((Bt.ordered l = true ∧ Bt.ordered l2 = true ∧ e = 0 ∧ es = Bt.merge l l2) ∨ ((Bt.ordered l = false ∨ Bt.ordered l2 = false) ∧ e = 2 ∧ es = [])) ∧ Le w w') := by
 obtain ⟨ie50, ti50, ts50, tb50, tz50⟩ := inf50
 have hl := he.1
 have hl2 := he2.1
 have hgl9 := mx.lt
 have _hF9 := hF
 have _hF8 := hF2
 refine enT [v0, v1] 100 func34 rfl rfl (C.seqK fun K1 hK1 => C.region (O.asg (O.asg (O.nil (hK1 _ _ (C.scope (C.seqK fun K2 hK2 => C.seqK fun K3 hK3 => C.region (O.mv (O.call call59 (args1 rfl) (ordered_spec v0 raw l F _ hr he (fun j hj => by have q1 := hF j hj; omega) hB mx) ?_)))))))))
 rintro v_12 w1 ⟨rfl, e1⟩
 have z1 := e1.size
 refine O.not rfl (O.mv (O.split (x := .tmp 14) rfl (fun c14 => ?_) (fun c14 => ?_)))
 ·
  have hno : Bt.ordered l = false ∨ Bt.ordered l2 = false := .inl (by simpa using c14)
  refine O.no rfl (noB (isT' rfl c14) rfl) (O.no rfl (noB (isT' rfl c14) rfl) (O.no rfl (noB (isT' rfl c14) rfl) (O.pickT (isT' rfl c14) (O.nil (hK3 _ _ (C.condT rfl (C.seqK fun K4 hK4 => C.region (O.asg (O.asg (O.nil (hK4 _ _ (C.ret (Outs.two rfl rfl rfl ?_)))))))))))))
  exact ⟨_, 2, [], _, rfl, .inl rfl, SlE.nil _ _ _ _ _ (by omega), .inr ⟨hno, rfl, rfl⟩, e1⟩
 ·
  refine O.yes rfl (isF' rfl c14) (O.mv (O.yes rfl (isF' rfl c14) (O.call call59 (args1 rfl) (ordered_spec v1 raw2 l2 F2 _ (hr2.keep e1) (he2.keep e1) (fun j hj => by have q1 := hF2 j hj; omega) hB2 (mx.keep e1)) ?_)))
  rintro v_16 w2 ⟨rfl, e2⟩
  have z2 := e2.size
  refine O.yes rfl (isF' rfl c14) (O.not rfl (O.pickF (isF' rfl c14) (O.nil (hK3 _ _ (C.cond rfl (fun c18 => ?_) (fun c18 => ?_))))))
  ·
   have hno : Bt.ordered l = false ∨ Bt.ordered l2 = false := .inr (by simpa using c18)
   refine C.seqK fun K5 hK5 => C.region (O.asg (O.asg (O.nil (hK5 _ _ (C.ret (Outs.two rfl rfl rfl ?_))))))
   exact ⟨_, 2, [], _, rfl, .inl rfl, SlE.nil _ _ _ _ _ (by omega), .inr ⟨hno, rfl, rfl⟩, (Ext.trans e1 e2)⟩
  ·
   have hO1 : Bt.ordered l = true := by simpa using c14
   have hO2 : Bt.ordered l2 = true := by simpa using c18
   have sp1_ : ∃ n, n = w2.heap.size := ⟨_, rfl⟩
   obtain ⟨n9, hn9⟩ := sp1_
   refine C.skip (hK2 _ _ (C.seqK fun K6 hK6 => C.region (O.asg (O.nil (hK6 _ _ (C.seqK fun K7 hK7 => C.label (hK7 _ _ (C.seqK fun K8 hK8 => C.block fun K9 hK9 => ?_))))))))
   refine C.loop0 (σ := Value × Value × List EntR × List EntR × List EntT × List EntT × Value × Nat × List EntR × List EntT × Nat) (fun f0 w0 ⟨va, vb, ra, rb, la, lb, o, gl, raw3, done, hz⟩ f wz => f 0 = va ∧ f 1 = vb ∧ f 6 = o ∧ Le w wz ∧ Sl entF.enc wz F va ra ∧ EntL wz F ra la ∧ Sl entF.enc wz F2 vb rb ∧ EntL wz F2 rb lb ∧ OG entF 50 wz o gl raw3 ∧ EntsD 112 117 114 wz (fun j => j ≠ gl) n9 hz raw3 done ∧ Bt.merge l l2 = done ++ Bt.merge la lb ∧ (Bt.Ord la ∧ Bt.Ord lb) ∧ (Bt.Mid 20000 la ∧ Bt.Mid 20000 lb) ∧ (∀ j, bk o j → n9 ≤ j) ∧ (n9 ≤ hz ∧ hz ≤ wz.heap.size) ∧ done.length + la.length + lb.length ≤ l.length + l2.length) (fun ⟨va, vb, ra, rb, la, lb, o, gl, raw3, done, hz⟩ => la.length + lb.length) (v0, v1, raw, raw2, l, l2, .slice none 0 0, 0, [], [], n9) ?_ ?_
   ·
    refine ⟨rfl, rfl, rfl, (Ext.trans e1 e2), ((hr.keep e1).keep e2), ((he.keep e1).keep e2), ((hr2.keep e1).keep e2), ((he2.keep e1).keep e2), (OG.nil (by omega)), (EntsD.nil (Nat.le_refl _)), ?_⟩
    exact ⟨rfl, ⟨Bt.ord_iff.1 hO1, Bt.ord_iff.1 hO2⟩, ⟨hM, hM2⟩, fun _ h => h.elim, by omega, by simp⟩
   ·
    rintro ⟨va, vb, ra, rb, la, lb, o, gl, raw3, done, hz⟩ f_1 w3 ⟨s0_1, s1_1, s6_1, e_1, r0_1, r1_1, r2_1, r3_1, r4_1, r5_1, ⟨hmg, ⟨hoa, hob9⟩, ⟨hma, hmb⟩, hob, hhz, hdn⟩⟩
    have z_1 := e_1.size
    have hogl := (r4_1).2.2
    have hogu := (r4_1).2.1
    have hen := r5_1
    have hrx := hen.1
    have hal := (r1_1).1
    have hbl := (r3_1).1
    have hral := (r0_1).le
    have hrbl := (r2_1).le
    refine C.block fun K10 hK10 => C.seqK fun K11 hK11 => C.region (O.alloc zeroValue50 (fun b7 w4 hb7 hz7 e4 => ?_))
    have z4 := e4.size
    have h7 := hz7.own
    have hl7 := h7.lt
    refine O.nil (hK11 _ _ (C.seqK fun K12 hK12 => C.block fun K13 hK13 => C.seqK fun K14 hK14 => C.region (O.mv (O.len underlying22 s0_1 (r0_1.keep e4) (O.eqlI rfl rfl (O.mv (O.splitD (x := .tmp 67) rfl (fun c67 => ?_) (fun c67 => ?_))))))))
    ·
     refine O.yes rfl (isT rfl c67) (O.mv (O.yes rfl (isT rfl c67) (O.len underlying22 s1_1 (r2_1.keep e4) (O.yes rfl (isT rfl c67) (O.eqlI rfl rfl (O.pickT (isT rfl c67) (O.asg (O.nil (hK14 _ _ (C.condD rfl (fun c63 => ?_) (fun c63 => ?_)))))))))))
     ·
      have hla0 : la = [] := List.eq_nil_of_length_eq_zero (by omega)
      have hlb0 : lb = [] := List.eq_nil_of_length_eq_zero (by omega)
      have hfin : Bt.merge l l2 = done := by rw [hmg, hla0, hlb0, Bt.merge_nil, List.append_nil]
      refine C.exit (hK9 _ _ (hK8 _ _ (C.seqK fun K15 hK15 => C.region (O.mv (O.call call78 (args1 s6_1) (clip_spec o raw3 50 _ ((r4_1.keep e4)).1) ?_)))))
      rintro v_99 w5 ⟨hkv99, rfl⟩
      refine O.asg (O.asg (O.nil (hK15 _ _ (C.ret (Outs.two rfl rfl rfl ?_)))))
      first
      | exact ⟨_, 2, [], _, rfl, .inl rfl, SlE.nil _ _ _ _ _ (by omega), .inr ⟨hno, rfl, rfl⟩, (Ext.trans e_1 e4)⟩
      | (refine ⟨_, 0, done, o, rfl, hkv99, ⟨raw3, ((r4_1.keep e4)).1.fre (fun j hj => ?_), (((r5_1.keep e4)).weak (fun k _ _ hG hb => hG (hogu k hb))).wide (by omega) (by omega)⟩, .inl ⟨hO1, hO2, rfl, hfin.symm⟩, (Ext.trans e_1 e4)⟩
         have := hob j hj
         have := (((r4_1.keep e4)).1.bk_ge j hj)
         (try dsimp only)
         omega)
     ·
      refine C.seqK fun K16 hK16 => C.region (O.mv (O.len underlying22 s1_1 (r2_1.keep e4) (O.eqlI rfl rfl (O.asg (O.nil (hK16 _ _ ?_))))))
      refine C.join (fun f w f' w' => Ext (fun k => k = b7) w w' ∧ f' 6 = f 6 ∧ f' 7 = f 7 ∧ ∃ (va3 : Value) (vb3 : Value) (ra3 : List EntR) (rb3 : List EntR) (la3 : List EntT) (lb3 : List EntT) (ck : List UInt8) (q1 : Raw) (q2 : Raw) (q3 : Raw) (cc : CartT), f' 0 = va3 ∧ f' 1 = vb3 ∧ Own w' b7 50 [str ck, slv q1, slv q2, slv q3] ∧ Sl entF.enc w' F va3 ra3 ∧ EntL w' F ra3 la3 ∧ Sl entF.enc w' F2 vb3 rb3 ∧ EntL w' F2 rb3 lb3 ∧ CartAt w' (fun j => j < w'.heap.size ∧ j ≠ b7) ((q1, q2), q3) cc ∧ Bt.merge la lb = (ck, cc) :: Bt.merge la3 lb3 ∧ (Bt.Ord la3 ∧ Bt.Ord lb3) ∧ (Bt.Mid 20000 la3 ∧ Bt.Mid 20000 lb3) ∧ Cn.big cc ∧ la3.length + lb3.length + 1 ≤ la.length + lb.length) ?_ ?_
      ·
       refine C.condD rfl (fun c72 => ?_) (fun c72 => ?_)
       ·
        have hlb0 : lb = [] := List.eq_nil_of_length_eq_zero (by omega)
        have sp2_ : ∃ q t, ra = q :: t := List.exists_cons_of_length_pos (by omega)
        obtain ⟨r, ra2, hra⟩ := sp2_
        have sp3_ : ∃ q t, la = q :: t := List.exists_cons_of_length_pos (by omega)
        obtain ⟨x, la2, hla⟩ := sp3_
        have hsa := (r0_1.keep e4)
        rw [hra] at hsa
        have hea := (r1_1.keep e4)
        rw [hra, hla] at hea
        have hca := hea.head.2
        have hkxr := hea.head.1
        have hoaC : Bt.Ord (x :: la2) := hla ▸ hoa
        have hmaC : Bt.Mid 20000 (x :: la2) := hla ▸ hma
        have hgx := (hoaC.ok x List.mem_cons_self).2
        have hmid := hmaC x List.mem_cons_self
        have hbx := hmaC.big (by omega) (x := x) List.mem_cons_self
        have hoa2 := hoaC.tail
        have hma2 : Bt.Mid 20000 la2 := hmaC.sub (fun z hz => List.mem_cons_of_mem _ hz)
        have hlal : la.length = la2.length + 1 := by rw [hla]; rfl
        have hP : Bt.merge la lb = (r.1, x.2) :: Bt.merge la2 lb ∧ (Bt.Ord la2 ∧ Bt.Ord lb) ∧ (Bt.Mid 20000 la2 ∧ Bt.Mid 20000 lb) ∧ Cn.big x.2 ∧ la2.length + lb.length + 1 ≤ la.length + lb.length := ⟨by rw [hla, hlb0, Bt.mrg_a0, hkxr], ⟨hoa2, hob9⟩, ⟨hma2, hmb⟩, hbx, by omega⟩
        exfalso; omega
       ·
        refine C.seqK fun K17 hK17 => C.region (O.mv (O.len underlying22 s0_1 (r0_1.keep e4) (O.eqlI rfl rfl (O.asg (O.nil (hK17 _ _ (C.condD rfl (fun c81 => ?_) (fun c81 => ?_))))))))
        ·
         have hla0 : la = [] := List.eq_nil_of_length_eq_zero (by omega)
         have sp4_ : ∃ q t, rb = q :: t := List.exists_cons_of_length_pos (by omega)
         obtain ⟨s, rb2, hrb⟩ := sp4_
         have sp5_ : ∃ q t, lb = q :: t := List.exists_cons_of_length_pos (by omega)
         obtain ⟨y, lb2, hlb⟩ := sp5_
         have hsb := (r2_1.keep e4)
         rw [hrb] at hsb
         have heb := (r3_1.keep e4)
         rw [hrb, hlb] at heb
         have hcb := heb.head.2
         have hkys := heb.head.1
         have hobC : Bt.Ord (y :: lb2) := hlb ▸ hob9
         have hmbC : Bt.Mid 20000 (y :: lb2) := hlb ▸ hmb
         have hgy := (hobC.ok y List.mem_cons_self).2
         have hmiy := hmbC y List.mem_cons_self
         have hby := hmbC.big (by omega) (x := y) List.mem_cons_self
         have hob2 := hobC.tail
         have hmb2 : Bt.Mid 20000 lb2 := hmbC.sub (fun z hz => List.mem_cons_of_mem _ hz)
         have hlbl : lb.length = lb2.length + 1 := by rw [hlb]; rfl
         have hP : Bt.merge la lb = (s.1, y.2) :: Bt.merge la lb2 ∧ (Bt.Ord la ∧ Bt.Ord lb2) ∧ (Bt.Mid 20000 la ∧ Bt.Mid 20000 lb2) ∧ Cn.big y.2 ∧ la.length + lb2.length + 1 ≤ la.length + lb.length := ⟨by rw [hlb, hla0, Bt.mrg_b0, hkys], ⟨hoa, hob2⟩, ⟨hma, hmb2⟩, hby, by omega⟩
         refine C.drawB (wB := w3) (by kernel_rfl) fun w5 e5 => ?_
         have z5 := e5.size
         refine D.tk 0 rfl rfl rfl rfl (Ext.trans e4 e5) ⟨pure _, rfl⟩ (fun _ hw_ _ hN => O.mv (O.nil hN)) (D.tk 3 rfl rfl rfl rfl (Ext.trans e4 e5) ⟨pure _, rfl⟩ (fun _ hw_ _ hN => O.mv (O.nil hN)) ?_)
         have hb89 := Sl.sub (P := Tryz.prog) (1) ((s :: rb2).length) underlying22 sizeOf50 (by rfl) (hsb.keep e5) (by simp) (Nat.le_refl _)
         obtain ⟨v89, hs89, hr89⟩ := hb89
         refine D.tk 4 rfl rfl rfl rfl (Ext.trans e4 e5) ⟨_, rfl⟩ (fun _ hw_ _ hN => O.subR s1_1 hr89 (.inr ⟨_, _, rfl, rfl⟩) (.inl ⟨rfl, rfl⟩) (O.nil hN)) ?_
         rw [List.take_length] at hs89
         replace hs89 : Sl entF.enc _ F2 v89 rb2 := hs89
         have het89 := ((heb.keep e5)).tail
         refine D.on 1 rfl rfl (O.idx underlying22 sizeOf50 rfl s1_1 (hsb.keep e5) rfl (by simp) (fun a86 h86 => O.nil ⟨(Ext.trans e4 e5), D.on 2 rfl rfl (O.loadG (G := entF) isAgg50 sizeOf50 rfl h86 (O.nil ⟨(Ext.trans e4 e5), D.cast (v' := .agg #[str s.1, slv s.2.1.1, slv s.2.1.2, slv s.2.2]) rfl (D.on 5 rfl rfl (O.storeA (vs := [str s.1, slv s.2.1.1, slv s.2.1.2, slv s.2.2]) sizeOf50 rfl rfl rfl (by intro u hu; simp only [List.mem_cons, List.not_mem_nil, or_false] at hu; rcases hu with rfl | rfl | rfl | rfl <;> rfl) (h7.keep e5) (leB rfl) (fun w6 hs6 e6 z6 => O.nil ⟨(Ext.nr (Ext.trans e4 e5) e6), ?_⟩)))⟩))⟩))
         refine D.tk 6 rfl rfl rfl rfl (Ext.nr (Ext.trans e4 e5) e6) ⟨pure _, rfl⟩ (fun _ hw_ _ hN => O.asg (O.nil hN)) (D.dn ?_)
         exact ⟨(Ext.nw (Ext.nw (Ext.refl _ _) e5) e6), rfl, rfl, ⟨_, _, _, _, _, _, _, _, _, _, _, s0_1, rfl, hs6, (((r0_1.keep e4).keep e5).keepA e6), (((r1_1.keep e4).keep e5).keepA e6), (hs89.keepA e6), (het89.keepA e6), ((((hcb.keep e5).keepA e6)).weak (fun j hj => by first | (have q9 := hF j hj; (try dsimp only); omega) | (have q9 := hF2 j hj; (try dsimp only); omega) | ((try dsimp only at hj); (try dsimp only); omega))), hP⟩⟩
        ·
         have sp6_ : ∃ q t, ra = q :: t := List.exists_cons_of_length_pos (by omega)
         obtain ⟨r, ra2, hra⟩ := sp6_
         have sp7_ : ∃ q t, la = q :: t := List.exists_cons_of_length_pos (by omega)
         obtain ⟨x, la2, hla⟩ := sp7_
         have hsa := (r0_1.keep e4)
         rw [hra] at hsa
         have hea := (r1_1.keep e4)
         rw [hra, hla] at hea
         have hca := hea.head.2
         have hkxr := hea.head.1
         have hoaC : Bt.Ord (x :: la2) := hla ▸ hoa
         have hmaC : Bt.Mid 20000 (x :: la2) := hla ▸ hma
         have hgx := (hoaC.ok x List.mem_cons_self).2
         have hmid := hmaC x List.mem_cons_self
         have hbx := hmaC.big (by omega) (x := x) List.mem_cons_self
         have hoa2 := hoaC.tail
         have hma2 : Bt.Mid 20000 la2 := hmaC.sub (fun z hz => List.mem_cons_of_mem _ hz)
         have hlal : la.length = la2.length + 1 := by rw [hla]; rfl
         have sp8_ : ∃ q t, rb = q :: t := List.exists_cons_of_length_pos (by omega)
         obtain ⟨s, rb2, hrb⟩ := sp8_
         have sp9_ : ∃ q t, lb = q :: t := List.exists_cons_of_length_pos (by omega)
         obtain ⟨y, lb2, hlb⟩ := sp9_
         have hsb := (r2_1.keep e4)
         rw [hrb] at hsb
         have heb := (r3_1.keep e4)
         rw [hrb, hlb] at heb
         have hcb := heb.head.2
         have hkys := heb.head.1
         have hobC : Bt.Ord (y :: lb2) := hlb ▸ hob9
         have hmbC : Bt.Mid 20000 (y :: lb2) := hlb ▸ hmb
         have hgy := (hobC.ok y List.mem_cons_self).2
         have hmiy := hmbC y List.mem_cons_self
         have hby := hmbC.big (by omega) (x := y) List.mem_cons_self
         have hob2 := hobC.tail
         have hmb2 : Bt.Mid 20000 lb2 := hmbC.sub (fun z hz => List.mem_cons_of_mem _ hz)
         have hlbl : lb.length = lb2.length + 1 := by rw [hlb]; rfl
         exfalso; omega
      ·
       rintro f_2 w7 ⟨e_2, s6_2, s7_2, ⟨va3, vb3, ra3, rb3, la3, lb3, ck, q1, q2, q3, cc, s0_2, s1_2, q0_2, q1_2, q2_2, q3_2, q4_2, q5_2, q6_2⟩⟩
       have z_2 := e_2.size
       obtain ⟨hmg2, ho3, hm3, hbc, hlen3⟩ := q6_2
       have sp10_ : ∃ n, n = w7.heap.size := ⟨_, rfl⟩
       obtain ⟨w0_, hw0_⟩ := sp10_
       have hl7w := (q0_2).lt
       refine hK13 _ _ (hK12 _ _ (C.seqK fun K18 hK18 => C.region (O.fieldAd underlying50 rfl sizeOf47 (by decide) s7_2 (O.loadOA isAgg47 sizeOf47 rfl q0_2 (leB rfl) (O.call call77 (args1 rfl) (ccopy_spec (slv q1) (slv q2) (slv q3) cc _ _ (q5_2).1 (q5_2).2.1 (q5_2).2.2 hbc.2.2.1 (fun x hx => (hbc.2.2.2 x hx).2) hbc.1 hbc.2.1) ?_)))))
       rintro v_92 w8 ⟨e8, uav92, ubv92, ucv92, rfl, hxv92, hyv92, hzv92⟩
       have z8 := e8.size
       have sp11_ := hxv92.slv
       obtain ⟨c1, sp11_⟩ := sp11_
       subst sp11_
       have sp12_ := hyv92.slv
       obtain ⟨c2, sp12_⟩ := sp12_
       subst sp12_
       have sp13_ := hzv92.sl.slv
       obtain ⟨c3, sp13_⟩ := sp13_
       subst sp13_
       have sp14_ : ∃ n, n = w8.heap.size := ⟨_, rfl⟩
       obtain ⟨wa, hwa⟩ := sp14_
       have hcf : CartF 112 117 114 w8 (fun j => w0_ ≤ j ∧ j < wa) ((c1, c2), c3) cc := ⟨hxv92.weak (by intro j hj; (try dsimp only at hj); (try dsimp only); omega), hyv92.weak (by intro j hj; (try dsimp only at hj); (try dsimp only); omega), hzv92.weak (by intro j hj; (try dsimp only at hj); (try dsimp only); omega)⟩
       refine O.fieldAd underlying50 rfl sizeOf47 (by decide) s7_2 (O.storeA (vs := [slv c1, slv c2, slv c3]) sizeOf47 rfl rfl rfl (by intro u hu; simp only [List.mem_cons, List.not_mem_nil, or_false] at hu; rcases hu with rfl | rfl | rfl <;> rfl) (q0_2.keep e8) (leB rfl) (fun w9 hs9 e9 z9 => O.nil (hK18 _ _ (C.region (O.mv (O.loadOA isAgg50 sizeOf50 s7_2 hs9 (leB rfl) (O.litG (G := entF) [(ck, (c1, c2), c3)] underlying22 ti50 ts50 tz50 rfl (by decide) (by decide) rfl (fun b96 w10 hb96 hz96 e10 => ?_))))))))
       have z10 := e10.size
       have h96 := hz96.own
       have hq96 := Sl.litG (n := 1) h96 rfl (by unfold maxLen; omega)
       have t0 := (((r4_1.keep e4).keepA e_2).keep e8).keepA e9
       refine O.appG (G := entF) underlying22 ti50 tz50 ts50 rfl (Eq.trans s6_2 s6_1) rfl (t0.keep e10) hq96 (by rw [tb50]; simp; omega) (by unfold maxLen; simp; omega) (fun v97 gg97 w11 h97 hg97 e11 hw97 => ?_)
       have e11m := e11.mono (M' := fun k => k = _) (fun k _ hk => (t0.keep e10).2.1 k hk)
       have z11 := e11.size
       have hgl97 := h97.2.2
       have hob97 : ∀ k, bk v97 k → n9 ≤ k := fun k hk => by
        rcases hw97 k hk with q | q
        ·exact hob k q
        ·omega
       have hg97 : n9 ≤ gg97 := hob97 _ (h97.bk (by simp))
       have hgg97 := (hw97 _ (h97.bk (by simp))).imp (hogu _) id
       refine O.asg (O.nil (hK10 _ _ ?_))
       refine ⟨(va3, vb3, ra3, rb3, la3, lb3, v97, gg97, raw3 ++ [(ck, (c1, c2), c3)], done ++ [(ck, cc)], wa), ⟨s0_2, s1_2, rfl, (Ext.new (Ext.trans (Ext.new (Ext.trans (Ext.new (Ext.trans e_1 e4) e_2 (by intro i hi h; (try dsimp only at h); omega)) e8) e9 (by intro i hi h; (try dsimp only at h); omega)) e10) e11 (by intro i hi h; have := hob i h; omega)), ((((q1_2.keep e8).keepM e9 (by intro j hj h; first | (have q1 := hF j hj; (try dsimp only at h); omega) | (have q1 := hF2 j hj; (try dsimp only at h); omega) | ((try dsimp only at hj); (try dsimp only at h); omega))).keep e10).keepM e11 (by intro j hj h; have q2 := hob j h; have q3 := hogu j h; first | (have q1 := hF j hj; omega) | (have q1 := hF2 j hj; omega) | ((try dsimp only at hj); omega))), ((((q2_2.keep e8).keepM e9 (by intro j hj h; first | (have q1 := hF j hj; (try dsimp only at h); omega) | (have q1 := hF2 j hj; (try dsimp only at h); omega) | ((try dsimp only at hj); (try dsimp only at h); omega))).keep e10).keepM e11 (by intro j hj h; have q2 := hob j h; have q3 := hogu j h; first | (have q1 := hF j hj; omega) | (have q1 := hF2 j hj; omega) | ((try dsimp only at hj); omega))), ((((q3_2.keep e8).keepM e9 (by intro j hj h; first | (have q1 := hF j hj; (try dsimp only at h); omega) | (have q1 := hF2 j hj; (try dsimp only at h); omega) | ((try dsimp only at hj); (try dsimp only at h); omega))).keep e10).keepM e11 (by intro j hj h; have q2 := hob j h; have q3 := hogu j h; first | (have q1 := hF j hj; omega) | (have q1 := hF2 j hj; omega) | ((try dsimp only at hj); omega))), ((((q4_2.keep e8).keepM e9 (by intro j hj h; first | (have q1 := hF j hj; (try dsimp only at h); omega) | (have q1 := hF2 j hj; (try dsimp only at h); omega) | ((try dsimp only at hj); (try dsimp only at h); omega))).keep e10).keepM e11 (by intro j hj h; have q2 := hob j h; have q3 := hogu j h; first | (have q1 := hF j hj; omega) | (have q1 := hF2 j hj; omega) | ((try dsimp only at hj); omega))), h97, (((((((((r5_1.keep e4).keepM e_2 (by intro k hG h1 h2 h; (try dsimp only at h); omega)).keep e8).keepM e9 (by intro k hG h1 h2 h; (try dsimp only at h); omega)).keep e10).keepM e11 (by intro k hG h1 h2 h; exact hG (hogu k h)))).weak (fun j h1 h2 h3 => by (try dsimp only); omega)).snoc (x := (ck, cc)) (hi' := wa) (by omega) rfl (((((hcf.keepM e9 (by intro j hj h; first | (have q1 := hF j hj; (try dsimp only at h); omega) | (have q1 := hF2 j hj; (try dsimp only at h); omega) | ((try dsimp only at hj); (try dsimp only at h); omega))).keep e10).keepM e11 (by intro j hj h; have q2 := hob j h; have q3 := hogu j h; first | (have q1 := hF j hj; omega) | (have q1 := hF2 j hj; omega) | ((try dsimp only at hj); omega)))).weak (fun j hj => by (try dsimp only at hj); (try dsimp only); omega))), ?_⟩, by show la3.length + lb3.length < la.length + lb.length; omega⟩
       exact ⟨by rw [hmg, hmg2, List.append_assoc]; rfl, ho3, hm3, hob97, by omega, by rw [List.length_append, List.length_singleton]; omega⟩
    ·
     refine O.no rfl (noB (isF rfl c67) rfl) (O.no rfl (noB (isF rfl c67) rfl) (O.no rfl (noB (isF rfl c67) rfl) (O.pickF (isF rfl c67) (O.asg (O.nil (hK14 _ _ (C.condF rfl (C.seqK fun K19 hK19 => C.region (O.mv (O.len underlying22 s1_1 (r2_1.keep e4) (O.eqlI rfl rfl (O.asg (O.nil (hK19 _ _ ?_))))))))))))))
     refine C.join (fun f w f' w' => Ext (fun k => k = b7) w w' ∧ f' 6 = f 6 ∧ f' 7 = f 7 ∧ ∃ (va3 : Value) (vb3 : Value) (ra3 : List EntR) (rb3 : List EntR) (la3 : List EntT) (lb3 : List EntT) (ck : List UInt8) (q1 : Raw) (q2 : Raw) (q3 : Raw) (cc : CartT), f' 0 = va3 ∧ f' 1 = vb3 ∧ Own w' b7 50 [str ck, slv q1, slv q2, slv q3] ∧ Sl entF.enc w' F va3 ra3 ∧ EntL w' F ra3 la3 ∧ Sl entF.enc w' F2 vb3 rb3 ∧ EntL w' F2 rb3 lb3 ∧ CartAt w' (fun j => j < w'.heap.size ∧ j ≠ b7) ((q1, q2), q3) cc ∧ Bt.merge la lb = (ck, cc) :: Bt.merge la3 lb3 ∧ (Bt.Ord la3 ∧ Bt.Ord lb3) ∧ (Bt.Mid 20000 la3 ∧ Bt.Mid 20000 lb3) ∧ Cn.big cc ∧ la3.length + lb3.length + 1 ≤ la.length + lb.length) ?_ ?_
     ·
      refine C.condD rfl (fun c72 => ?_) (fun c72 => ?_)
      ·
       have hlb0 : lb = [] := List.eq_nil_of_length_eq_zero (by omega)
       have sp15_ : ∃ q t, ra = q :: t := List.exists_cons_of_length_pos (by omega)
       obtain ⟨r, ra2, hra⟩ := sp15_
       have sp16_ : ∃ q t, la = q :: t := List.exists_cons_of_length_pos (by omega)
       obtain ⟨x, la2, hla⟩ := sp16_
       have hsa := (r0_1.keep e4)
       rw [hra] at hsa
       have hea := (r1_1.keep e4)
       rw [hra, hla] at hea
       have hca := hea.head.2
       have hkxr := hea.head.1
       have hoaC : Bt.Ord (x :: la2) := hla ▸ hoa
       have hmaC : Bt.Mid 20000 (x :: la2) := hla ▸ hma
       have hgx := (hoaC.ok x List.mem_cons_self).2
       have hmid := hmaC x List.mem_cons_self
       have hbx := hmaC.big (by omega) (x := x) List.mem_cons_self
       have hoa2 := hoaC.tail
       have hma2 : Bt.Mid 20000 la2 := hmaC.sub (fun z hz => List.mem_cons_of_mem _ hz)
       have hlal : la.length = la2.length + 1 := by rw [hla]; rfl
       have hP : Bt.merge la lb = (r.1, x.2) :: Bt.merge la2 lb ∧ (Bt.Ord la2 ∧ Bt.Ord lb) ∧ (Bt.Mid 20000 la2 ∧ Bt.Mid 20000 lb) ∧ Cn.big x.2 ∧ la2.length + lb.length + 1 ≤ la.length + lb.length := ⟨by rw [hla, hlb0, Bt.mrg_a0, hkxr], ⟨hoa2, hob9⟩, ⟨hma2, hmb⟩, hbx, by omega⟩
       refine C.drawB (wB := w3) (by kernel_rfl) fun w12 e12 => ?_
       have z12 := e12.size
       have t1 := Ext.trans e4 e12
       refine D.tk 0 rfl rfl rfl rfl t1 ⟨pure _, rfl⟩ (fun _ hw_ _ hN => O.mv (O.nil hN)) (D.tk 3 rfl rfl rfl rfl t1 ⟨pure _, rfl⟩ (fun _ hw_ _ hN => O.mv (O.nil hN)) ?_)
       have hb80 := Sl.sub (P := Tryz.prog) (1) ((r :: ra2).length) underlying22 sizeOf50 (by rfl) (hsa.keep e12) (by simp) (Nat.le_refl _)
       obtain ⟨v80, hs80, hr80⟩ := hb80
       refine D.tk 4 rfl rfl rfl rfl t1 ⟨_, rfl⟩ (fun _ hw_ _ hN => O.subR s0_1 hr80 (.inr ⟨_, _, rfl, rfl⟩) (.inl ⟨rfl, rfl⟩) (O.nil hN)) ?_
       rw [List.take_length] at hs80
       replace hs80 : Sl entF.enc _ F v80 ra2 := hs80
       have het80 := ((hea.keep e12)).tail
       refine D.on 1 rfl rfl (O.idx underlying22 sizeOf50 rfl s0_1 (hsa.keep e12) rfl (by simp) (fun a77 h77 => O.nil ⟨t1, D.on 2 rfl rfl (O.loadG (G := entF) isAgg50 sizeOf50 rfl h77 (O.nil ⟨t1, D.cast (v' := .agg #[str r.1, slv r.2.1.1, slv r.2.1.2, slv r.2.2]) rfl (D.on 5 rfl rfl (O.storeA (vs := [str r.1, slv r.2.1.1, slv r.2.1.2, slv r.2.2]) sizeOf50 rfl rfl rfl (by intro u hu; simp only [List.mem_cons, List.not_mem_nil, or_false] at hu; rcases hu with rfl | rfl | rfl | rfl <;> rfl) (h7.keep e12) (leB rfl) (fun w13 hs13 e13 z13 => O.nil ⟨(Ext.nr t1 e13), ?_⟩)))⟩))⟩))
       refine D.tk 6 rfl rfl rfl rfl (Ext.nr t1 e13) ⟨pure _, rfl⟩ (fun _ hw_ _ hN => O.asg (O.nil hN)) (D.dn ?_)
       exact ⟨(Ext.nw (Ext.nw (Ext.refl _ _) e12) e13), rfl, rfl, ⟨_, _, _, _, _, _, _, _, _, _, _, rfl, s1_1, hs13, (hs80.keepA e13), (het80.keepA e13), (((r2_1.keep e4).keep e12).keepA e13), (((r3_1.keep e4).keep e12).keepA e13), ((((hca.keep e12).keepA e13)).weak (fun j hj => by first | (have q9 := hF j hj; (try dsimp only); omega) | (have q9 := hF2 j hj; (try dsimp only); omega) | ((try dsimp only at hj); (try dsimp only); omega))), hP⟩⟩
      ·
       refine C.seqK fun K20 hK20 => C.region (O.mv (O.len underlying22 s0_1 (r0_1.keep e4) (O.eqlI rfl rfl (O.asg (O.nil (hK20 _ _ (C.condD rfl (fun c81 => ?_) (fun c81 => ?_))))))))
       ·
        have hla0 : la = [] := List.eq_nil_of_length_eq_zero (by omega)
        have sp17_ : ∃ q t, rb = q :: t := List.exists_cons_of_length_pos (by omega)
        obtain ⟨s, rb2, hrb⟩ := sp17_
        have sp18_ : ∃ q t, lb = q :: t := List.exists_cons_of_length_pos (by omega)
        obtain ⟨y, lb2, hlb⟩ := sp18_
        have hsb := (r2_1.keep e4)
        rw [hrb] at hsb
        have heb := (r3_1.keep e4)
        rw [hrb, hlb] at heb
        have hcb := heb.head.2
        have hkys := heb.head.1
        have hobC : Bt.Ord (y :: lb2) := hlb ▸ hob9
        have hmbC : Bt.Mid 20000 (y :: lb2) := hlb ▸ hmb
        have hgy := (hobC.ok y List.mem_cons_self).2
        have hmiy := hmbC y List.mem_cons_self
        have hby := hmbC.big (by omega) (x := y) List.mem_cons_self
        have hob2 := hobC.tail
        have hmb2 : Bt.Mid 20000 lb2 := hmbC.sub (fun z hz => List.mem_cons_of_mem _ hz)
        have hlbl : lb.length = lb2.length + 1 := by rw [hlb]; rfl
        have hP : Bt.merge la lb = (s.1, y.2) :: Bt.merge la lb2 ∧ (Bt.Ord la ∧ Bt.Ord lb2) ∧ (Bt.Mid 20000 la ∧ Bt.Mid 20000 lb2) ∧ Cn.big y.2 ∧ la.length + lb2.length + 1 ≤ la.length + lb.length := ⟨by rw [hlb, hla0, Bt.mrg_b0, hkys], ⟨hoa, hob2⟩, ⟨hma, hmb2⟩, hby, by omega⟩
        exfalso; omega
       ·
        have sp19_ : ∃ q t, ra = q :: t := List.exists_cons_of_length_pos (by omega)
        obtain ⟨r, ra2, hra⟩ := sp19_
        have sp20_ : ∃ q t, la = q :: t := List.exists_cons_of_length_pos (by omega)
        obtain ⟨x, la2, hla⟩ := sp20_
        have hsa := (r0_1.keep e4)
        rw [hra] at hsa
        have hea := (r1_1.keep e4)
        rw [hra, hla] at hea
        have hca := hea.head.2
        have hkxr := hea.head.1
        have hoaC : Bt.Ord (x :: la2) := hla ▸ hoa
        have hmaC : Bt.Mid 20000 (x :: la2) := hla ▸ hma
        have hgx := (hoaC.ok x List.mem_cons_self).2
        have hmid := hmaC x List.mem_cons_self
        have hbx := hmaC.big (by omega) (x := x) List.mem_cons_self
        have hoa2 := hoaC.tail
        have hma2 : Bt.Mid 20000 la2 := hmaC.sub (fun z hz => List.mem_cons_of_mem _ hz)
        have hlal : la.length = la2.length + 1 := by rw [hla]; rfl
        have sp21_ : ∃ q t, rb = q :: t := List.exists_cons_of_length_pos (by omega)
        obtain ⟨s, rb2, hrb⟩ := sp21_
        have sp22_ : ∃ q t, lb = q :: t := List.exists_cons_of_length_pos (by omega)
        obtain ⟨y, lb2, hlb⟩ := sp22_
        have hsb := (r2_1.keep e4)
        rw [hrb] at hsb
        have heb := (r3_1.keep e4)
        rw [hrb, hlb] at heb
        have hcb := heb.head.2
        have hkys := heb.head.1
        have hobC : Bt.Ord (y :: lb2) := hlb ▸ hob9
        have hmbC : Bt.Mid 20000 (y :: lb2) := hlb ▸ hmb
        have hgy := (hobC.ok y List.mem_cons_self).2
        have hmiy := hmbC y List.mem_cons_self
        have hby := hmbC.big (by omega) (x := y) List.mem_cons_self
        have hob2 := hobC.tail
        have hmb2 : Bt.Mid 20000 lb2 := hmbC.sub (fun z hz => List.mem_cons_of_mem _ hz)
        have hlbl : lb.length = lb2.length + 1 := by rw [hlb]; rfl
        refine C.seqK fun K21 hK21 => C.draw (by kernel_rfl) fun w14 e14 => ?_
        have z14 := e14.size
        refine D.tk 0 rfl rfl rfl rfl (Le.refl _) ⟨pure _, rfl⟩ (fun _ hw_ _ hN => O.mv (O.nil hN)) ?_
        have sp23_ := Sl.at (i := 0) (P := Tryz.prog) underlying22 sizeOf50 rfl (hsa.keep e14) (by simp)
        obtain ⟨a20, h20, hr20⟩ := sp23_
        refine D.tk 1 rfl rfl rfl rfl (Le.refl _) ⟨_, rfl⟩ (fun _ hw_ _ hN => O.idxR s0_1 rfl hr20 (O.nil hN)) (D.tk 2 rfl rfl rfl rfl (Le.refl _) ⟨_, rfl⟩ (fun _ hw_ _ hN => O.fieldAt underlying50 rfl sizeOf9 (by decide) rfl (O.nil hN)) (D.tk 3 rfl rfl rfl rfl (Le.refl _) ⟨_, rfl⟩ (fun _ hw_ _ hN => O.loadAtF (G := entF) isAgg9 rfl rfl (h20.keep hw_) (O.nil hN)) (D.cast (v' := str r.1) rfl (D.tk 4 rfl rfl rfl rfl (Le.refl _) ⟨pure _, rfl⟩ (fun _ hw_ _ hN => O.mv (O.nil hN)) ?_))))
        have sp24_ := Sl.at (i := 0) (P := Tryz.prog) underlying22 sizeOf50 rfl (hsb.keep e14) (by simp)
        obtain ⟨a24, h24, hr24⟩ := sp24_
        refine D.tk 5 rfl rfl rfl rfl (Le.refl _) ⟨_, rfl⟩ (fun _ hw_ _ hN => O.idxR s1_1 rfl hr24 (O.nil hN)) (D.tk 6 rfl rfl rfl rfl (Le.refl _) ⟨_, rfl⟩ (fun _ hw_ _ hN => O.fieldAt underlying50 rfl sizeOf9 (by decide) rfl (O.nil hN)) (D.tk 7 rfl rfl rfl rfl (Le.refl _) ⟨_, rfl⟩ (fun _ hw_ _ hN => O.loadAtF (G := entF) isAgg9 rfl rfl (h24.keep hw_) (O.nil hN)) (D.cast (v' := str s.1) rfl (D.on 8 rfl rfl (O.call call76 (args2 rfl rfl) (strcmp_spec r.1 s.1 _) ?_)))))
        rintro v_27 w15 ⟨rfl, hw_⟩
        replace hw_ := hw_.symm
        subst hw_
        refine O.nil ⟨(Le.refl _), ?_⟩
        have sp25_ : ∃ z, z = Jn.scmp r.1 s.1 := ⟨_, rfl⟩
        obtain ⟨z, hz9⟩ := sp25_
        refine D.cast (v' := .int .i64 z) (by rw [hz9]) (D.tk 9 rfl rfl rfl rfl (Le.refl _) ⟨pure _, rfl⟩ (fun _ hw_ _ hN => O.asg (O.nil hN)) (D.dn (hK21 _ _ (C.seqK fun K22 hK22 => C.region (O.mv (O.idx underlying22 sizeOf50 rfl s0_1 (hsa.keep e14) rfl (by simp) (fun a29 h29 => O.loadG (G := entF) isAgg50 sizeOf50 rfl h29 (O.cast (v' := .agg #[str r.1, slv r.2.1.1, slv r.2.1.2, slv r.2.2]) rfl ?_))))))))
        refine O.storeA (vs := [str r.1, slv r.2.1.1, slv r.2.1.2, slv r.2.2]) sizeOf50 rfl rfl rfl (by intro u hu; simp only [List.mem_cons, List.not_mem_nil, or_false] at hu; rcases hu with rfl | rfl | rfl | rfl <;> rfl) (h7.keep e14) (leB rfl) (fun w15 hs15 e15 z15 => O.nil (hK22 _ _ (C.seqK fun K23 hK23 => C.seqK fun K24 hK24 => C.region (O.mv (O.gtrI rfl rfl (O.nil (hK24 _ _ (C.condD rfl (fun c32 => ?_) (fun c32 => ?_)))))))))
        ·
         have hzb : Jn.BL y.1 x.1 := by rw [← hkxr, ← hkys]; exact (Jn.scmp_gt _ _).1 (by omega)
         have hP : Bt.merge la lb = (s.1, y.2) :: Bt.merge (x :: la2) lb2 ∧ (Bt.Ord (x :: la2) ∧ Bt.Ord lb2) ∧ (Bt.Mid 20000 (x :: la2) ∧ Bt.Mid 20000 lb2) ∧ Cn.big y.2 ∧ (x :: la2).length + lb2.length + 1 ≤ la.length + lb.length := ⟨by rw [hla, hlb, Bt.mrg_b hzb, hkys], ⟨hoaC, hob2⟩, ⟨hmaC, hmb2⟩, hby, by rw [List.length_cons]; omega⟩
         have hcb9 := ((hcb.keep e14).keepA e15)
         refine C.region (O.mv (O.idx underlying22 sizeOf50 rfl s1_1 ((hsb.keep e14).keepA e15) rfl (by simp) (fun a34 h34 => O.loadG (G := entF) isAgg50 sizeOf50 rfl h34 (O.cast (v' := .agg #[str s.1, slv s.2.1.1, slv s.2.1.2, slv s.2.2]) rfl (O.storeA (vs := [str s.1, slv s.2.1.1, slv s.2.1.2, slv s.2.2]) sizeOf50 rfl rfl rfl (by intro u hu; simp only [List.mem_cons, List.not_mem_nil, or_false] at hu; rcases hu with rfl | rfl | rfl | rfl <;> rfl) hs15 (leB rfl) (fun w16 hs16 e16 z16 => O.nil (hK23 _ _ (C.seqK fun K25 hK25 => C.seqK fun K26 hK26 => C.region (O.mv (O.eqlI rfl rfl (O.nil (hK26 _ _ ?_))))))))))))
         refine C.condD rfl (fun c37 => ?_) (fun c37 => ?_)
         ·
          have hze : x.1 = y.1 := by rw [← hkxr, ← hkys]; exact (Jn.scmp_zero _ _).1 (by omega)
          have hbj := Bt.join_big hmid hmiy (by omega) hgx hgy
          have hP : Bt.merge la lb = (r.1, Jn.join x.2 y.2) :: Bt.merge la2 lb2 ∧ (Bt.Ord la2 ∧ Bt.Ord lb2) ∧ (Bt.Mid 20000 la2 ∧ Bt.Mid 20000 lb2) ∧ Cn.big (Jn.join x.2 y.2) ∧ la2.length + lb2.length + 1 ≤ la.length + lb.length := ⟨by rw [hla, hlb, Bt.mrg_ab hze, hkxr], ⟨hoa2, hob2⟩, ⟨hma2, hmb2⟩, hbj, by omega⟩
          exfalso; omega
         ·
          refine C.skip (hK25 _ _ (C.seqK fun K27 hK27 => C.seqK fun K28 hK28 => C.region (O.mv (O.leqI rfl rfl (O.nil (hK28 _ _ (C.condD rfl (fun c56 => ?_) (fun c56 => ?_))))))))
          ·
           exfalso; omega
          ·
           refine C.skip (hK27 _ _ (C.seqK fun K29 hK29 => C.region (O.mv (O.geqI rfl rfl (O.nil (hK29 _ _ (C.condD rfl (fun c60 => ?_) (fun c60 => ?_))))))))
           ·
            refine C.region (O.mv ?_)
            have hb62 := Sl.sub (P := Tryz.prog) (1) ((s :: rb2).length) underlying22 sizeOf50 (by rfl) (((hsb.keep e14).keepA e15).keepA e16) (by simp) (Nat.le_refl _)
            obtain ⟨v62, hs62, hr62⟩ := hb62
            refine O.subR s1_1 hr62 (.inr ⟨_, _, rfl, rfl⟩) (.inl ⟨rfl, rfl⟩) ?_
            rw [List.take_length] at hs62
            replace hs62 : Sl entF.enc _ F2 v62 rb2 := hs62
            have het62 := ((((heb.keep e14).keepA e15).keepA e16)).tail
            refine O.asg (O.nil ?_)
            exact ⟨(Ext.nw (Ext.nw (Ext.nw (Ext.refl _ _) e14) e15) e16), rfl, rfl, ⟨_, _, _, _, _, _, _, _, _, _, _, s0_1, rfl, hs16, (((hsa.keep e14).keepA e15).keepA e16), (((hea.keep e14).keepA e15).keepA e16), hs62, het62, (((hcb9.keepA e16)).weak (fun j hj => by first | (have q9 := hF j hj; (try dsimp only); omega) | (have q9 := hF2 j hj; (try dsimp only); omega) | ((try dsimp only at hj); (try dsimp only); omega))), hP⟩⟩
           ·
            have hza : Jn.BL x.1 y.1 := by rw [← hkxr, ← hkys]; exact (Jn.scmp_lt _ _).1 (by omega)
            have hP : Bt.merge la lb = (r.1, x.2) :: Bt.merge la2 (y :: lb2) ∧ (Bt.Ord la2 ∧ Bt.Ord (y :: lb2)) ∧ (Bt.Mid 20000 la2 ∧ Bt.Mid 20000 (y :: lb2)) ∧ Cn.big x.2 ∧ la2.length + (y :: lb2).length + 1 ≤ la.length + lb.length := ⟨by rw [hla, hlb, Bt.mrg_a hza, hkxr], ⟨hoa2, hobC⟩, ⟨hma2, hmbC⟩, hbx, by rw [List.length_cons]; omega⟩
            exfalso; omega
        ·
         have t2 := (hca.keep e14).keepA e15
         have hca9 := t2
         refine C.skip (hK23 _ _ (C.seqK fun K30 hK30 => C.seqK fun K31 hK31 => C.region (O.mv (O.eqlI rfl rfl (O.nil (hK31 _ _ (C.condD rfl (fun c37 => ?_) (fun c37 => ?_))))))))
         ·
          have hze : x.1 = y.1 := by rw [← hkxr, ← hkys]; exact (Jn.scmp_zero _ _).1 (by omega)
          have hbj := Bt.join_big hmid hmiy (by omega) hgx hgy
          have hP : Bt.merge la lb = (r.1, Jn.join x.2 y.2) :: Bt.merge la2 lb2 ∧ (Bt.Ord la2 ∧ Bt.Ord lb2) ∧ (Bt.Mid 20000 la2 ∧ Bt.Mid 20000 lb2) ∧ Cn.big (Jn.join x.2 y.2) ∧ la2.length + lb2.length + 1 ≤ la.length + lb.length := ⟨by rw [hla, hlb, Bt.mrg_ab hze, hkxr], ⟨hoa2, hob2⟩, ⟨hma2, hmb2⟩, hbj, by omega⟩
          refine C.seqK fun K32 hK32 => C.draw (by kernel_rfl) fun w17 e17 => ?_
          have z17 := e17.size
          refine D.tk 0 rfl rfl rfl rfl (Le.refl _) ⟨pure _, rfl⟩ (fun _ hw_ _ hN => O.mv (O.nil hN)) ?_
          have t3 := (hsa.keep e14).keepA e15
          have sp26_ := Sl.at (i := 0) (P := Tryz.prog) underlying22 sizeOf50 rfl (t3.keep e17) (by simp)
          obtain ⟨a40, h40, hr40⟩ := sp26_
          refine D.tk 1 rfl rfl rfl rfl (Le.refl _) ⟨_, rfl⟩ (fun _ hw_ _ hN => O.idxR s0_1 rfl hr40 (O.nil hN)) (D.tk 2 rfl rfl rfl rfl (Le.refl _) ⟨_, rfl⟩ (fun _ hw_ _ hN => O.fieldAt underlying50 rfl sizeOf47 (by decide) rfl (O.nil hN)) (D.tk 3 rfl rfl rfl rfl (Le.refl _) ⟨_, rfl⟩ (fun _ hw_ _ hN => O.loadPart (G := entF) isAgg47 sizeOf47 (by decide) rfl (h40.keep hw_) (O.nil hN)) (D.cast (v' := .agg #[slv r.2.1.1, slv r.2.1.2, slv r.2.2]) rfl (D.tk 4 rfl rfl rfl rfl (Le.refl _) ⟨pure _, rfl⟩ (fun _ hw_ _ hN => O.mv (O.nil hN)) ?_))))
          have t4 := (hsb.keep e14).keepA e15
          have sp27_ := Sl.at (i := 0) (P := Tryz.prog) underlying22 sizeOf50 rfl (t4.keep e17) (by simp)
          obtain ⟨a44, h44, hr44⟩ := sp27_
          refine D.tk 5 rfl rfl rfl rfl (Le.refl _) ⟨_, rfl⟩ (fun _ hw_ _ hN => O.idxR s1_1 rfl hr44 (O.nil hN)) (D.tk 6 rfl rfl rfl rfl (Le.refl _) ⟨_, rfl⟩ (fun _ hw_ _ hN => O.fieldAt underlying50 rfl sizeOf47 (by decide) rfl (O.nil hN)) (D.tk 7 rfl rfl rfl rfl (Le.refl _) ⟨_, rfl⟩ (fun _ hw_ _ hN => O.loadPart (G := entF) isAgg47 sizeOf47 (by decide) rfl (h44.keep hw_) (O.nil hN)) (D.cast (v' := .agg #[slv s.2.1.1, slv s.2.1.2, slv s.2.2]) rfl (D.many [8, 12] (by kernel_rfl) (by decide) ⟨?_, ?_, trivial⟩))))
          ·
           refine D.stepU rfl rfl ?_
           have t5 := (hcb.keep e14).keepA e15
           refine O.call call33 (args2 rfl rfl) (join_spec (slv r.2.1.1) (slv r.2.1.2) (slv r.2.2) x.2 F (slv s.2.1.1) (slv s.2.1.2) (slv s.2.2) y.2 F2 _ ((t2.keep e17)).1 ((t2.keep e17)).2.1 ((t2.keep e17)).2.2 ((t5.keep e17)).1 ((t5.keep e17)).2.1 ((t5.keep e17)).2.2 (fun j hj => by have q1 := hF j hj; omega) (fun j hj => by have q1 := hF2 j hj; omega) hgx hgy hmid.2.2.1 hmiy.2.2.1 (Bt.Mid.tall hmid.2.2.2) (Bt.Mid.tall hmiy.2.2.2) (by have := hmid.1; have := hmiy.1; omega) (by have := hmid.2.1; have := hmiy.2.1; omega) (mx.keep (Ext.trans (Ext.nr (Ext.trans (Ext.trans e_1 e4) e14) e15) e17))) ?_
           rintro v_47 w18 ⟨e18, uav47, ubv47, ucv47, rfl, hxv47, hyv47, hzv47⟩
           have z18 := e18.size
           refine O.nil ⟨e18, ?_⟩
           have sp28_ := hxv47.slv
           obtain ⟨u1, sp28_⟩ := sp28_
           subst sp28_
           have sp29_ := hyv47.slv
           obtain ⟨u2, sp29_⟩ := sp29_
           subst sp29_
           have sp30_ := hzv47.sl.slv
           obtain ⟨u3, sp30_⟩ := sp30_
           subst sp30_
           have hcj : CartAt w18 _ ((u1, u2), u3) (Jn.join x.2 y.2) := ⟨hxv47.sl, hyv47.sl, hzv47.sl⟩
           refine D.tk 9 rfl rfl rfl rfl e18 ⟨pure _, rfl⟩ (fun _ hw_ _ hN => O.mv (O.nil hN)) (D.tk 10 rfl rfl rfl rfl e18 ⟨_, rfl⟩ (fun _ hw_ _ hN => O.extract rfl rfl (O.nil hN)) (D.tk 11 rfl rfl rfl rfl e18 ⟨_, rfl⟩ (fun _ hw_ _ hN => O.extract rfl rfl (O.nil hN)) (D.on 12 rfl rfl (O.alloc zeroValue47 (fun b9 w19 hb9 hz9 e19 => ?_)))))
           have z19 := e19.size
           have h9 := hz9.own
           have hl9 := h9.lt
           refine O.nil ⟨(Ext.trans e18 e19), D.on 13 rfl rfl (O.storeA (vs := [slv u1, slv u2, slv u3]) sizeOf47 rfl rfl rfl (by intro u hu; simp only [List.mem_cons, List.not_mem_nil, or_false] at hu; rcases hu with rfl | rfl | rfl <;> rfl) h9 (leB rfl) (fun w20 hs20 e20 z20 => O.nil ⟨(Ext.nr (Ext.trans e18 e19) e20), D.tk 14 rfl rfl rfl rfl (Ext.nr (Ext.trans e18 e19) e20) ⟨pure _, rfl⟩ (fun _ hw_ _ hN => O.asg (O.nil hN)) (D.dn (hK32 _ _ (C.seqK fun K33 hK33 => C.seqK fun K34 hK34 => C.region (O.mv (O.neqI rfl rfl (O.cast (v' := .bool false) (congrArg Value.bool (by exact decide_eq_false (by decide))) (O.nil (hK34 _ _ (C.condF rfl (C.skip ?_))))))))))⟩))⟩
           refine hK33 _ _ (C.region (O.loadOA isAgg47 sizeOf47 rfl hs20 (leB rfl) (O.fieldAd underlying50 rfl sizeOf47 (by decide) rfl (O.storeA (vs := [slv u1, slv u2, slv u3]) sizeOf47 rfl rfl rfl (by intro u hu; simp only [List.mem_cons, List.not_mem_nil, or_false] at hu; rcases hu with rfl | rfl | rfl <;> rfl) ((((hs15.keep e17).keep e18).keep e19).keepM e20 (by intro h; (try dsimp only at h); omega)) (leB rfl) (fun w21 hs21 e21 z21 => O.nil (hK30 _ _ (C.seqK fun K35 hK35 => C.seqK fun K36 hK36 => C.region (O.mv (O.leqI rfl rfl (O.nil (hK36 _ _ (C.condD rfl (fun c56 => ?_) (fun c56 => ?_)))))))))))))
           ·
            refine C.region (O.mv ?_)
            have hb58 := Sl.sub (P := Tryz.prog) (1) ((r :: ra2).length) underlying22 sizeOf50 (by rfl) (((((t3.keep e17).keep e18).keep e19).keepA e20).keepA e21) (by simp) (Nat.le_refl _)
            obtain ⟨v58, hs58, hr58⟩ := hb58
            refine O.subR s0_1 hr58 (.inr ⟨_, _, rfl, rfl⟩) (.inl ⟨rfl, rfl⟩) ?_
            rw [List.take_length] at hs58
            replace hs58 : Sl entF.enc _ F v58 ra2 := hs58
            have het58 := ((((((((hea.keep e14).keepA e15).keep e17).keep e18).keep e19).keepA e20).keepA e21)).tail
            refine O.asg (O.nil (hK35 _ _ (C.seqK fun K37 hK37 => C.region (O.mv (O.geqI rfl rfl (O.nil (hK37 _ _ (C.condD rfl (fun c60 => ?_) (fun c60 => ?_)))))))))
            ·
             refine C.region (O.mv ?_)
             have hb62 := Sl.sub (P := Tryz.prog) (1) ((s :: rb2).length) underlying22 sizeOf50 (by rfl) (((((t4.keep e17).keep e18).keep e19).keepA e20).keepA e21) (by simp) (Nat.le_refl _)
             obtain ⟨v62, hs62, hr62⟩ := hb62
             refine O.subR s1_1 hr62 (.inr ⟨_, _, rfl, rfl⟩) (.inl ⟨rfl, rfl⟩) ?_
             rw [List.take_length] at hs62
             replace hs62 : Sl entF.enc _ F2 v62 rb2 := hs62
             have het62 := ((((((((heb.keep e14).keepA e15).keep e17).keep e18).keep e19).keepA e20).keepA e21)).tail
             refine O.asg (O.nil ?_)
             exact ⟨(Ext.nw (Ext.nw (Ext.nw (Ext.nw (Ext.nw (Ext.nw (Ext.nw (Ext.refl _ _) e14) e15) e17) e18) e19) e20) e21), rfl, rfl, ⟨_, _, _, _, _, _, _, _, _, _, _, rfl, rfl, hs21, hs58, het58, hs62, het62, (((((hcj.keep e19).keepA e20).keepA e21)).weak (fun j hj => by first | (have q9 := hF j hj; (try dsimp only); omega) | (have q9 := hF2 j hj; (try dsimp only); omega) | ((try dsimp only at hj); (try dsimp only); omega))), hP⟩⟩
            ·
             have hza : Jn.BL x.1 y.1 := by rw [← hkxr, ← hkys]; exact (Jn.scmp_lt _ _).1 (by omega)
             have hP : Bt.merge la lb = (r.1, x.2) :: Bt.merge la2 (y :: lb2) ∧ (Bt.Ord la2 ∧ Bt.Ord (y :: lb2)) ∧ (Bt.Mid 20000 la2 ∧ Bt.Mid 20000 (y :: lb2)) ∧ Cn.big x.2 ∧ la2.length + (y :: lb2).length + 1 ≤ la.length + lb.length := ⟨by rw [hla, hlb, Bt.mrg_a hza, hkxr], ⟨hoa2, hobC⟩, ⟨hma2, hmbC⟩, hbx, by rw [List.length_cons]; omega⟩
             exfalso; omega
           ·
            exfalso; omega
          ·
           refine D.stepU rfl rfl (O.alloc zeroValue47 (fun b9 w22 hb9 hz9 e22 => ?_))
           have z22 := e22.size
           have h9 := hz9.own
           have hl9 := h9.lt
           refine O.nil ⟨e22, D.on 8 rfl rfl ?_⟩
           have t6 := (hcb.keep e14).keepA e15
           have t7 := ((t2.keep e17).keep e22)
           have t8 := ((t6.keep e17).keep e22)
           refine O.call call33 (args2 rfl rfl) (join_spec (slv r.2.1.1) (slv r.2.1.2) (slv r.2.2) x.2 F (slv s.2.1.1) (slv s.2.1.2) (slv s.2.2) y.2 F2 _ t7.1 t7.2.1 t7.2.2 t8.1 t8.2.1 t8.2.2 (fun j hj => by have q1 := hF j hj; omega) (fun j hj => by have q1 := hF2 j hj; omega) hgx hgy hmid.2.2.1 hmiy.2.2.1 (Bt.Mid.tall hmid.2.2.2) (Bt.Mid.tall hmiy.2.2.2) (by have := hmid.1; have := hmiy.1; omega) (by have := hmid.2.1; have := hmiy.2.1; omega) (mx.keep (Ext.trans (Ext.trans (Ext.nr (Ext.trans (Ext.trans e_1 e4) e14) e15) e17) e22))) ?_
           rintro v_47 w23 ⟨e23, uav47, ubv47, ucv47, rfl, hxv47, hyv47, hzv47⟩
           have z23 := e23.size
           have t9 := Ext.trans e22 e23
           refine O.nil ⟨t9, ?_⟩
           have sp31_ := hxv47.slv
           obtain ⟨u1, sp31_⟩ := sp31_
           subst sp31_
           have sp32_ := hyv47.slv
           obtain ⟨u2, sp32_⟩ := sp32_
           subst sp32_
           have sp33_ := hzv47.sl.slv
           obtain ⟨u3, sp33_⟩ := sp33_
           subst sp33_
           have hcj : CartAt w23 _ ((u1, u2), u3) (Jn.join x.2 y.2) := ⟨hxv47.sl, hyv47.sl, hzv47.sl⟩
           refine D.tk 9 rfl rfl rfl rfl t9 ⟨pure _, rfl⟩ (fun _ hw_ _ hN => O.mv (O.nil hN)) (D.tk 10 rfl rfl rfl rfl t9 ⟨_, rfl⟩ (fun _ hw_ _ hN => O.extract rfl rfl (O.nil hN)) (D.tk 11 rfl rfl rfl rfl t9 ⟨_, rfl⟩ (fun _ hw_ _ hN => O.extract rfl rfl (O.nil hN)) (D.on 13 rfl rfl (O.storeA (vs := [slv u1, slv u2, slv u3]) sizeOf47 rfl rfl rfl (by intro u hu; simp only [List.mem_cons, List.not_mem_nil, or_false] at hu; rcases hu with rfl | rfl | rfl <;> rfl) (h9.keep e23) (leB rfl) (fun w24 hs24 e24 z24 => O.nil ⟨(Ext.nr t9 e24), D.tk 14 rfl rfl rfl rfl (Ext.nr t9 e24) ⟨pure _, rfl⟩ (fun _ hw_ _ hN => O.asg (O.nil hN)) (D.dn (hK32 _ _ ?_))⟩)))))
           refine C.seqK fun K38 hK38 => C.seqK fun K39 hK39 => C.region (O.mv (O.neqI rfl rfl (O.cast (v' := .bool false) (congrArg Value.bool (by exact decide_eq_false (by decide))) (O.nil (hK39 _ _ (C.condF rfl (C.skip (hK38 _ _ (C.region (O.loadOA isAgg47 sizeOf47 rfl hs24 (leB rfl) (O.fieldAd underlying50 rfl sizeOf47 (by decide) rfl ?_)))))))))))
           refine O.storeA (vs := [slv u1, slv u2, slv u3]) sizeOf47 rfl rfl rfl (by intro u hu; simp only [List.mem_cons, List.not_mem_nil, or_false] at hu; rcases hu with rfl | rfl | rfl <;> rfl) ((((hs15.keep e17).keep e22).keep e23).keepM e24 (by intro h; (try dsimp only at h); omega)) (leB rfl) (fun w25 hs25 e25 z25 => O.nil (hK30 _ _ (C.seqK fun K40 hK40 => C.seqK fun K41 hK41 => C.region (O.mv (O.leqI rfl rfl (O.nil (hK41 _ _ (C.condD rfl (fun c56 => ?_) (fun c56 => ?_)))))))))
           ·
            refine C.region (O.mv ?_)
            have hb58 := Sl.sub (P := Tryz.prog) (1) ((r :: ra2).length) underlying22 sizeOf50 (by rfl) (((((t3.keep e17).keep e22).keep e23).keepA e24).keepA e25) (by simp) (Nat.le_refl _)
            obtain ⟨v58, hs58, hr58⟩ := hb58
            refine O.subR s0_1 hr58 (.inr ⟨_, _, rfl, rfl⟩) (.inl ⟨rfl, rfl⟩) ?_
            rw [List.take_length] at hs58
            replace hs58 : Sl entF.enc _ F v58 ra2 := hs58
            have het58 := ((((((((hea.keep e14).keepA e15).keep e17).keep e22).keep e23).keepA e24).keepA e25)).tail
            refine O.asg (O.nil (hK40 _ _ (C.seqK fun K42 hK42 => C.region (O.mv (O.geqI rfl rfl (O.nil (hK42 _ _ (C.condD rfl (fun c60 => ?_) (fun c60 => ?_)))))))))
            ·
             refine C.region (O.mv ?_)
             have hb62 := Sl.sub (P := Tryz.prog) (1) ((s :: rb2).length) underlying22 sizeOf50 (by rfl) (((((t4.keep e17).keep e22).keep e23).keepA e24).keepA e25) (by simp) (Nat.le_refl _)
             obtain ⟨v62, hs62, hr62⟩ := hb62
             refine O.subR s1_1 hr62 (.inr ⟨_, _, rfl, rfl⟩) (.inl ⟨rfl, rfl⟩) ?_
             rw [List.take_length] at hs62
             replace hs62 : Sl entF.enc _ F2 v62 rb2 := hs62
             have het62 := ((((((((heb.keep e14).keepA e15).keep e17).keep e22).keep e23).keepA e24).keepA e25)).tail
             refine O.asg (O.nil ?_)
             exact ⟨(Ext.nw (Ext.nw (Ext.nw (Ext.nw (Ext.nw (Ext.nw (Ext.nw (Ext.refl _ _) e14) e15) e17) e22) e23) e24) e25), rfl, rfl, ⟨_, _, _, _, _, _, _, _, _, _, _, rfl, rfl, hs25, hs58, het58, hs62, het62, ((((hcj.keepA e24).keepA e25)).weak (fun j hj => by first | (have q9 := hF j hj; (try dsimp only); omega) | (have q9 := hF2 j hj; (try dsimp only); omega) | ((try dsimp only at hj); (try dsimp only); omega))), hP⟩⟩
            ·
             have hza : Jn.BL x.1 y.1 := by rw [← hkxr, ← hkys]; exact (Jn.scmp_lt _ _).1 (by omega)
             have hP : Bt.merge la lb = (r.1, x.2) :: Bt.merge la2 (y :: lb2) ∧ (Bt.Ord la2 ∧ Bt.Ord (y :: lb2)) ∧ (Bt.Mid 20000 la2 ∧ Bt.Mid 20000 (y :: lb2)) ∧ Cn.big x.2 ∧ la2.length + (y :: lb2).length + 1 ≤ la.length + lb.length := ⟨by rw [hla, hlb, Bt.mrg_a hza, hkxr], ⟨hoa2, hobC⟩, ⟨hma2, hmbC⟩, hbx, by rw [List.length_cons]; omega⟩
             exfalso; omega
           ·
            exfalso; omega
         ·
          refine C.skip (hK30 _ _ (C.seqK fun K43 hK43 => C.seqK fun K44 hK44 => C.region (O.mv (O.leqI rfl rfl (O.nil (hK44 _ _ (C.condD rfl (fun c56 => ?_) (fun c56 => ?_))))))))
          ·
           refine C.region (O.mv ?_)
           have hb58 := Sl.sub (P := Tryz.prog) (1) ((r :: ra2).length) underlying22 sizeOf50 (by rfl) ((hsa.keep e14).keepA e15) (by simp) (Nat.le_refl _)
           obtain ⟨v58, hs58, hr58⟩ := hb58
           refine O.subR s0_1 hr58 (.inr ⟨_, _, rfl, rfl⟩) (.inl ⟨rfl, rfl⟩) ?_
           rw [List.take_length] at hs58
           replace hs58 : Sl entF.enc _ F v58 ra2 := hs58
           have het58 := (((hea.keep e14).keepA e15)).tail
           refine O.asg (O.nil (hK43 _ _ (C.seqK fun K45 hK45 => C.region (O.mv (O.geqI rfl rfl (O.nil (hK45 _ _ (C.condD rfl (fun c60 => ?_) (fun c60 => ?_)))))))))
           ·
            exfalso; omega
           ·
            have hza : Jn.BL x.1 y.1 := by rw [← hkxr, ← hkys]; exact (Jn.scmp_lt _ _).1 (by omega)
            have hP : Bt.merge la lb = (r.1, x.2) :: Bt.merge la2 (y :: lb2) ∧ (Bt.Ord la2 ∧ Bt.Ord (y :: lb2)) ∧ (Bt.Mid 20000 la2 ∧ Bt.Mid 20000 (y :: lb2)) ∧ Cn.big x.2 ∧ la2.length + (y :: lb2).length + 1 ≤ la.length + lb.length := ⟨by rw [hla, hlb, Bt.mrg_a hza, hkxr], ⟨hoa2, hobC⟩, ⟨hma2, hmbC⟩, hbx, by rw [List.length_cons]; omega⟩
            refine C.skip ?_
            exact ⟨(Ext.nw (Ext.nw (Ext.refl _ _) e14) e15), rfl, rfl, ⟨_, _, _, _, _, _, _, _, _, _, _, rfl, s1_1, hs15, hs58, het58, ((hsb.keep e14).keepA e15), ((heb.keep e14).keepA e15), ((hca9).weak (fun j hj => by first | (have q9 := hF j hj; (try dsimp only); omega) | (have q9 := hF2 j hj; (try dsimp only); omega) | ((try dsimp only at hj); (try dsimp only); omega))), hP⟩⟩
          ·
           exfalso; omega
     ·
      rintro f_3 w26 ⟨e_3, s6_3, s7_3, ⟨va3, vb3, ra3, rb3, la3, lb3, ck, q1, q2, q3, cc, s0_3, s1_3, q0_3, q1_3, q2_3, q3_3, q4_3, q5_3, q6_3⟩⟩
      have z_3 := e_3.size
      obtain ⟨hmg2, ho3, hm3, hbc, hlen3⟩ := q6_3
      have sp34_ : ∃ n, n = w26.heap.size := ⟨_, rfl⟩
      obtain ⟨w0_, hw0_⟩ := sp34_
      have hl7w := (q0_3).lt
      refine hK13 _ _ (hK12 _ _ (C.seqK fun K46 hK46 => C.region (O.fieldAd underlying50 rfl sizeOf47 (by decide) s7_3 (O.loadOA isAgg47 sizeOf47 rfl q0_3 (leB rfl) (O.call call77 (args1 rfl) (ccopy_spec (slv q1) (slv q2) (slv q3) cc _ _ (q5_3).1 (q5_3).2.1 (q5_3).2.2 hbc.2.2.1 (fun x hx => (hbc.2.2.2 x hx).2) hbc.1 hbc.2.1) ?_)))))
      rintro v_92 w27 ⟨e27, uav92, ubv92, ucv92, rfl, hxv92, hyv92, hzv92⟩
      have z27 := e27.size
      have sp35_ := hxv92.slv
      obtain ⟨c1, sp35_⟩ := sp35_
      subst sp35_
      have sp36_ := hyv92.slv
      obtain ⟨c2, sp36_⟩ := sp36_
      subst sp36_
      have sp37_ := hzv92.sl.slv
      obtain ⟨c3, sp37_⟩ := sp37_
      subst sp37_
      have sp38_ : ∃ n, n = w27.heap.size := ⟨_, rfl⟩
      obtain ⟨wa, hwa⟩ := sp38_
      have hcf : CartF 112 117 114 w27 (fun j => w0_ ≤ j ∧ j < wa) ((c1, c2), c3) cc := ⟨hxv92.weak (by intro j hj; (try dsimp only at hj); (try dsimp only); omega), hyv92.weak (by intro j hj; (try dsimp only at hj); (try dsimp only); omega), hzv92.weak (by intro j hj; (try dsimp only at hj); (try dsimp only); omega)⟩
      refine O.fieldAd underlying50 rfl sizeOf47 (by decide) s7_3 (O.storeA (vs := [slv c1, slv c2, slv c3]) sizeOf47 rfl rfl rfl (by intro u hu; simp only [List.mem_cons, List.not_mem_nil, or_false] at hu; rcases hu with rfl | rfl | rfl <;> rfl) (q0_3.keep e27) (leB rfl) (fun w28 hs28 e28 z28 => O.nil (hK46 _ _ (C.region (O.mv (O.loadOA isAgg50 sizeOf50 s7_3 hs28 (leB rfl) (O.litG (G := entF) [(ck, (c1, c2), c3)] underlying22 ti50 ts50 tz50 rfl (by decide) (by decide) rfl (fun b96 w29 hb96 hz96 e29 => ?_))))))))
      have z29 := e29.size
      have h96 := hz96.own
      have hq96 := Sl.litG (n := 1) h96 rfl (by unfold maxLen; omega)
      have t10 := ((r4_1.keep e4).keepA e_3).keep e27
      refine O.appG (G := entF) underlying22 ti50 tz50 ts50 rfl (Eq.trans s6_3 s6_1) rfl ((t10.keepA e28).keep e29) hq96 (by rw [tb50]; simp; omega) (by unfold maxLen; simp; omega) (fun v97 gg97 w30 h97 hg97 e30 hw97 => ?_)
      have e30m := e30.mono (M' := fun k => k = _) (fun k _ hk => ((t10.keepA e28).keep e29).2.1 k hk)
      have z30 := e30.size
      have hgl97 := h97.2.2
      have hob97 : ∀ k, bk v97 k → n9 ≤ k := fun k hk => by
       rcases hw97 k hk with q | q
       ·exact hob k q
       ·omega
      have hg97 : n9 ≤ gg97 := hob97 _ (h97.bk (by simp))
      have hgg97 := (hw97 _ (h97.bk (by simp))).imp (hogu _) id
      refine O.asg (O.nil (hK10 _ _ ?_))
      refine ⟨(va3, vb3, ra3, rb3, la3, lb3, v97, gg97, raw3 ++ [(ck, (c1, c2), c3)], done ++ [(ck, cc)], wa), ⟨s0_3, s1_3, rfl, (Ext.new (Ext.trans (Ext.new (Ext.trans (Ext.new (Ext.trans e_1 e4) e_3 (by intro i hi h; (try dsimp only at h); omega)) e27) e28 (by intro i hi h; (try dsimp only at h); omega)) e29) e30 (by intro i hi h; have := hob i h; omega)), ((((q1_3.keep e27).keepM e28 (by intro j hj h; first | (have q1 := hF j hj; (try dsimp only at h); omega) | (have q1 := hF2 j hj; (try dsimp only at h); omega) | ((try dsimp only at hj); (try dsimp only at h); omega))).keep e29).keepM e30 (by intro j hj h; have q2 := hob j h; have q3 := hogu j h; first | (have q1 := hF j hj; omega) | (have q1 := hF2 j hj; omega) | ((try dsimp only at hj); omega))), ((((q2_3.keep e27).keepM e28 (by intro j hj h; first | (have q1 := hF j hj; (try dsimp only at h); omega) | (have q1 := hF2 j hj; (try dsimp only at h); omega) | ((try dsimp only at hj); (try dsimp only at h); omega))).keep e29).keepM e30 (by intro j hj h; have q2 := hob j h; have q3 := hogu j h; first | (have q1 := hF j hj; omega) | (have q1 := hF2 j hj; omega) | ((try dsimp only at hj); omega))), ((((q3_3.keep e27).keepM e28 (by intro j hj h; first | (have q1 := hF j hj; (try dsimp only at h); omega) | (have q1 := hF2 j hj; (try dsimp only at h); omega) | ((try dsimp only at hj); (try dsimp only at h); omega))).keep e29).keepM e30 (by intro j hj h; have q2 := hob j h; have q3 := hogu j h; first | (have q1 := hF j hj; omega) | (have q1 := hF2 j hj; omega) | ((try dsimp only at hj); omega))), ((((q4_3.keep e27).keepM e28 (by intro j hj h; first | (have q1 := hF j hj; (try dsimp only at h); omega) | (have q1 := hF2 j hj; (try dsimp only at h); omega) | ((try dsimp only at hj); (try dsimp only at h); omega))).keep e29).keepM e30 (by intro j hj h; have q2 := hob j h; have q3 := hogu j h; first | (have q1 := hF j hj; omega) | (have q1 := hF2 j hj; omega) | ((try dsimp only at hj); omega))), h97, (((((((((r5_1.keep e4).keepM e_3 (by intro k hG h1 h2 h; (try dsimp only at h); omega)).keep e27).keepM e28 (by intro k hG h1 h2 h; (try dsimp only at h); omega)).keep e29).keepM e30 (by intro k hG h1 h2 h; exact hG (hogu k h)))).weak (fun j h1 h2 h3 => by (try dsimp only); omega)).snoc (x := (ck, cc)) (hi' := wa) (by omega) rfl (((((hcf.keepM e28 (by intro j hj h; first | (have q1 := hF j hj; (try dsimp only at h); omega) | (have q1 := hF2 j hj; (try dsimp only at h); omega) | ((try dsimp only at hj); (try dsimp only at h); omega))).keep e29).keepM e30 (by intro j hj h; have q2 := hob j h; have q3 := hogu j h; first | (have q1 := hF j hj; omega) | (have q1 := hF2 j hj; omega) | ((try dsimp only at hj); omega)))).weak (fun j hj => by (try dsimp only at hj); (try dsimp only); omega))), ?_⟩, by show la3.length + lb3.length < la.length + lb.length; omega⟩
      exact ⟨by rw [hmg, hmg2, List.append_assoc]; rfl, ho3, hm3, hob97, by omega, by rw [List.length_append, List.length_singleton]; omega⟩
end Go.Proofs.YtpbcafkcfobngaaGreatDoor
end
section
namespace Go.Proofs.YtpbcafkcfobngaaGreatDoor
open Go.Pn Go.RowKit Go.Proofs _root_.Go.Proofs.Tryz
attribute [local irreducible] O C D
set_option maxHeartbeats 1000000 in
theorem encodes_spec (v0 : Value) (raw : List EntR) (l : List EntT) (F : Nat → Prop) (v1 : Value) (ws : List UInt8) (F3 : Nat → Prop) (e : Int) (w : World) (hr : Sl entF.enc w F v0 raw) (he : EntL w F raw l) (hF : ∀ k, F k → k < w.heap.size) (hB : Bt.Big l) (mx : Mx w) (hlen : Bt.valid l = true → (Bt.enc l).length ≤ 9000000) (hw : Sl byteE w F3 v1 ws) (hrel : ((Bt.valid l = true ∧ ws = Bt.enc l ∧ e = 0) ∨ (Bt.valid l = false ∧ ws = [] ∧ e = 2))) :
 Ret Tryz.prog 20 #[v0, v1, .int .i64 (e)] w (fun v w' => v = .bool true ∧ Le w w') := by
 refine enT [v0, v1, .int .i64 (e)] 24 func20 rfl rfl (C.seqK fun K1 hK1 => C.region (O.asg (O.nil (hK1 _ _ (C.seqK fun K2 hK2 => C.region (O.mv (O.call call36 (args1 rfl) (bencode_spec v0 raw l F _ hr he (fun j hj => by have q1 := hF j hj; omega) hB mx hlen) ?_)))))))
 rintro v_11 w1 ⟨rv11, rfl, hv11, e1⟩
 have z1 := e1.size
 have hb9 : (if Bt.valid l = true then Bt.enc l else []) = ws ∧ (if Bt.valid l = true then (0 : Int) else 2) = e := by
  rcases hrel with ⟨h1, h2, h3⟩ | ⟨h1, h2, h3⟩
  ·rw [if_pos h1, if_pos h1, h2, h3]; exact ⟨rfl, rfl⟩
  ·rw [if_neg (by rw [h1]; decide), if_neg (by rw [h1]; decide), h2, h3]; exact ⟨rfl, rfl⟩
 rw [hb9.1] at hv11
 have h11s := hv11.sl
 refine O.mv (O.extract rfl rfl (O.extract rfl rfl (O.cast (v' := .int .i64 e) (congrArg (Value.int .i64) hb9.2) (O.asg (O.asg (O.nil (hK2 _ _ (C.seqK fun K3 hK3 => C.region (O.mv (O.bytesS underlying30 underlying5 underlying9 rfl h11s (O.mv (O.bytesS underlying30 underlying5 underlying9 rfl (hw.keep e1) (O.eqlS rfl rfl (O.cast (v' := .bool true) (congrArg Value.bool (by exact decide_eq_true rfl)) (O.mv (O.yes rfl rfl (O.mv (O.yes rfl rfl (O.mv (O.yes rfl rfl (O.eqlI rfl rfl (O.cast (v' := .bool true) (congrArg Value.bool (by exact decide_eq_true rfl)) (O.pickT rfl (O.asg (O.nil (hK3 _ _ (C.ret (Outs.one rfl rfl ?_))))))))))))))))))))))))))))
 exact ⟨rfl, e1⟩
set_option maxHeartbeats 1000000 in
theorem decodes_spec (v0 : Value) (p : List UInt8) (F : Nat → Prop) (v1 : Value) (raw2 : List EntR) (l2 : List EntT) (F2 : Nat → Prop) (e : Int) (w : World) (hl : Sl byteE w F v0 p) (hL : p.length ≤ 1000000) (hF : ∀ j, F j → j < w.heap.size) (mx : Mx w) (hr2 : Sl entF.enc w F2 v1 raw2) (he2 : EntL w F2 raw2 l2) (hF2 : ∀ k, F2 k → k < w.heap.size) (hrel : Bt.DecRes p l2 e) :
 Ret Tryz.prog 31 #[v0, v1, .int .i64 (e)] w (fun v w' => v = .bool true ∧ Le w w') := by
 refine enT [v0, v1, .int .i64 (e)] 22 func31 rfl rfl (C.seqK fun K1 hK1 => C.region (O.asg (O.nil (hK1 _ _ (C.seqK fun K2 hK2 => C.region (O.mv (O.call call37 (args1 rfl) (bdecode_spec v0 p F _ hl hL (fun j hj => by have q1 := hF j hj; omega) mx) ?_)))))))
 rintro v_11 w1 ⟨uv11, esv11, env11, rfl, hv11, hBv11, hRv11, e1⟩
 have z1 := e1.size
 have hq9 := hRv11.uniq hrel
 rw [hq9.1] at hv11
 have hv12 := hv11.raws
 obtain ⟨raw11, hra, hea⟩ := hv12
 refine O.mv (O.extract rfl rfl (O.extract rfl rfl (O.cast (v' := .int .i64 e) (congrArg (Value.int .i64) hq9.2) (O.asg (O.asg (O.nil (hK2 _ _ (C.seqK fun K3 hK3 => C.region (O.mv (O.mv (O.call call21 (args2 rfl rfl) (sameL_spec uv11 raw11 l2 _ v1 raw2 l2 F2 _ hra hea (hr2.keep e1) (he2.keep e1) (fun j hj => by have q9 := hj.2; omega) (fun j hj => by have q1 := hF2 j hj; omega)) ?_)))))))))))
 rintro v_16 w2 ⟨rfl, e2⟩
 have z2 := e2.size
 refine O.cast (v' := .bool true) (congrArg Value.bool (by exact decide_eq_true rfl)) (O.mv (O.yes rfl rfl (O.mv (O.yes rfl rfl (O.mv (O.yes rfl rfl (O.eqlI rfl rfl (O.cast (v' := .bool true) (congrArg Value.bool (by exact decide_eq_true rfl)) (O.pickT rfl (O.asg (O.nil (hK3 _ _ (C.ret (Outs.one rfl rfl ?_))))))))))))))
 exact ⟨rfl, (Ext.trans e1 e2)⟩
set_option maxHeartbeats 1000000 in
theorem merges_spec (v0 : Value) (raw : List EntR) (l : List EntT) (F : Nat → Prop) (v1 : Value) (raw2 : List EntR) (l2 : List EntT) (F2 : Nat → Prop) (v2 : Value) (raw3 : List EntR) (l3 : List EntT) (F3 : Nat → Prop) (e : Int) (w : World) (hr : Sl entF.enc w F v0 raw) (he : EntL w F raw l) (hr2 : Sl entF.enc w F2 v1 raw2) (he2 : EntL w F2 raw2 l2) (hr3 : Sl entF.enc w F3 v2 raw3) (he3 : EntL w F3 raw3 l3) (hF : ∀ k, F k → k < w.heap.size) (hF2 : ∀ k, F2 k → k < w.heap.size) (hF3 : ∀ k, F3 k → k < w.heap.size) (hB : Bt.Big l) (hB2 : Bt.Big l2) (hM : Bt.Mid 20000 l) (hM2 : Bt.Mid 20000 l2) (hn : l.length + l2.length ≤ 1000000) (mx : Mx w) (hrel : ((Bt.ordered l = true ∧ Bt.ordered l2 = true ∧ e = 0 ∧ l3 = Bt.merge l l2) ∨ ((Bt.ordered l = false ∨ Bt.ordered l2 = false) ∧ e = 2 ∧ l3 = []))) :
 Ret Tryz.prog 32 #[v0, v1, v2, .int .i64 (e)] w (fun v w' => v = .bool true ∧ Le w w') := by
 refine enT [v0, v1, v2, .int .i64 (e)] 25 func32 rfl rfl (C.seqK fun K1 hK1 => C.region (O.asg (O.nil (hK1 _ _ (C.seqK fun K2 hK2 => C.region (O.mv (O.mv (O.call call34 (args2 rfl rfl) (bmerge_spec v0 raw l F v1 raw2 l2 F2 _ hr he hr2 he2 (fun j hj => by have q1 := hF j hj; omega) (fun j hj => by have q1 := hF2 j hj; omega) hB hB2 hM hM2 hn mx) ?_))))))))
 rintro v_14 w1 ⟨uv14, e9v14, esv14, uov14, rfl, hkv14, hv14, hRv14, e1⟩
 have z1 := e1.size
 have hq9 := Bt.mrel_uniq hRv14 hrel
 rw [hq9.1] at hv14
 have hv15 := hv14.clips hkv14
 obtain ⟨raw14, hra, hea⟩ := hv15
 refine O.mv (O.extract rfl rfl (O.extract rfl rfl (O.cast (v' := .int .i64 e) (congrArg (Value.int .i64) hq9.2) (O.asg (O.asg (O.nil (hK2 _ _ (C.seqK fun K3 hK3 => C.region (O.mv (O.mv (O.call call21 (args2 rfl rfl) (sameL_spec uv14 raw14 l3 _ v2 raw3 l3 F3 _ hra hea (hr3.keep e1) (he3.keep e1) (fun j hj => by have q9 := hj.2; omega) (fun j hj => by have q1 := hF3 j hj; omega)) ?_)))))))))))
 rintro v_19 w2 ⟨rfl, e2⟩
 have z2 := e2.size
 refine O.cast (v' := .bool true) (congrArg Value.bool (by exact decide_eq_true rfl)) (O.mv (O.yes rfl rfl (O.mv (O.yes rfl rfl (O.mv (O.yes rfl rfl (O.eqlI rfl rfl (O.cast (v' := .bool true) (congrArg Value.bool (by exact decide_eq_true rfl)) (O.pickT rfl (O.asg (O.nil (hK3 _ _ (C.ret (Outs.one rfl rfl ?_))))))))))))))
 exact ⟨rfl, (Ext.trans e1 e2)⟩
end Go.Proofs.YtpbcafkcfobngaaGreatDoor
end
section
namespace Go.Proofs.YtpbcafkcfobngaaGreatDoor
open Go.Pn Go.RowKit Go.Proofs _root_.Go.Proofs.Tryz
attribute [local irreducible] O C D
set_option maxHeartbeats 8000000 in
theorem bknown_spec (w : World) (mx : Mx w) :
 Ret Tryz.prog 16 #[] w (fun v w' => v = .bool true ∧ Le w w') := by
 obtain ⟨ie50, ti50, ts50, tb50, tz50⟩ := inf50
 obtain ⟨ie5, ti5, ts5, tb5, tz5⟩ := inf5
 refine enT [] 112 func16 rfl rfl (C.seqK fun K1 hK1 => C.region (O.asg (O.nil (hK1 _ _ (C.seqK fun K2 hK2 => C.region (O.build (cells := #[str Bt.kx, .slice none 0 0, .slice none 0 0, .slice none 0 0]) rfl (by kernel_rfl) (O.litG (G := entF) [ent0 Bt.kx] underlying22 ti50 ts50 tz50 rfl (by decide) (by decide) rfl (fun b10 w1 hb10 hz10 e1 => ?_))))))))
 have z1 := e1.size
 have h10 := hz10.own
 have hq10 := Sl.litG (n := 1) h10 rfl (by unfold maxLen; omega)
 have hl10 := h10.lt
 refine O.asg (O.nil (hK2 _ _ (C.seqK fun K3 hK3 => C.draw (by kernel_rfl) fun w2 e2 => ?_)))
 have z2 := e2.size
 refine D.tk 0 rfl rfl rfl rfl (Le.refl _) ⟨pure _, rfl⟩ (fun _ hw_ _ hN => O.mv (O.nil hN)) ?_
 have sp1_ := Sl.at (i := 0) (P := Tryz.prog) underlying22 sizeOf50 rfl (hq10.keep e2) (by simp)
 obtain ⟨a12, h12, hr12⟩ := sp1_
 refine D.tk 1 rfl rfl rfl rfl (Le.refl _) ⟨_, rfl⟩ (fun _ hw_ _ hN => O.idxR rfl rfl hr12 (O.nil hN)) (D.tk 2 rfl rfl rfl rfl (Le.refl _) ⟨_, rfl⟩ (fun _ hw_ _ hN => O.loadG (G := entF) isAgg50 sizeOf50 rfl (h12.keep hw_) (O.nil hN)) (D.cast (v' := .agg (entF.e (ent0 Bt.kx)).toArray) rfl (D.tk 3 rfl rfl rfl rfl (Le.refl _) ⟨pure _, rfl⟩ (fun _ hw_ _ hN => O.mv (O.nil hN)) ?_)))
 have sp2_ := Sl.at (i := 0) (P := Tryz.prog) underlying22 sizeOf50 rfl (hq10.keep e2) (by simp)
 obtain ⟨a15, h15, hr15⟩ := sp2_
 refine D.tk 4 rfl rfl rfl rfl (Le.refl _) ⟨_, rfl⟩ (fun _ hw_ _ hN => O.idxR rfl rfl hr15 (O.nil hN)) (D.tk 5 rfl rfl rfl rfl (Le.refl _) ⟨_, rfl⟩ (fun _ hw_ _ hN => O.loadG (G := entF) isAgg50 sizeOf50 rfl (h15.keep hw_) (O.nil hN)) (D.cast (v' := .agg (entF.e (ent0 Bt.kx)).toArray) rfl (D.on 6 rfl rfl (O.litG (G := entF) [ent0 Bt.kx, ent0 Bt.kx] underlying22 ti50 ts50 tz50 rfl (by decide) (by decide) rfl (fun b17 w3 hb17 hz17 e3 => ?_)))))
 have z3 := e3.size
 have h17 := hz17.own
 have hq17 := Sl.litG (n := 2) h17 rfl (by unfold maxLen; omega)
 refine O.nil ⟨e3, ?_⟩
 have hl17 := h17.lt
 refine D.tk 7 rfl rfl rfl rfl e3 ⟨pure _, rfl⟩ (fun _ hw_ _ hN => O.asg (O.nil hN)) (D.dn (hK3 _ _ (C.seqK fun K4 hK4 => C.region ?_)))
 have t0 := (mx.keep e1).keep e2
 refine O.call call36 (args1 rfl) (bencode_spec (.slice none 0 0) [] [] (fun _ => False) _ (Sl.nil _ _ _) EntL.nil (fun _ h => h.elim) (fun x hx => by cases hx) (t0.keep e3) (fun _ => by rw [Bt.enc_nil_len]; omega)) ?_
 rintro v_19 w4 ⟨rv19, rfl, hv19, e4⟩
 have z4 := e4.size
 rw [if_pos Bt.valid_nil] at hv19
 have h19s := hv19.sl
 refine O.mv (O.extract rfl rfl (O.extract rfl rfl (O.cast (v' := .int .i64 0) (congrArg (Value.int .i64) (if_pos Bt.valid_nil)) (O.asg (O.asg (O.nil (hK4 _ _ (C.seqK fun K5 hK5 => C.region (O.mv ?_)))))))))
 have t1 := (t0.keep e3).keep e4
 have t2 := (hq10.keep e2).keep e3
 refine O.call call36 (args1 rfl) (bencode_spec (.slice (some ⟨b10, 0, none⟩) 1 1) [ent0 Bt.kx] Bt.ex1 (fun k => k = b10) _ (t2.keep e4) (EntL.one0 _) (fun j hj => by have q1 : j = b10 := hj; omega) (Bt.big_ex Bt.ex1_all) t1 (fun _ => by rw [Bt.enc_ex1_len]; omega)) ?_
 rintro v_24 w5 ⟨rv24, rfl, hv24, e5⟩
 have z5 := e5.size
 rw [if_pos Bt.valid_ex1] at hv24
 have h24s := hv24.sl
 refine O.mv (O.extract rfl rfl (O.extract rfl rfl (O.cast (v' := .int .i64 0) (congrArg (Value.int .i64) (if_pos Bt.valid_ex1)) (O.asg (O.asg (O.nil (hK5 _ _ (C.seqK fun K6 hK6 => C.seqK fun K7 hK7 => C.draw (by kernel_rfl) fun w6 e6 => ?_))))))))
 have z6 := e6.size
 refine D.tk 0 rfl rfl rfl rfl (Le.refl _) ⟨pure _, rfl⟩ (fun _ hw_ _ hN => O.mv (O.nil hN)) (D.tk 1 rfl rfl rfl rfl (Le.refl _) len_form (fun _ hw_ _ hN => O.len underlying30 rfl (((h19s.keep e5).keep e6).keep hw_) (O.nil hN)) (D.tk 2 rfl rfl rfl rfl (Le.refl _) ⟨_, rfl⟩ (fun _ hw_ _ hN => O.neqI rfl rfl (O.nil hN)) (D.cast (v' := .bool false) (congrArg Value.bool (by simp [Bt.enc_nil_len])) (D.tk 3 rfl rfl rfl rfl (Le.refl _) ⟨pure _, rfl⟩ (fun _ hw_ _ hN => O.mv (O.nil hN)) (D.ty 4 rfl rfl rfl rfl rfl (Le.refl _) ⟨pure _, rfl⟩ (fun _ hw_ _ hN => O.mv (O.nil hN)) ?_)))))
 refine D.ty 5 rfl rfl rfl rfl rfl (Le.refl _) ⟨_, rfl⟩ (fun _ hw_ _ hN => O.neqI rfl rfl (O.cast (v' := .bool false) rfl (O.nil hN))) (D.tk 6 rfl rfl rfl rfl (Le.refl _) pick_form (fun _ hw_ _ hN => O.pickF rfl (O.nil hN)) (D.tk 7 rfl rfl rfl rfl (Le.refl _) ⟨pure _, rfl⟩ (fun _ hw_ _ hN => O.mv (O.nil hN)) (D.ty 8 rfl rfl rfl rfl rfl (Le.refl _) ⟨pure _, rfl⟩ (fun _ hw_ _ hN => O.mv (O.nil hN)) (D.ty 9 rfl rfl rfl rfl rfl (Le.refl _) len_form (fun _ hw_ _ hN => O.len underlying30 rfl ((h24s.keep e6).keep hw_) (O.nil hN)) (D.ty 10 rfl rfl rfl rfl rfl (Le.refl _) ⟨_, rfl⟩ (fun _ hw_ _ hN => O.neqI rfl rfl (O.nil hN)) ?_)))))
 refine D.cast (v' := .bool false) (congrArg Value.bool (by simp [Bt.enc_ex1_len])) (D.tk 11 rfl rfl rfl rfl (Le.refl _) pick_form (fun _ hw_ _ hN => O.pickF rfl (O.nil hN)) (D.tk 12 rfl rfl rfl rfl (Le.refl _) ⟨pure _, rfl⟩ (fun _ hw_ _ hN => O.mv (O.nil hN)) (D.ty 13 rfl rfl rfl rfl rfl (Le.refl _) ⟨pure _, rfl⟩ (fun _ hw_ _ hN => O.mv (O.nil hN)) ?_)))
 have hb41 := Sl.sub (P := Tryz.prog) (0) (6) underlying30 sizeOf5 (by rfl) (h24s.keep e6) (Nat.zero_le _) (by rw [Bt.enc_ex1_len]; decide)
 obtain ⟨v41, hs41, hr41⟩ := hb41
 refine D.ty 14 rfl rfl rfl rfl rfl (Le.refl _) ⟨_, rfl⟩ (fun _ hw_ _ hN => O.subR rfl hr41 (.inl ⟨rfl, rfl⟩) (.inr ⟨_, _, rfl, rfl⟩) (O.nil hN)) ?_
 rw [List.drop_zero, Bt.enc_ex1_six] at hs41
 refine D.ty 15 rfl rfl rfl rfl rfl (Le.refl _) ⟨_, rfl⟩ (fun _ hw_ _ hN => O.bytesS underlying30 underlying5 underlying9 rfl (hs41.keep hw_) (O.nil hN)) (D.oneYes (i := 16) rfl rfl rfl (by kernel_rfl) (O.litn [.int .u8 1, .int .u8 1, .int .u8 107, .int .u8 0, .int .u8 0, .int .u8 0] underlying30 ti5 ts5 tz5 rfl (by decide) (by decide) rfl (by simp [Value.oneCell']) (fun b43 w7 hb43 hz43 e7 => ?_)))
 have z7 := e7.size
 have h43 := hz43.own
 have hl43 := h43.lt
 refine O.nil ⟨e7, ?_⟩
 have hq43 : Sl byteE w7 (fun k => k = b43) (.slice (some ⟨b43, 0, none⟩) 6 6) [1, 1, 107, 0, 0, 0] := Sl.litG (G := byteF) (n := 6) h43 rfl (by unfold maxLen; omega)
 refine D.oneYes (i := 17) rfl rfl rfl (by kernel_rfl) (O.bytesS underlying30 underlying5 underlying9 rfl hq43 (O.nil ⟨e7, D.ty 18 rfl rfl rfl rfl rfl e7 ⟨_, rfl⟩ (fun _ hw_ _ hN => O.neqS rfl rfl (O.nil hN)) (D.cast (v' := .bool false) (congrArg Value.bool (by exact decide_eq_false (fun h => h rfl))) (D.tk 19 rfl rfl rfl rfl e7 pick_form (fun _ hw_ _ hN => O.pickF rfl (O.nil hN)) (D.tk 20 rfl rfl rfl rfl e7 ⟨pure _, rfl⟩ (fun _ hw_ _ hN => O.mv (O.nil hN)) (D.ty 21 rfl rfl rfl rfl rfl e7 ⟨pure _, rfl⟩ (fun _ hw_ _ hN => O.mv (O.nil hN)) (D.ty 22 rfl rfl rfl rfl rfl e7 ⟨_, rfl⟩ (fun _ hw_ _ hN => O.neqI rfl rfl (O.cast (v' := .bool false) rfl (O.nil hN))) ?_)))))⟩))
 refine D.tk 23 rfl rfl rfl rfl e7 pick_form (fun _ hw_ _ hN => O.pickF rfl (O.nil hN)) (D.tk 24 rfl rfl rfl rfl e7 ⟨pure _, rfl⟩ (fun _ hw_ _ hN => O.mv (O.nil hN)) (D.ty 25 rfl rfl rfl rfl rfl e7 ⟨pure _, rfl⟩ (fun _ hw_ _ hN => O.mv (O.nil hN)) (D.ty 26 rfl rfl rfl rfl rfl e7 ⟨pure _, rfl⟩ (fun _ hw_ _ hN => O.mv (O.nil hN)) (D.oneYes (i := 27) rfl rfl rfl (by kernel_rfl) ?_))))
 have t3 := (t1.keep e5).keep e6
 have t4 := (t2.keep e4).keep e5
 have t5 := (t4.keep e6).keep e7
 refine O.call call31 (args3 rfl rfl rfl) (decodes_spec _ (Bt.enc Bt.ex1) _ (.slice (some ⟨b10, 0, none⟩) 1 1) [ent0 Bt.kx] Bt.ex1 (fun k => k = b10) 0 _ ((h24s.keep e6).keep e7) (by rw [Bt.enc_ex1_len]; decide) (fun j hj => by have := (((hv24.keep e6).keep e7)).bk_ge j hj; omega) (t3.keep e7) t5 (EntL.one0 _) (fun j hj => by have q1 : j = b10 := hj; omega) (Bt.DecRes.of_enc Bt.valid_ex1)) ?_
 rintro v_54 w8 ⟨rfl, e8⟩
 have z8 := e8.size
 refine O.nil ⟨(Ext.trans e7 e8), D.ty 28 rfl rfl rfl rfl rfl (Ext.trans e7 e8) ⟨_, rfl⟩ (fun _ hw_ _ hN => O.not rfl (O.cast (v' := .bool false) rfl (O.nil hN))) (D.tk 29 rfl rfl rfl rfl (Ext.trans e7 e8) pick_form (fun _ hw_ _ hN => O.pickF rfl (O.nil hN)) (D.tk 30 rfl rfl rfl rfl (Ext.trans e7 e8) ⟨pure _, rfl⟩ (fun _ hw_ _ hN => O.mv (O.nil hN)) (D.ty 31 rfl rfl rfl rfl rfl (Ext.trans e7 e8) ⟨pure _, rfl⟩ (fun _ hw_ _ hN => O.mv (O.nil hN)) (D.oneYes (i := 32) rfl rfl rfl (by kernel_rfl) ?_))))⟩
 have t6 := (t3.keep e7).keep e8
 have t7 := ((hq17.keep e4).keep e5).keep e6
 refine O.call call20 (args3 rfl rfl rfl) (encodes_spec (.slice (some ⟨b17, 0, none⟩) 2 2) [ent0 Bt.kx, ent0 Bt.kx] Bt.ex2 (fun k => k = b17) (.slice none 0 0) [] (fun _ => False) 2 _ ((t7.keep e7).keep e8) (EntL.two0 _) (fun j hj => by have q1 : j = b17 := hj; omega) (Bt.big_ex Bt.ex2_all) t6 (fun h => by rw [Bt.valid_ex2] at h; cases h) (Sl.nil _ _ _) (.inr ⟨Bt.valid_ex2, rfl, rfl⟩)) ?_
 rintro v_59 w9 ⟨rfl, e9⟩
 have z9 := e9.size
 have t8 := Ext.trans (Ext.trans e7 e8) e9
 refine O.nil ⟨t8, D.ty 33 rfl rfl rfl rfl rfl t8 ⟨_, rfl⟩ (fun _ hw_ _ hN => O.not rfl (O.cast (v' := .bool false) rfl (O.nil hN))) (D.tk 34 rfl rfl rfl rfl t8 pick_form (fun _ hw_ _ hN => O.pickF rfl (O.nil hN)) (D.tk 35 rfl rfl rfl rfl t8 ⟨pure _, rfl⟩ (fun _ hw_ _ hN => O.mv (O.nil hN)) (D.oneYes (i := 36) rfl rfl rfl (by kernel_rfl) (O.call call31 (args3 rfl rfl rfl) (decodes_spec (.slice none 0 0) [] (fun _ => False) (.slice none 0 0) [] [] (fun _ => False) 12 _ (Sl.nil _ _ _) (by simp) (fun _ h => h.elim) (t6.keep e9) (Sl.nil _ _ _) EntL.nil (fun _ h => h.elim) Bt.dec_nil) ?_))))⟩
 rintro v_63 w10 ⟨rfl, e10⟩
 have z10 := e10.size
 have t9 := Ext.trans t8 e10
 refine O.nil ⟨t9, D.ty 37 rfl rfl rfl rfl rfl t9 ⟨_, rfl⟩ (fun _ hw_ _ hN => O.not rfl (O.cast (v' := .bool false) rfl (O.nil hN))) (D.tk 38 rfl rfl rfl rfl t9 pick_form (fun _ hw_ _ hN => O.pickF rfl (O.nil hN)) (D.tk 39 rfl rfl rfl rfl t9 ⟨pure _, rfl⟩ (fun _ hw_ _ hN => O.mv (O.nil hN)) (D.oneYes (i := 40) rfl rfl rfl (by kernel_rfl) (O.litn [.int .u8 0, .int .u8 0, .int .u8 0, .int .u8 0, .int .u8 0] underlying30 ti5 ts5 tz5 rfl (by decide) (by decide) rfl (by simp [Value.oneCell']) (fun b67 w11 hb67 hz67 e11 => ?_)))))⟩
 have z11 := e11.size
 have h67 := hz67.own
 have hl67 := h67.lt
 have t10 := Ext.trans t9 e11
 refine O.nil ⟨t10, ?_⟩
 have hq67 : Sl byteE w11 (fun k => k = b67) (.slice (some ⟨b67, 0, none⟩) 5 5) [0, 0, 0, 0, 0] := Sl.litG (G := byteF) (n := 5) h67 rfl (by unfold maxLen; omega)
 refine D.oneYes (i := 41) rfl rfl rfl (by kernel_rfl) ?_
 have t11 := (t6.keep e9).keep e10
 refine O.call call31 (args3 rfl rfl rfl) (decodes_spec _ [0, 0, 0, 0, 0] _ (.slice none 0 0) [] [] (fun _ => False) 12 _ hq67 (by simp) (fun j hj => by have q1 : j = b67 := hj; omega) (t11.keep e11) (Sl.nil _ _ _) EntL.nil (fun _ h => h.elim) Bt.dec_five) ?_
 rintro v_68 w12 ⟨rfl, e12⟩
 have z12 := e12.size
 have t12 := Ext.trans t10 e12
 refine O.nil ⟨t12, D.ty 42 rfl rfl rfl rfl rfl t12 ⟨_, rfl⟩ (fun _ hw_ _ hN => O.not rfl (O.cast (v' := .bool false) rfl (O.nil hN))) (D.tk 43 rfl rfl rfl rfl t12 pick_form (fun _ hw_ _ hN => O.pickF rfl (O.nil hN)) (D.dn (hK7 _ _ (C.condF rfl (C.skip (hK6 _ _ (C.seqK fun K8 hK8 => C.region ?_)))))))⟩
 have t13 := (t11.keep e11).keep e12
 refine O.call call26 (args1 rfl) (bsplit_spec (.slice none 0 0) [] [] (fun _ => False) _ (Sl.nil _ _ _) EntL.nil (fun _ h => h.elim) (fun x hx => by cases hx) t13 (fun x hx => by cases hx) (by simp)) ?_
 rintro v_72 w13 ⟨uv72, e9v72, bsv72, rfl, hv72, hRv72, e13⟩
 have z13 := e13.size
 have hq72 : e9v72 = 0 ∧ bsv72 = [] := by
  rcases hRv72 with ⟨_, h1, h2⟩ | ⟨h1, _⟩
  ·exact ⟨h1, by rw [h2]; exact rfl⟩
  ·exact absurd h1 (by decide +kernel)
 rw [hq72.2] at hv72
 refine O.mv (O.extract rfl rfl (O.extract rfl rfl (O.cast (v' := .int .i64 0) (congrArg (Value.int .i64) hq72.1) (O.asg (O.asg (O.nil (hK8 _ _ (C.seqK fun K9 hK9 => C.region (O.mv ?_)))))))))
 have t14 := (t5.keep e8).keep e9
 have t15 := (t14.keep e10).keep e11
 have t16 := (t15.keep e12).keep e13
 refine O.call call26 (args1 rfl) (bsplit_spec (.slice (some ⟨b10, 0, none⟩) 1 1) [ent0 Bt.kx] Bt.ex1 (fun k => k = b10) _ t16 (EntL.one0 _) (fun j hj => by have q1 : j = b10 := hj; omega) (Bt.big_ex Bt.ex1_all) (t13.keep e13) (fun x hx => by rw [Bt.ex1_all x hx]; exact Bt.ent_kx) (by decide)) ?_
 rintro v_77 w14 ⟨uv77, e9v77, bsv77, rfl, hv77, hRv77, e14⟩
 have z14 := e14.size
 have hq77 : e9v77 = 0 ∧ bsv77 = [Bt.enc Bt.ex1] := by
  rcases hRv77 with ⟨_, h1, h2⟩ | ⟨h1, _⟩
  ·exact ⟨h1, by rw [h2]; exact (by rw [Bt.split_ex1]; rfl)⟩
  ·exact absurd h1 (by decide +kernel)
 rw [hq77.2] at hv77
 refine O.mv (O.extract rfl rfl (O.extract rfl rfl (O.cast (v' := .int .i64 0) (congrArg (Value.int .i64) hq77.1) (O.asg (O.asg (O.nil (hK9 _ _ (C.seqK fun K10 hK10 => C.region (O.mv (O.len underlying38 rfl (hv72.keep e14) (O.eqlI rfl rfl (O.cast (v' := .bool true) (congrArg Value.bool (by exact decide_eq_true rfl)) (O.mv (O.yes rfl rfl (O.mv (O.yes rfl rfl (O.eqlI rfl rfl (O.cast (v' := .bool true) rfl (O.pickT rfl (O.mv (O.yes rfl rfl (O.mv (O.yes rfl rfl (O.len underlying38 rfl hv77 (O.yes rfl rfl (O.eqlI rfl rfl (O.cast (v' := .bool true) (congrArg Value.bool (by exact decide_eq_true rfl)) (O.pickT rfl (O.mv (O.yes rfl rfl (O.mv ?_)))))))))))))))))))))))))))))))
 refine O.yes rfl rfl (O.eqlI rfl rfl (O.cast (v' := .bool true) rfl (O.pickT rfl (O.mv (O.yes rfl rfl (O.mv (O.yes rfl rfl (O.mv (O.yes rfl rfl ?_)))))))))
 have t17 := (t13.keep e13).keep e14
 refine O.call call32 (args4 rfl rfl rfl rfl) (merges_spec (.slice (some ⟨b10, 0, none⟩) 1 1) [ent0 Bt.kx] Bt.ex1 (fun k => k = b10) (.slice none 0 0) [] [] (fun _ => False) (.slice (some ⟨b10, 0, none⟩) 1 1) [ent0 Bt.kx] Bt.ex1 (fun k => k = b10) 0 _ (t16.keep e14) (EntL.one0 _) (Sl.nil _ _ _) EntL.nil (t16.keep e14) (EntL.one0 _) (fun j hj => by have q1 : j = b10 := hj; omega) (fun _ h => h.elim) (fun j hj => by have q1 : j = b10 := hj; omega) (Bt.big_ex Bt.ex1_all) (fun x hx => by cases hx) (Bt.mid_ex Bt.ex1_all) (fun x hx => by cases hx) (by decide) t17 (.inl ⟨Bt.ordered_ex1, rfl, rfl, Bt.merge_ex1_nil.symm⟩)) ?_
 rintro v_99 w15 ⟨rfl, e15⟩
 have z15 := e15.size
 refine O.pickT rfl (O.mv (O.yes rfl rfl (O.mv (O.yes rfl rfl (O.mv (O.yes rfl rfl (O.mv (O.yes rfl rfl ?_))))))))
 have t18 := (t16.keep e14).keep e15
 refine O.call call32 (args4 rfl rfl rfl rfl) (merges_spec (.slice (some ⟨b10, 0, none⟩) 1 1) [ent0 Bt.kx] Bt.ex1 (fun k => k = b10) (.slice (some ⟨b10, 0, none⟩) 1 1) [ent0 Bt.kx] Bt.ex1 (fun k => k = b10) (.slice (some ⟨b10, 0, none⟩) 1 1) [ent0 Bt.kx] Bt.ex1 (fun k => k = b10) 0 _ t18 (EntL.one0 _) t18 (EntL.one0 _) t18 (EntL.one0 _) (fun j hj => by have q1 : j = b10 := hj; omega) (fun j hj => by have q1 : j = b10 := hj; omega) (fun j hj => by have q1 : j = b10 := hj; omega) (Bt.big_ex Bt.ex1_all) (Bt.big_ex Bt.ex1_all) (Bt.mid_ex Bt.ex1_all) (Bt.mid_ex Bt.ex1_all) (by decide) (t17.keep e15) (.inl ⟨Bt.ordered_ex1, Bt.ordered_ex1, rfl, Bt.merge_ex1.symm⟩)) ?_
 rintro v_105 w16 ⟨rfl, e16⟩
 have z16 := e16.size
 refine O.pickT rfl (O.mv (O.yes rfl rfl (O.mv (O.yes rfl rfl (O.mv (O.yes rfl rfl ?_))))))
 refine O.call call32 (args4 rfl rfl rfl rfl) (merges_spec (.slice (some ⟨b17, 0, none⟩) 2 2) [ent0 Bt.kx, ent0 Bt.kx] Bt.ex2 (fun k => k = b17) (.slice (some ⟨b10, 0, none⟩) 1 1) [ent0 Bt.kx] Bt.ex1 (fun k => k = b10) (.slice none 0 0) [] [] (fun _ => False) 2 _ ((((((((((t7.keep e7).keep e8).keep e9).keep e10).keep e11).keep e12).keep e13).keep e14).keep e15).keep e16) (EntL.two0 _) (t18.keep e16) (EntL.one0 _) (Sl.nil _ _ _) EntL.nil (fun j hj => by have q1 : j = b17 := hj; omega) (fun j hj => by have q1 : j = b10 := hj; omega) (fun _ h => h.elim) (Bt.big_ex Bt.ex2_all) (Bt.big_ex Bt.ex1_all) (Bt.mid_ex Bt.ex2_all) (Bt.mid_ex Bt.ex1_all) (by decide) ((t17.keep e15).keep e16) (.inr ⟨.inl Bt.ordered_ex2, rfl, rfl⟩)) ?_
 rintro v_110 w17 ⟨rfl, e17⟩
 have z17 := e17.size
 refine O.pickT rfl (O.asg (O.nil (hK10 _ _ (C.ret (Outs.one rfl rfl ?_)))))
 exact ⟨rfl, (Ext.trans (Ext.trans (Ext.trans (Ext.trans (Ext.trans (Ext.trans (Ext.trans (Ext.trans (Ext.trans (Ext.trans (Ext.trans (Ext.trans (Ext.trans (Ext.trans (Ext.trans (Ext.trans e1 e2) e3) e4) e5) e6) e7) e8) e9) e10) e11) e12) e13) e14) e15) e16) e17)⟩
end Go.Proofs.YtpbcafkcfobngaaGreatDoor
end
section
namespace Go.Proofs.YtpbcafkcfobngaaGreatDoor
open Go.Pn Go.ChangeShapes Go.WideShapes Go.ChangeAt Go.RowKit
theorem pOwn : ownKnob Tryz.prog.godebug = none := by kernel_rfl
theorem pLaidOut : laidOutB Tryz.prog = true := by kernel_rfl
theorem opensDot (W : World) : Opens Tryz.prog W Dt.dotF.enc (fun _ => True) 112 :=
 (Opens.struct2 Tryz.underlying112 (Opens.int Tryz.underlying3 (by kernel_rfl)) (Opens.int Tryz.underlying3 (by kernel_rfl)) rfl rfl (by kernel_rfl)).imp rfl fun cs d h _ => by
   obtain ⟨a, b, rfl, ha, hb⟩ := h
   exact ⟨d, by rw [show a = [.int .i64 d.1] from ha, show b = [.int .i64 d.2] from hb]; rfl, trivial⟩
theorem opensItem (W : World) : Opens Tryz.prog W itemE (fun _ => True) 117 :=
 Opens.item (Opens.marks Tryz.underlying114 Tryz.underlying112 Tryz.underlying3 Tryz.underlying3 Tryz.underlying3 Tryz.underlying110 (by kernel_rfl) (by kernel_rfl) (by kernel_rfl) (by kernel_rfl) (by kernel_rfl) (by kernel_rfl) rfl rfl rfl rfl rfl) Tryz.underlying117 Tryz.underlying9 Tryz.underlying115 (by kernel_rfl) (by kernel_rfl) (by kernel_rfl) rfl rfl
theorem opensCart (W : World) : Opens Tryz.prog W cartE (fun _ => True) 47 :=
 (Opens.struct2 Tryz.underlying47 (Opens.struct2 Tryz.underlying44 ((opensDot W).slice Tryz.underlying42 (by kernel_rfl) (by decide)) ((opensDot W).slice Tryz.underlying41 (by kernel_rfl) (by decide)) rfl rfl (by kernel_rfl)) ((opensItem W).slice Tryz.underlying45 (by kernel_rfl) (by decide)) rfl rfl (by kernel_rfl)).imp rfl fun cs d h _ => ⟨d, h, trivial⟩
theorem opensEntry (W : World) : Opens Tryz.prog W entE (fun _ => True) 50 :=
 (Opens.struct2 Tryz.underlying50 (Opens.str Tryz.underlying9 (by kernel_rfl)) (opensCart W) rfl rfl (by kernel_rfl)).imp rfl fun cs d h _ => ⟨d, h, trivial⟩
set_option maxRecDepth 100000 in
theorem ents_of {W : World} {H : Type} {enc : TypeId × Value → H} {base : Nat} {v : Value} {d : DataW H} {p : List MemPlace} (hval : Value.okWide Tryz.prog W .any base 22 v) (h : DataW.Trod enc Tryz.prog W 0 (fun _ => true) true 22 v d p) :
 ∃ l : List EntT, Sl entE W (fun k => k < W.heap.size) v l := by
 obtain ⟨l, h1, _⟩ := arg_slice (opensEntry W) Tryz.underlying22 (by kernel_rfl) (by decide) hval h
 exact ⟨l, h1⟩
theorem mx_of {W : World} (h : W.ShapedOpen Tryz.prog) : Mx W := ⟨Tryz.laysM144.s1_3 W h⟩
def pFlat : DataW Unit → List Value
 | .agg l => l.flatMap fun
   | .lit (.int k n) => [Value.int k n]
   | .agg l2 => l2.map fun
     | .lit (.int k n) => Value.int k n
     | _ => .nilIface
   | _ => [.nilIface]
 | _ => []
def pPut (h : Array Obj) (g : Nat) (cs : List Value) : Array Obj := h.modify g fun
 | .cells _ t frozen => .cells cs.toArray t frozen
 | o => o
noncomputable def pWorld (os : Os) : World :=
 { World.holding Tryz.prog os ⟨#[], #[], []⟩ with heap := (pPut (pPut (World.holding Tryz.prog os ⟨#[], #[], []⟩).heap 2 (pFlat Rows.laid_unicode_utf8_acceptRanges)) 1 (pFlat Rows.laid_unicode_utf8_first)) }
set_option maxRecDepth 100000 in
theorem pMet (os : Os) (args : Array Value) : laidMet Tryz.prog Rows.batchEncodesRow.laid ((pWorld os).forCall (fun _ _ => 0) ⟨#[], args, []⟩).memory :=
 laidMet_of_run' 8 (by kernel_rfl) (by kernel_rfl)
end Go.Proofs.YtpbcafkcfobngaaGreatDoor
end
section
namespace Go.Proofs.YtpbcafkcfobngaaGreatDoor
open Go.Pn Go.RowKit Go.Proofs _root_.Go.Proofs.Tryz
attribute [local irreducible] O C D
set_option maxHeartbeats 4000000 in
theorem batchEncodes0_spec (v0 : Value) (raw : List EntR) (l : List EntT) (F : Nat → Prop) (w : World) (hr : Sl entF.enc w F v0 raw) (he : EntL w F raw l) (hF : ∀ k, F k → k < w.heap.size) (mx : Mx w) :
 Ret Tryz.prog 3 #[v0] w (fun v w' => v = .bool true ∧ Le w w') := by
 have hl := he.1
 have hrl := hr.le
 refine enT [v0] 40 func3 rfl rfl (C.seqK fun K1 hK1 => C.region (O.asg (O.nil (hK1 _ _ (C.seqK fun K2 hK2 => C.seqK fun K3 hK3 => C.region (O.mv (O.call call15 (args2 rfl rfl) (smallL_spec v0 raw l F 12 _ hr he) ?_)))))))
 rintro v_5 w1 ⟨rfl, e1⟩
 have z1 := e1.size
 refine O.not rfl (O.nil (hK3 _ _ (C.cond rfl (fun c6 => ?_) (fun c6 => ?_))))
 ·
  refine C.seqK fun K4 hK4 => C.region (O.call call16 (argsN) (bknown_spec _ (mx.keep e1)) ?_)
  rintro v_7 w2 ⟨rfl, e2⟩
  have z2 := e2.size
  refine O.asg (O.nil (hK4 _ _ (C.ret (Outs.one rfl rfl ?_))))
  exact ⟨rfl, (Ext.trans e1 e2)⟩
 ·
  have hsm : Bt.small l 12 = true := by simpa using c6
  have hsmB := Bt.small_Big hsm
  have hsml := Bt.small_len hsm
  have hsmf := Bt.small_flat hsm
  have hsme := Bt.enc_le hsm
  have hsmv := Bt.small_valid hsm (by omega)
  have hsmM := Bt.small_mid hsm
  refine C.skip (hK2 _ _ (C.seqK fun K5 hK5 => C.region (O.mv (O.call call17 (args1 rfl) (copyL_spec v0 raw l F _ (hr.keep e1) (he.keep e1) (fun j hj => by have q1 := hF j hj; omega) hsmB (by omega) (mx.keep e1)) ?_))))
  rintro v_9 w3 ⟨h9, e3⟩
  have z3 := e3.size
  obtain ⟨rw9, hra9, hea9⟩ := h9
  have hrs9 := hra9.sl
  have hes9 := hea9.weak (F' := fun j => j < w3.heap.size) (fun j hj => by have q1 := hj.2.1; omega)
  have hrs9 := hrs9.weak (F' := fun j => j < w3.heap.size) (fun j hj => by have q1 := hj.2; omega)
  refine O.asg (O.nil (hK5 _ _ (C.seqK fun K6 hK6 => C.seqK fun K7 hK7 => C.region (O.mv ?_))))
  have t0 := (mx.keep e1).keep e3
  have t1 := (he.keep e1).keep e3
  have t2 := (hr.keep e1).keep e3
  refine O.call call18 (args1 rfl) (bvalid_spec v0 raw l F _ t2 t1 (fun j hj => by have q1 := hF j hj; omega) hsmB t0) ?_
  rintro v_11 w4 ⟨rfl, e4⟩
  have z4 := e4.size
  refine O.mv (O.call call19 (args1 rfl) (lordered_spec v0 raw l F _ (t2.keep e4) (t1.keep e4) (fun j hj => by have q1 := hF j hj; omega) hsmB (t0.keep e4)) ?_)
  rintro v_13 w5 ⟨rfl, e5⟩
  have z5 := e5.size
  refine O.neqB underlying4 rfl rfl (O.cast (v' := .bool false) (congrArg Value.bool (by simp [hsmv])) (O.nil (hK7 _ _ (C.condF rfl (C.skip (hK6 _ _ (C.seqK fun K8 hK8 => C.seqK fun K9 hK9 => C.region (O.mv ?_))))))))
  have t3 := (t2.keep e4).keep e5
  have t4 := (t0.keep e4).keep e5
  have t5 := (t1.keep e4).keep e5
  refine O.call call19 (args1 rfl) (lordered_spec v0 raw l F _ t3 t5 (fun j hj => by have q1 := hF j hj; omega) hsmB t4) ?_
  rintro v_16 w6 ⟨rfl, e6⟩
  have z6 := e6.size
  refine O.not rfl (O.nil (hK9 _ _ (C.cond rfl (fun c17 => ?_) (fun c17 => ?_))))
  ·
   have hoN : Bt.ordered l = false := by simpa using c17
   refine C.seqK fun K10 hK10 => C.region (O.mv (O.call call20 (args3 rfl rfl rfl) (encodes_spec v0 raw l F (.slice none 0 0) [] (fun _ => False) 2 _ (t3.keep e6) (t5.keep e6) (fun j hj => by have q1 := hF j hj; omega) hsmB (t4.keep e6) (fun _ => by omega) (Sl.nil _ _ _) (.inr ⟨by rw [hsmv]; exact hoN, rfl, rfl⟩)) ?_))
   rintro v_19 w7 ⟨rfl, e7⟩
   have z7 := e7.size
   refine O.mv (O.yes rfl rfl (O.mv (O.yes rfl rfl (O.mv (O.yes rfl rfl (O.call call21 (args2 rfl rfl) (sameL_spec v0 raw l F v_9 rw9 l _ _ ((t3.keep e6).keep e7) ((t5.keep e6).keep e7) ((((hrs9.keep e4).keep e5).keep e6).keep e7) ((((hes9.keep e4).keep e5).keep e6).keep e7) (fun j hj => by have q1 := hF j hj; omega) (fun j hj => by (try dsimp only at hj); omega)) ?_))))))
   rintro v_23 w8 ⟨rfl, e8⟩
   have z8 := e8.size
   refine O.cast (v' := .bool true) (congrArg Value.bool (by exact decide_eq_true rfl)) (O.pickT rfl (O.mv (O.yes rfl rfl (O.call call16 (argsN) (bknown_spec _ (((t4.keep e6).keep e7).keep e8)) ?_))))
   rintro v_26 w9 ⟨rfl, e9⟩
   have z9 := e9.size
   refine O.pickT rfl (O.asg (O.nil (hK10 _ _ (C.ret (Outs.one rfl rfl ?_)))))
   exact ⟨rfl, (Ext.trans (Ext.trans (Ext.trans (Ext.trans (Ext.trans (Ext.trans (Ext.trans e1 e3) e4) e5) e6) e7) e8) e9)⟩
  ·
   have hoY : Bt.ordered l = true := by simpa using c17
   refine C.skip (hK8 _ _ (C.seqK fun K11 hK11 => C.region (O.mv (O.mv (O.call call22 (args1 rfl) (lwhole_spec v0 raw l F _ (t3.keep e6) (t5.keep e6) (fun j hj => by have q1 := hF j hj; omega) hsmB (by omega) (by omega)) ?_)))))
   rintro v_30 w10 ⟨e10, h30⟩
   have z10 := e10.size
   have h30s := h30.sl
   refine O.call call20 (args3 rfl rfl rfl) (encodes_spec v0 raw l F v_30 (Bt.enc l) _ 0 _ ((t3.keep e6).keep e10) ((t5.keep e6).keep e10) (fun j hj => by have q1 := hF j hj; omega) hsmB ((t4.keep e6).keep e10) (fun _ => by omega) h30s (.inl ⟨by rw [hsmv]; exact hoY, rfl, rfl⟩)) ?_
   rintro v_31 w11 ⟨rfl, e11⟩
   have z11 := e11.size
   refine O.mv (O.yes rfl rfl (O.mv (O.yes rfl rfl (O.mv (O.yes rfl rfl (O.call call21 (args2 rfl rfl) (sameL_spec v0 raw l F v_9 rw9 l _ _ (((t3.keep e6).keep e10).keep e11) (((t5.keep e6).keep e10).keep e11) (((((hrs9.keep e4).keep e5).keep e6).keep e10).keep e11) (((((hes9.keep e4).keep e5).keep e6).keep e10).keep e11) (fun j hj => by have q1 := hF j hj; omega) (fun j hj => by (try dsimp only at hj); omega)) ?_))))))
   rintro v_35 w12 ⟨rfl, e12⟩
   have z12 := e12.size
   refine O.cast (v' := .bool true) (congrArg Value.bool (by exact decide_eq_true rfl)) (O.pickT rfl (O.mv (O.yes rfl rfl (O.call call16 (argsN) (bknown_spec _ ((((t4.keep e6).keep e10).keep e11).keep e12)) ?_))))
   rintro v_38 w13 ⟨rfl, e13⟩
   have z13 := e13.size
   refine O.pickT rfl (O.asg (O.nil (hK11 _ _ (C.ret (Outs.one rfl rfl ?_)))))
   exact ⟨rfl, (Ext.trans (Ext.trans (Ext.trans (Ext.trans (Ext.trans (Ext.trans (Ext.trans (Ext.trans e1 e3) e4) e5) e6) e10) e11) e12) e13)⟩
theorem batchEncodes_spec (v0 : Value) (l : List EntT) (F : Nat → Prop) (w : World) (hl : Sl entE w F v0 l) (hF : ∀ k, F k → k < w.heap.size) (mx : Mx w) : Ret Tryz.prog 3 #[v0] w (fun v w' => v = .bool true ∧ Le w w') := by
 obtain ⟨raw, hr, he⟩ := hl.ents
 exact batchEncodes0_spec v0 raw l F w hr he hF mx
end Go.Proofs.YtpbcafkcfobngaaGreatDoor
end
