/-
  The walk of the stage's theorem. Conditions: slices as they lie in memory.
-/
import Derived.Test.YtnkcmaoaagnopaaGreatDoorC13
namespace Go.Proofs.YtnkcmaoaagnopaaGreatDoor
open Go.Pn Go.RowKit Go.Proofs


theorem cmpB_ge (a b c : List UInt8) (h : 0 ≤ Cn.cmpB a b) (k : 0 ≤ Cn.cmpB b c) : 0 ≤ Cn.cmpB a c := by
  have h1 := Cn.cmpB_neg a b
  have h2 := Cn.cmpB_neg b c
  have h3 := Cn.cmpB_neg a c
  have h4 := Cn.cmpB_trans c b a (by omega) (by omega)
  omega

set_option maxHeartbeats 16000000 in
theorem canonHolds_spec (va1 va2 va3 : Value) (a : Cn.Cart) (F : Nat → Prop) (vb1 vb2 vb3 : Value) (b : Cn.Cart) (Fb : Nat → Prop) (vc1 vc2 vc3 : Value) (c : Cn.Cart) (Fc : Nat → Prop) (w : World) (hav : Sl Dt.dotF.enc w F va1 a.1.1) (hac : Sl Dt.dotF.enc w F va2 a.1.2) (hai : Sl itemE w F va3 a.2) (hF : ∀ k, F k → k < w.heap.size) (hbv : Sl Dt.dotF.enc w Fb vb1 b.1.1) (hbc : Sl Dt.dotF.enc w Fb vb2 b.1.2) (hbi : Sl itemE w Fb vb3 b.2) (hFb : ∀ k, Fb k → k < w.heap.size) (hcv : Sl Dt.dotF.enc w Fc vc1 c.1.1) (hcc : Sl Dt.dotF.enc w Fc vc2 c.1.2) (hci : Sl itemE w Fc vc3 c.2) (hFc : ∀ k, Fc k → k < w.heap.size) (mx : Mx w) :
    Ret Tryz.prog 7 #[.agg #[va1, va2, va3], .agg #[vb1, vb2, vb3], .agg #[vc1, vc2, vc3]] w (fun v w' => v = .bool true ∧ Le w w') := by
  refine enter (args := [.agg #[va1, va2, va3], .agg #[vb1, vb2, vb3], .agg #[vc1, vc2, vc3]]) (n := 189) Tryz.func7 rfl rfl (Nat.le_of_ble_eq_true rfl) ?_
  refine C.seqK fun K1 hK1 => ?_
  refine C.region ?_
  refine O.box (v := .agg #[va1, va2, va3]) rfl (fun b3 w1 hb3 hz3 e1 => ?_)
  have z1 := e1.size
  have h3 := hz3.own
  have hl3 := h3.lt
  refine O.box (v := .agg #[vb1, vb2, vb3]) rfl (fun b4 w2 hb4 hz4 e2 => ?_)
  have z2 := e2.size
  have h4 := hz4.own
  have hl4 := h4.lt
  refine O.box (v := .agg #[vc1, vc2, vc3]) rfl (fun b5 w3 hb5 hz5 e3 => ?_)
  have z3 := e3.size
  have h5 := hz5.own
  have hl5 := h5.lt
  refine O.asg ?_
  refine O.nil ?_
  refine hK1 _ _ ?_
  refine C.seqK fun K2 hK2 => ?_
  refine C.seqK fun K3 hK3 => ?_
  refine C.region ?_
  refine O.loadOA Tryz.isAgg28 Tryz.sizeOf28 rfl ((h3.keep e2).keep e3) (Nat.le_of_ble_eq_true rfl) ?_
  refine O.call Tryz.call13 (args1 rfl) (small_spec va1 va2 va3 a F _ (((hav.keep e1).keep e2).keep e3) (((hac.keep e1).keep e2).keep e3) (((hai.keep e1).keep e2).keep e3)) ?_
  rintro v_18 w4 ⟨rfl, e4⟩
  have z4 := e4.size
  refine O.not rfl ?_
  refine O.mv ?_
  refine O.split (x := .tmp 20) rfl (fun c20 => ?_) (fun c20 => ?_)
  ·
    refine O.no rfl (noB (isT' rfl c20) rfl) ?_
    refine O.no rfl (noB (isT' rfl c20) rfl) ?_
    refine O.no rfl (noB (isT' rfl c20) rfl) ?_
    refine O.pickT (isT' rfl c20) ?_
    refine O.mv ?_
    refine O.no rfl (noB rfl rfl) ?_
    refine O.no rfl (noB rfl rfl) ?_
    refine O.no rfl (noB rfl rfl) ?_
    refine O.pickT rfl ?_
    refine O.mv ?_
    refine O.no rfl (noB rfl rfl) ?_
    refine O.no rfl (noB rfl rfl) ?_
    refine O.no rfl (noB rfl rfl) ?_
    refine O.pickT rfl ?_
    refine O.mv ?_
    refine O.no rfl (noB rfl rfl) ?_
    refine O.no rfl (noB rfl rfl) ?_
    refine O.no rfl (noB rfl rfl) ?_
    refine O.pickT rfl ?_
    refine O.mv ?_
    refine O.no rfl (noB rfl rfl) ?_
    refine O.no rfl (noB rfl rfl) ?_
    refine O.no rfl (noB rfl rfl) ?_
    refine O.pickT rfl ?_
    refine O.nil ?_
    refine hK3 _ _ ?_
    refine C.condT rfl ?_
    refine C.seqK fun K4 hK4 => ?_
    refine C.region ?_
    refine O.call Tryz.call14 (argsN) (known_spec _ ((((mx.keep e1).keep e2).keep e3).keep e4)) ?_
    rintro v_45 w5 ⟨rfl, e5⟩
    have z5 := e5.size
    refine O.asg ?_
    refine O.nil ?_
    refine hK4 _ _ ?_
    refine C.ret ?_
    refine Outs.one rfl rfl ?_
    exact ⟨rfl, (Ext.trans (Ext.trans (Ext.trans (Ext.trans e1 e2) e3) e4) e5)⟩
  ·
    have hsm : Cn.small a = true := by simpa using c20
    obtain ⟨hs1, hs2, hs3, hs4⟩ := Cn.small_iff hsm
    have hn : a.2.length ≤ 300 := by omega
    have hS : ∀ x ∈ a.2, x.1.length ≤ 1000 ∧ x.2.length ≤ 300 := fun x hx => by have := hs4 x hx; omega
    have hp : a.1.1.length ≤ 1000 := by omega
    have hq : a.1.2.length ≤ 1000 := by omega
    refine O.yes rfl (isF' rfl c20) ?_
    refine O.loadOA Tryz.isAgg28 Tryz.sizeOf28 rfl ((h4.keep e3).keep e4) (Nat.le_of_ble_eq_true rfl) ?_
    refine O.yes rfl (isF' rfl c20) ?_
    refine O.call Tryz.call13 (args1 rfl) (small_spec vb1 vb2 vb3 b Fb _ ((((hbv.keep e1).keep e2).keep e3).keep e4) ((((hbc.keep e1).keep e2).keep e3).keep e4) ((((hbi.keep e1).keep e2).keep e3).keep e4)) ?_
    rintro v_22 w6 ⟨rfl, e6⟩
    have z6 := e6.size
    refine O.yes rfl (isF' rfl c20) ?_
    refine O.not rfl ?_
    refine O.pickF (isF' rfl c20) ?_
    refine O.mv ?_
    refine O.split (x := .tmp 25) rfl (fun c25 => ?_) (fun c25 => ?_)
    ·
      refine O.no rfl (noB (isT' rfl c25) rfl) ?_
      refine O.no rfl (noB (isT' rfl c25) rfl) ?_
      refine O.no rfl (noB (isT' rfl c25) rfl) ?_
      refine O.pickT (isT' rfl c25) ?_
      refine O.mv ?_
      refine O.no rfl (noB rfl rfl) ?_
      refine O.no rfl (noB rfl rfl) ?_
      refine O.no rfl (noB rfl rfl) ?_
      refine O.pickT rfl ?_
      refine O.mv ?_
      refine O.no rfl (noB rfl rfl) ?_
      refine O.no rfl (noB rfl rfl) ?_
      refine O.no rfl (noB rfl rfl) ?_
      refine O.pickT rfl ?_
      refine O.mv ?_
      refine O.no rfl (noB rfl rfl) ?_
      refine O.no rfl (noB rfl rfl) ?_
      refine O.no rfl (noB rfl rfl) ?_
      refine O.pickT rfl ?_
      refine O.nil ?_
      refine hK3 _ _ ?_
      refine C.condT rfl ?_
      refine C.seqK fun K5 hK5 => ?_
      refine C.region ?_
      refine O.call Tryz.call14 (argsN) (known_spec _ (((((mx.keep e1).keep e2).keep e3).keep e4).keep e6)) ?_
      rintro v_45 w7 ⟨rfl, e7⟩
      have z7 := e7.size
      refine O.asg ?_
      refine O.nil ?_
      refine hK5 _ _ ?_
      refine C.ret ?_
      refine Outs.one rfl rfl ?_
      exact ⟨rfl, (Ext.trans (Ext.trans (Ext.trans (Ext.trans (Ext.trans e1 e2) e3) e4) e6) e7)⟩
    ·
      have hsmb : Cn.small b = true := by simpa using c25
      obtain ⟨hs1b, hs2b, hs3b, hs4b⟩ := Cn.small_iff hsmb
      have hnb : b.2.length ≤ 300 := by omega
      have hSb : ∀ x ∈ b.2, x.1.length ≤ 1000 ∧ x.2.length ≤ 300 := fun x hx => by have := hs4b x hx; omega
      have hpb : b.1.1.length ≤ 1000 := by omega
      have hqb : b.1.2.length ≤ 1000 := by omega
      refine O.yes rfl (isF' rfl c25) ?_
      refine O.loadOA Tryz.isAgg28 Tryz.sizeOf28 rfl ((h5.keep e4).keep e6) (Nat.le_of_ble_eq_true rfl) ?_
      refine O.yes rfl (isF' rfl c25) ?_
      refine O.call Tryz.call13 (args1 rfl) (small_spec vc1 vc2 vc3 c Fc _ (((((hcv.keep e1).keep e2).keep e3).keep e4).keep e6) (((((hcc.keep e1).keep e2).keep e3).keep e4).keep e6) (((((hci.keep e1).keep e2).keep e3).keep e4).keep e6)) ?_
      rintro v_27 w8 ⟨rfl, e8⟩
      have z8 := e8.size
      refine O.yes rfl (isF' rfl c25) ?_
      refine O.not rfl ?_
      refine O.pickF (isF' rfl c25) ?_
      refine O.mv ?_
      refine O.split (x := .tmp 30) rfl (fun c30 => ?_) (fun c30 => ?_)
      ·
        refine O.no rfl (noB (isT' rfl c30) rfl) ?_
        refine O.no rfl (noB (isT' rfl c30) rfl) ?_
        refine O.no rfl (noB (isT' rfl c30) rfl) ?_
        refine O.pickT (isT' rfl c30) ?_
        refine O.mv ?_
        refine O.no rfl (noB rfl rfl) ?_
        refine O.no rfl (noB rfl rfl) ?_
        refine O.no rfl (noB rfl rfl) ?_
        refine O.pickT rfl ?_
        refine O.mv ?_
        refine O.no rfl (noB rfl rfl) ?_
        refine O.no rfl (noB rfl rfl) ?_
        refine O.no rfl (noB rfl rfl) ?_
        refine O.pickT rfl ?_
        refine O.nil ?_
        refine hK3 _ _ ?_
        refine C.condT rfl ?_
        refine C.seqK fun K6 hK6 => ?_
        refine C.region ?_
        refine O.call Tryz.call14 (argsN) (known_spec _ ((((((mx.keep e1).keep e2).keep e3).keep e4).keep e6).keep e8)) ?_
        rintro v_45 w9 ⟨rfl, e9⟩
        have z9 := e9.size
        refine O.asg ?_
        refine O.nil ?_
        refine hK6 _ _ ?_
        refine C.ret ?_
        refine Outs.one rfl rfl ?_
        exact ⟨rfl, (Ext.trans (Ext.trans (Ext.trans (Ext.trans (Ext.trans (Ext.trans e1 e2) e3) e4) e6) e8) e9)⟩
      ·
        have hsmc : Cn.small c = true := by simpa using c30
        obtain ⟨hs1c, hs2c, hs3c, hs4c⟩ := Cn.small_iff hsmc
        have hnc : c.2.length ≤ 300 := by omega
        have hSc : ∀ x ∈ c.2, x.1.length ≤ 1000 ∧ x.2.length ≤ 300 := fun x hx => by have := hs4c x hx; omega
        have hpc : c.1.1.length ≤ 1000 := by omega
        have hqc : c.1.2.length ≤ 1000 := by omega
        refine O.yes rfl (isF' rfl c30) ?_
        refine O.loadOA Tryz.isAgg28 Tryz.sizeOf28 rfl (((((h3.keep e2).keep e3).keep e4).keep e6).keep e8) (Nat.le_of_ble_eq_true rfl) ?_
        refine O.yes rfl (isF' rfl c30) ?_
        refine O.call Tryz.call19 (args1 rfl) (cartValid_spec va1 va2 va3 a F _ ((((((hav.keep e1).keep e2).keep e3).keep e4).keep e6).keep e8) ((((((hac.keep e1).keep e2).keep e3).keep e4).keep e6).keep e8) ((((((hai.keep e1).keep e2).keep e3).keep e4).keep e6).keep e8) (fun k hk => by have q1 := hF k hk; omega) hn hS ((((((mx.keep e1).keep e2).keep e3).keep e4).keep e6).keep e8)) ?_
        rintro v_32 w10 ⟨rfl, e10⟩
        have z10 := e10.size
        refine O.yes rfl (isF' rfl c30) ?_
        refine O.not rfl ?_
        refine O.pickF (isF' rfl c30) ?_
        refine O.mv ?_
        refine O.split (x := .tmp 35) rfl (fun c35 => ?_) (fun c35 => ?_)
        ·
          refine O.no rfl (noB (isT' rfl c35) rfl) ?_
          refine O.no rfl (noB (isT' rfl c35) rfl) ?_
          refine O.no rfl (noB (isT' rfl c35) rfl) ?_
          refine O.pickT (isT' rfl c35) ?_
          refine O.mv ?_
          refine O.no rfl (noB rfl rfl) ?_
          refine O.no rfl (noB rfl rfl) ?_
          refine O.no rfl (noB rfl rfl) ?_
          refine O.pickT rfl ?_
          refine O.nil ?_
          refine hK3 _ _ ?_
          refine C.condT rfl ?_
          refine C.seqK fun K7 hK7 => ?_
          refine C.region ?_
          refine O.call Tryz.call14 (argsN) (known_spec _ (((((((mx.keep e1).keep e2).keep e3).keep e4).keep e6).keep e8).keep e10)) ?_
          rintro v_45 w11 ⟨rfl, e11⟩
          have z11 := e11.size
          refine O.asg ?_
          refine O.nil ?_
          refine hK7 _ _ ?_
          refine C.ret ?_
          refine Outs.one rfl rfl ?_
          exact ⟨rfl, (Ext.trans (Ext.trans (Ext.trans (Ext.trans (Ext.trans (Ext.trans (Ext.trans e1 e2) e3) e4) e6) e8) e10) e11)⟩
        ·
          have hva : Cn.valid a = true := by simpa using c35
          refine O.yes rfl (isF' rfl c35) ?_
          refine O.loadOA Tryz.isAgg28 Tryz.sizeOf28 rfl (((((h4.keep e3).keep e4).keep e6).keep e8).keep e10) (Nat.le_of_ble_eq_true rfl) ?_
          refine O.yes rfl (isF' rfl c35) ?_
          refine O.call Tryz.call19 (args1 rfl) (cartValid_spec vb1 vb2 vb3 b Fb _ (((((((hbv.keep e1).keep e2).keep e3).keep e4).keep e6).keep e8).keep e10) (((((((hbc.keep e1).keep e2).keep e3).keep e4).keep e6).keep e8).keep e10) (((((((hbi.keep e1).keep e2).keep e3).keep e4).keep e6).keep e8).keep e10) (fun k hk => by have q1 := hFb k hk; omega) hnb hSb (((((((mx.keep e1).keep e2).keep e3).keep e4).keep e6).keep e8).keep e10)) ?_
          rintro v_37 w12 ⟨rfl, e12⟩
          have z12 := e12.size
          refine O.yes rfl (isF' rfl c35) ?_
          refine O.not rfl ?_
          refine O.pickF (isF' rfl c35) ?_
          refine O.mv ?_
          refine O.split (x := .tmp 40) rfl (fun c40 => ?_) (fun c40 => ?_)
          ·
            refine O.no rfl (noB (isT' rfl c40) rfl) ?_
            refine O.no rfl (noB (isT' rfl c40) rfl) ?_
            refine O.no rfl (noB (isT' rfl c40) rfl) ?_
            refine O.pickT (isT' rfl c40) ?_
            refine O.nil ?_
            refine hK3 _ _ ?_
            refine C.condT rfl ?_
            refine C.seqK fun K8 hK8 => ?_
            refine C.region ?_
            refine O.call Tryz.call14 (argsN) (known_spec _ ((((((((mx.keep e1).keep e2).keep e3).keep e4).keep e6).keep e8).keep e10).keep e12)) ?_
            rintro v_45 w13 ⟨rfl, e13⟩
            have z13 := e13.size
            refine O.asg ?_
            refine O.nil ?_
            refine hK8 _ _ ?_
            refine C.ret ?_
            refine Outs.one rfl rfl ?_
            exact ⟨rfl, (Ext.trans (Ext.trans (Ext.trans (Ext.trans (Ext.trans (Ext.trans (Ext.trans (Ext.trans e1 e2) e3) e4) e6) e8) e10) e12) e13)⟩
          ·
            have hvb : Cn.valid b = true := by simpa using c40
            refine O.yes rfl (isF' rfl c40) ?_
            refine O.loadOA Tryz.isAgg28 Tryz.sizeOf28 rfl (((((h5.keep e4).keep e6).keep e8).keep e10).keep e12) (Nat.le_of_ble_eq_true rfl) ?_
            refine O.yes rfl (isF' rfl c40) ?_
            refine O.call Tryz.call19 (args1 rfl) (cartValid_spec vc1 vc2 vc3 c Fc _ ((((((((hcv.keep e1).keep e2).keep e3).keep e4).keep e6).keep e8).keep e10).keep e12) ((((((((hcc.keep e1).keep e2).keep e3).keep e4).keep e6).keep e8).keep e10).keep e12) ((((((((hci.keep e1).keep e2).keep e3).keep e4).keep e6).keep e8).keep e10).keep e12) (fun k hk => by have q1 := hFc k hk; omega) hnc hSc ((((((((mx.keep e1).keep e2).keep e3).keep e4).keep e6).keep e8).keep e10).keep e12)) ?_
            rintro v_42 w14 ⟨rfl, e14⟩
            have z14 := e14.size
            refine O.yes rfl (isF' rfl c40) ?_
            refine O.not rfl ?_
            refine O.pickF (isF' rfl c40) ?_
            refine O.nil ?_
            refine hK3 _ _ ?_
            refine C.cond rfl (fun c44 => ?_) (fun c44 => ?_)
            ·
              refine C.seqK fun K9 hK9 => ?_
              refine C.region ?_
              refine O.call Tryz.call14 (argsN) (known_spec _ (((((((((mx.keep e1).keep e2).keep e3).keep e4).keep e6).keep e8).keep e10).keep e12).keep e14)) ?_
              rintro v_45 w15 ⟨rfl, e15⟩
              have z15 := e15.size
              refine O.asg ?_
              refine O.nil ?_
              refine hK9 _ _ ?_
              refine C.ret ?_
              refine Outs.one rfl rfl ?_
              exact ⟨rfl, (Ext.trans (Ext.trans (Ext.trans (Ext.trans (Ext.trans (Ext.trans (Ext.trans (Ext.trans (Ext.trans e1 e2) e3) e4) e6) e8) e10) e12) e14) e15)⟩
            ·
              have hvc : Cn.valid c = true := by simpa using c44
              refine C.skip ?_
              refine hK2 _ _ ?_
              refine C.seqK fun K10 hK10 => ?_
              refine C.region ?_
              refine O.loadOA Tryz.isAgg28 Tryz.sizeOf28 rfl ((((((((h3.keep e2).keep e3).keep e4).keep e6).keep e8).keep e10).keep e12).keep e14) (Nat.le_of_ble_eq_true rfl) ?_
              refine O.call Tryz.call27 (args1 rfl) (encode_spec va1 va2 va3 a F _ (((((((((hav.keep e1).keep e2).keep e3).keep e4).keep e6).keep e8).keep e10).keep e12).keep e14) (((((((((hac.keep e1).keep e2).keep e3).keep e4).keep e6).keep e8).keep e10).keep e12).keep e14) (((((((((hai.keep e1).keep e2).keep e3).keep e4).keep e6).keep e8).keep e10).keep e12).keep e14) (fun k hk => by have q1 := hF k hk; omega) hn hS hp hq (((((((((mx.keep e1).keep e2).keep e3).keep e4).keep e6).keep e8).keep e10).keep e12).keep e14)) ?_
              rintro v_48 w16 ⟨rv48, rfl, hv48, e16⟩
              have z16 := e16.size
              rw [if_pos hva] at hv48
              obtain ⟨xa, hxa⟩ : ∃ xs, xs = Cn.bytes a := ⟨_, rfl⟩
              rw [← hxa] at hv48
              have h48s := hv48.sl
              refine O.mv ?_
              refine O.extract rfl rfl ?_
              refine O.extract rfl rfl ?_
              refine O.cast (v' := .int .i64 0) (congrArg (Value.int .i64) (by rw [hva]; rfl)) ?_
              refine O.asg ?_
              refine O.asg ?_
              refine O.nil ?_
              refine hK10 _ _ ?_
              refine C.seqK fun K11 hK11 => ?_
              refine C.region ?_
              refine O.loadOA Tryz.isAgg28 Tryz.sizeOf28 rfl ((((((((h4.keep e3).keep e4).keep e6).keep e8).keep e10).keep e12).keep e14).keep e16) (Nat.le_of_ble_eq_true rfl) ?_
              refine O.call Tryz.call27 (args1 rfl) (encode_spec vb1 vb2 vb3 b Fb _ ((((((((((hbv.keep e1).keep e2).keep e3).keep e4).keep e6).keep e8).keep e10).keep e12).keep e14).keep e16) ((((((((((hbc.keep e1).keep e2).keep e3).keep e4).keep e6).keep e8).keep e10).keep e12).keep e14).keep e16) ((((((((((hbi.keep e1).keep e2).keep e3).keep e4).keep e6).keep e8).keep e10).keep e12).keep e14).keep e16) (fun k hk => by have q1 := hFb k hk; omega) hnb hSb hpb hqb ((((((((((mx.keep e1).keep e2).keep e3).keep e4).keep e6).keep e8).keep e10).keep e12).keep e14).keep e16)) ?_
              rintro v_53 w17 ⟨rv53, rfl, hv53, e17⟩
              have z17 := e17.size
              rw [if_pos hvb] at hv53
              obtain ⟨xb, hxb⟩ : ∃ xs, xs = Cn.bytes b := ⟨_, rfl⟩
              rw [← hxb] at hv53
              have h53s := hv53.sl
              refine O.mv ?_
              refine O.extract rfl rfl ?_
              refine O.extract rfl rfl ?_
              refine O.cast (v' := .int .i64 0) (congrArg (Value.int .i64) (by rw [hvb]; rfl)) ?_
              refine O.asg ?_
              refine O.asg ?_
              refine O.nil ?_
              refine hK11 _ _ ?_
              refine C.seqK fun K12 hK12 => ?_
              refine C.seqK fun K13 hK13 => ?_
              refine C.draw (by kernel_rfl) fun w18 e18 => ?_
              have z18 := e18.size
              refine D.take (i := 0) rfl rfl rfl rfl (by kernel_rfl) (Le.refl _) ⟨pure _, rfl⟩ (fun w_ hw_ N_ hN => (O.mv (O.nil hN))) ?_
              refine D.take (i := 1) rfl rfl rfl rfl (by kernel_rfl) (Le.refl _) ⟨_, rfl⟩ (fun w_ hw_ N_ hN => (O.neqI rfl rfl (O.cast (v' := .bool false) rfl (O.nil hN)))) ?_
              refine D.take (i := 2) rfl rfl rfl rfl (by kernel_rfl) (Le.refl _) ⟨pure _, rfl⟩ (fun w_ hw_ N_ hN => (O.mv (O.nil hN))) ?_
              refine D.takeYes (i := 3) rfl rfl rfl (by kernel_rfl) rfl rfl (Le.refl _) ⟨pure _, rfl⟩ (fun w_ hw_ N_ hN => (O.mv (O.nil hN))) ?_
              refine D.takeYes (i := 4) rfl rfl rfl (by kernel_rfl) rfl rfl (Le.refl _) ⟨_, rfl⟩ (fun w_ hw_ N_ hN => (O.neqI rfl rfl (O.cast (v' := .bool false) rfl (O.nil hN)))) ?_
              refine D.take (i := 5) rfl rfl rfl rfl (by kernel_rfl) (Le.refl _) pick_form (fun w_ hw_ N_ hN => (O.pickF rfl (O.nil hN))) ?_
              refine D.take (i := 6) rfl rfl rfl rfl (by kernel_rfl) (Le.refl _) ⟨pure _, rfl⟩ (fun w_ hw_ N_ hN => (O.mv (O.nil hN))) ?_
              refine D.takeYes (i := 7) rfl rfl rfl (by kernel_rfl) rfl rfl (Le.refl _) ⟨pure _, rfl⟩ (fun w_ hw_ N_ hN => (O.mv (O.nil hN))) ?_
              refine D.takeYes (i := 8) rfl rfl rfl (by kernel_rfl) rfl rfl (Le.refl _) len_form (fun w_ hw_ N_ hN => (O.len Tryz.underlying32 rfl (((h48s.keep e17).keep e18).keep hw_) (O.nil hN))) ?_
              refine D.takeYes (i := 9) rfl rfl rfl (by kernel_rfl) rfl rfl (Le.refl _) ⟨_, rfl⟩ (fun w_ hw_ N_ hN => (O.lssI rfl rfl (O.nil hN))) ?_
              refine D.cast (v' := .bool false) (congrArg Value.bool (by exact decide_eq_false (by have := Cn.bytes_len a; rw [← hxa] at this; omega))) ?_
              refine D.take (i := 10) rfl rfl rfl rfl (by kernel_rfl) (Le.refl _) pick_form (fun w_ hw_ N_ hN => (O.pickF rfl (O.nil hN))) ?_
              refine D.take (i := 11) rfl rfl rfl rfl (by kernel_rfl) (Le.refl _) ⟨pure _, rfl⟩ (fun w_ hw_ N_ hN => (O.mv (O.nil hN))) ?_
              refine D.takeYes (i := 12) rfl rfl rfl (by kernel_rfl) rfl rfl (Le.refl _) ⟨pure _, rfl⟩ (fun w_ hw_ N_ hN => (O.mv (O.nil hN))) ?_
              refine D.takeYes (i := 13) rfl rfl rfl (by kernel_rfl) rfl rfl (Le.refl _) ⟨_, rfl⟩ (fun w_ hw_ N_ hN => (O.bytesS Tryz.underlying32 Tryz.underlying5 Tryz.underlying9 rfl (((h48s.keep e17).keep e18).keep hw_) (O.nil hN))) ?_
              refine D.takeYes (i := 14) rfl rfl rfl (by kernel_rfl) rfl rfl (Le.refl _) ⟨pure _, rfl⟩ (fun w_ hw_ N_ hN => (O.mv (O.nil hN))) ?_
              refine D.takeYes (i := 15) rfl rfl rfl (by kernel_rfl) rfl rfl (Le.refl _) ⟨_, rfl⟩ (fun w_ hw_ N_ hN => (O.bytesS Tryz.underlying32 Tryz.underlying5 Tryz.underlying9 rfl ((h53s.keep e18).keep hw_) (O.nil hN))) ?_
              refine D.takeYes (i := 16) rfl rfl rfl (by kernel_rfl) rfl rfl (Le.refl _) ⟨_, rfl⟩ (fun w_ hw_ N_ hN => (O.eqlS rfl rfl (O.nil hN))) ?_
              refine D.takeYes (i := 17) rfl rfl rfl (by kernel_rfl) rfl rfl (Le.refl _) ⟨_, rfl⟩ (fun w_ hw_ N_ hN => (O.loadOA Tryz.isAgg28 Tryz.sizeOf28 rfl ((((((((((((h3.keep e2).keep e3).keep e4).keep e6).keep e8).keep e10).keep e12).keep e14).keep e16).keep e17).keep e18).keep hw_) (Nat.le_of_ble_eq_true rfl) (O.nil hN))) ?_
              refine D.takeYes (i := 18) rfl rfl rfl (by kernel_rfl) rfl rfl (Le.refl _) ⟨_, rfl⟩ (fun w_ hw_ N_ hN => (O.loadOA Tryz.isAgg28 Tryz.sizeOf28 rfl (((((((((((h4.keep e3).keep e4).keep e6).keep e8).keep e10).keep e12).keep e14).keep e16).keep e17).keep e18).keep hw_) (Nat.le_of_ble_eq_true rfl) (O.nil hN))) ?_
              refine D.oneYes (i := 19) rfl rfl rfl (by kernel_rfl) ?_
              refine O.call Tryz.call21 (args2 rfl rfl) (same_spec va1 va2 va3 a F vb1 vb2 vb3 b Fb _ ((((((((((((hav.keep e1).keep e2).keep e3).keep e4).keep e6).keep e8).keep e10).keep e12).keep e14).keep e16).keep e17).keep e18) ((((((((((((hac.keep e1).keep e2).keep e3).keep e4).keep e6).keep e8).keep e10).keep e12).keep e14).keep e16).keep e17).keep e18) ((((((((((((hai.keep e1).keep e2).keep e3).keep e4).keep e6).keep e8).keep e10).keep e12).keep e14).keep e16).keep e17).keep e18) ((((((((((((hbv.keep e1).keep e2).keep e3).keep e4).keep e6).keep e8).keep e10).keep e12).keep e14).keep e16).keep e17).keep e18) ((((((((((((hbc.keep e1).keep e2).keep e3).keep e4).keep e6).keep e8).keep e10).keep e12).keep e14).keep e16).keep e17).keep e18) ((((((((((((hbi.keep e1).keep e2).keep e3).keep e4).keep e6).keep e8).keep e10).keep e12).keep e14).keep e16).keep e17).keep e18) (fun k hk => by have q1 := hF k hk; omega) (fun k hk => by have q1 := hFb k hk; omega)) ?_
              rintro v_75 w19 ⟨rfl, e19⟩
              have z19 := e19.size
              refine O.nil ⟨e19, ?_⟩
              refine D.takeYes (i := 20) rfl rfl rfl (by kernel_rfl) rfl rfl e19 ⟨_, rfl⟩ (fun w_ hw_ N_ hN => (O.neqB Tryz.underlying4 rfl rfl (O.nil hN))) ?_
              refine D.cast (v' := .bool false) (congrArg Value.bool (by subst hxa; subst hxb; exact decide_eq_false (fun h => h (decide_eq_decide.2 (Cn.bytes_inj (Cn.validR hva) (Cn.validR hvb)))))) ?_
              refine D.take (i := 21) rfl rfl rfl rfl (by kernel_rfl) e19 pick_form (fun w_ hw_ N_ hN => (O.pickF rfl (O.nil hN))) ?_
              refine D.done (by kernel_rfl) ?_
              refine hK13 _ _ ?_
              refine C.condF rfl ?_
              refine C.skip ?_
              refine hK12 _ _ ?_
              refine C.seqK fun K14 hK14 => ?_
              refine C.seqK fun K15 hK15 => ?_
              refine C.draw (by kernel_rfl) fun w20 e20 => ?_
              have z20 := e20.size
              refine D.take (i := 0) rfl rfl rfl rfl (by kernel_rfl) (Le.refl _) ⟨pure _, rfl⟩ (fun w_ hw_ N_ hN => (O.mv (O.nil hN))) ?_
              refine D.take (i := 1) rfl rfl rfl rfl (by kernel_rfl) (Le.refl _) len_form (fun w_ hw_ N_ hN => (O.len Tryz.underlying32 rfl (((((h48s.keep e17).keep e18).keep e19).keep e20).keep hw_) (O.nil hN))) ?_
              refine D.take (i := 2) rfl rfl rfl rfl (by kernel_rfl) (Le.refl _) ⟨pure _, rfl⟩ (fun w_ hw_ N_ hN => (O.mv (O.nil hN))) ?_
              refine D.take (i := 3) rfl rfl rfl rfl (by kernel_rfl) (Le.refl _) len_form (fun w_ hw_ N_ hN => (O.len Tryz.underlying32 rfl ((((h53s.keep e18).keep e19).keep e20).keep hw_) (O.nil hN))) ?_
              refine D.take (i := 4) rfl rfl rfl rfl (by kernel_rfl) (Le.refl _) ⟨_, rfl⟩ (fun w_ hw_ N_ hN => (O.lssI rfl rfl (O.nil hN))) ?_
              refine D.take (i := 5) rfl rfl rfl rfl (by kernel_rfl) (Le.refl _) ⟨pure _, rfl⟩ (fun w_ hw_ N_ hN => (O.mv (O.nil hN))) ?_
              refine D.splitD (x := .tmp 83) rfl (fun c83 => ?_) (fun c83 => ?_)
              ·
                refine D.takeYes (i := 6) rfl rfl rfl (by kernel_rfl) rfl (isT rfl c83) (Le.refl _) ⟨pure _, rfl⟩ (fun w_ hw_ N_ hN => (O.mv (O.nil hN))) ?_
                refine D.takeYes (i := 7) rfl rfl rfl (by kernel_rfl) rfl (isT rfl c83) (Le.refl _) ⟨pure _, rfl⟩ (fun w_ hw_ N_ hN => (O.mv (O.nil hN))) ?_
                refine D.takeYes (i := 8) rfl rfl rfl (by kernel_rfl) rfl (isT rfl c83) (Le.refl _) len_form (fun w_ hw_ N_ hN => (O.len Tryz.underlying32 rfl (((((h48s.keep e17).keep e18).keep e19).keep e20).keep hw_) (O.nil hN))) ?_
                have hb87 := Sl.sub (P := Tryz.prog) (0) (xa.length) Tryz.underlying32 Tryz.sizeOf5 (by rfl) (((h53s.keep e18).keep e19).keep e20) (Nat.zero_le _) (by omega)
                obtain ⟨v87, hs87, hr87⟩ := hb87
                refine D.takeYes (i := 9) rfl rfl rfl (by kernel_rfl) rfl (isT rfl c83) (Le.refl _) ⟨_, rfl⟩ (fun w_ hw_ N_ hN => (O.subR rfl hr87 (.inl ⟨rfl, rfl⟩) (.inr ⟨_, _, rfl, rfl⟩) (O.nil hN))) ?_
                refine D.takeYes (i := 10) rfl rfl rfl (by kernel_rfl) rfl (isT rfl c83) (Le.refl _) ⟨_, rfl⟩ (fun w_ hw_ N_ hN => (O.bytesS Tryz.underlying32 Tryz.underlying5 Tryz.underlying9 rfl (hs87.keep hw_) (O.nil hN))) ?_
                refine D.takeYes (i := 11) rfl rfl rfl (by kernel_rfl) rfl (isT rfl c83) (Le.refl _) ⟨pure _, rfl⟩ (fun w_ hw_ N_ hN => (O.mv (O.nil hN))) ?_
                refine D.takeYes (i := 12) rfl rfl rfl (by kernel_rfl) rfl (isT rfl c83) (Le.refl _) ⟨_, rfl⟩ (fun w_ hw_ N_ hN => (O.bytesS Tryz.underlying32 Tryz.underlying5 Tryz.underlying9 rfl (((((h48s.keep e17).keep e18).keep e19).keep e20).keep hw_) (O.nil hN))) ?_
                refine D.takeYes (i := 13) rfl rfl rfl (by kernel_rfl) rfl (isT rfl c83) (Le.refl _) ⟨_, rfl⟩ (fun w_ hw_ N_ hN => (O.eqlS rfl rfl (O.nil hN))) ?_
                refine D.cast (v' := .bool false) (congrArg Value.bool (by subst hxa; subst hxb; exact decide_eq_false (fun h => by have := Cn.bytes_take (Cn.validR hva) (Cn.validR hvb) h; omega))) ?_
                refine D.take (i := 14) rfl rfl rfl rfl (by kernel_rfl) (Le.refl _) pick_form (fun w_ hw_ N_ hN => (O.pickT (isT rfl c83) (O.nil hN))) ?_
                refine D.take (i := 15) rfl rfl rfl rfl (by kernel_rfl) (Le.refl _) ⟨pure _, rfl⟩ (fun w_ hw_ N_ hN => (O.mv (O.nil hN))) ?_
                refine D.takeYes (i := 16) rfl rfl rfl (by kernel_rfl) rfl rfl (Le.refl _) ⟨pure _, rfl⟩ (fun w_ hw_ N_ hN => (O.mv (O.nil hN))) ?_
                refine D.takeYes (i := 17) rfl rfl rfl (by kernel_rfl) rfl rfl (Le.refl _) len_form (fun w_ hw_ N_ hN => (O.len Tryz.underlying32 rfl ((((h53s.keep e18).keep e19).keep e20).keep hw_) (O.nil hN))) ?_
                refine D.takeYes (i := 18) rfl rfl rfl (by kernel_rfl) rfl rfl (Le.refl _) ⟨pure _, rfl⟩ (fun w_ hw_ N_ hN => (O.mv (O.nil hN))) ?_
                refine D.takeYes (i := 19) rfl rfl rfl (by kernel_rfl) rfl rfl (Le.refl _) len_form (fun w_ hw_ N_ hN => (O.len Tryz.underlying32 rfl (((((h48s.keep e17).keep e18).keep e19).keep e20).keep hw_) (O.nil hN))) ?_
                refine D.takeYes (i := 20) rfl rfl rfl (by kernel_rfl) rfl rfl (Le.refl _) ⟨_, rfl⟩ (fun w_ hw_ N_ hN => (O.lssI rfl rfl (O.nil hN))) ?_
                refine D.takeYes (i := 21) rfl rfl rfl (by kernel_rfl) rfl rfl (Le.refl _) ⟨pure _, rfl⟩ (fun w_ hw_ N_ hN => (O.mv (O.nil hN))) ?_
                refine D.splitD (x := .tmp 99) rfl (fun c99 => ?_) (fun c99 => ?_)
                ·
                  refine D.takeYes (i := 22) rfl rfl rfl (by kernel_rfl) rfl (isT rfl c99) (Le.refl _) ⟨pure _, rfl⟩ (fun w_ hw_ N_ hN => (O.mv (O.nil hN))) ?_
                  refine D.takeYes (i := 23) rfl rfl rfl (by kernel_rfl) rfl (isT rfl c99) (Le.refl _) ⟨pure _, rfl⟩ (fun w_ hw_ N_ hN => (O.mv (O.nil hN))) ?_
                  refine D.takeYes (i := 24) rfl rfl rfl (by kernel_rfl) rfl (isT rfl c99) (Le.refl _) len_form (fun w_ hw_ N_ hN => (O.len Tryz.underlying32 rfl ((((h53s.keep e18).keep e19).keep e20).keep hw_) (O.nil hN))) ?_
                  have hb103 := Sl.sub (P := Tryz.prog) (0) (xb.length) Tryz.underlying32 Tryz.sizeOf5 (by rfl) ((((h48s.keep e17).keep e18).keep e19).keep e20) (Nat.zero_le _) (by omega)
                  obtain ⟨v103, hs103, hr103⟩ := hb103
                  refine D.takeYes (i := 25) rfl rfl rfl (by kernel_rfl) rfl (isT rfl c99) (Le.refl _) ⟨_, rfl⟩ (fun w_ hw_ N_ hN => (O.subR rfl hr103 (.inl ⟨rfl, rfl⟩) (.inr ⟨_, _, rfl, rfl⟩) (O.nil hN))) ?_
                  refine D.takeYes (i := 26) rfl rfl rfl (by kernel_rfl) rfl (isT rfl c99) (Le.refl _) ⟨_, rfl⟩ (fun w_ hw_ N_ hN => (O.bytesS Tryz.underlying32 Tryz.underlying5 Tryz.underlying9 rfl (hs103.keep hw_) (O.nil hN))) ?_
                  refine D.takeYes (i := 27) rfl rfl rfl (by kernel_rfl) rfl (isT rfl c99) (Le.refl _) ⟨pure _, rfl⟩ (fun w_ hw_ N_ hN => (O.mv (O.nil hN))) ?_
                  refine D.takeYes (i := 28) rfl rfl rfl (by kernel_rfl) rfl (isT rfl c99) (Le.refl _) ⟨_, rfl⟩ (fun w_ hw_ N_ hN => (O.bytesS Tryz.underlying32 Tryz.underlying5 Tryz.underlying9 rfl ((((h53s.keep e18).keep e19).keep e20).keep hw_) (O.nil hN))) ?_
                  refine D.takeYes (i := 29) rfl rfl rfl (by kernel_rfl) rfl (isT rfl c99) (Le.refl _) ⟨_, rfl⟩ (fun w_ hw_ N_ hN => (O.eqlS rfl rfl (O.nil hN))) ?_
                  refine D.cast (v' := .bool false) (congrArg Value.bool (by subst hxa; subst hxb; exact decide_eq_false (fun h => by have := Cn.bytes_take (Cn.validR hvb) (Cn.validR hva) h; omega))) ?_
                  refine D.takeYes (i := 30) rfl rfl rfl (by kernel_rfl) rfl rfl (Le.refl _) pick_form (fun w_ hw_ N_ hN => (O.pickT (isT rfl c99) (O.nil hN))) ?_
                  refine D.take (i := 31) rfl rfl rfl rfl (by kernel_rfl) (Le.refl _) pick_form (fun w_ hw_ N_ hN => (O.pickF rfl (O.nil hN))) ?_
                  refine D.done (by kernel_rfl) ?_
                  refine hK15 _ _ ?_
                  refine C.condF rfl ?_
                  refine C.skip ?_
                  refine hK14 _ _ ?_
                  refine C.seqK fun K16 hK16 => ?_
                  refine C.region ?_
                  refine O.loadOA Tryz.isAgg28 Tryz.sizeOf28 rfl (((((((((((((h3.keep e2).keep e3).keep e4).keep e6).keep e8).keep e10).keep e12).keep e14).keep e16).keep e17).keep e18).keep e19).keep e20) (Nat.le_of_ble_eq_true rfl) ?_
                  refine O.loadOA Tryz.isAgg28 Tryz.sizeOf28 rfl ((((((((((((h4.keep e3).keep e4).keep e6).keep e8).keep e10).keep e12).keep e14).keep e16).keep e17).keep e18).keep e19).keep e20) (Nat.le_of_ble_eq_true rfl) ?_
                  refine O.call Tryz.call28 (args2 rfl rfl) (ccmp2_spec va1 va2 va3 a F vb1 vb2 vb3 b Fb _ ((((((((((((((hav.keep e1).keep e2).keep e3).keep e4).keep e6).keep e8).keep e10).keep e12).keep e14).keep e16).keep e17).keep e18).keep e19).keep e20) ((((((((((((((hac.keep e1).keep e2).keep e3).keep e4).keep e6).keep e8).keep e10).keep e12).keep e14).keep e16).keep e17).keep e18).keep e19).keep e20) ((((((((((((((hai.keep e1).keep e2).keep e3).keep e4).keep e6).keep e8).keep e10).keep e12).keep e14).keep e16).keep e17).keep e18).keep e19).keep e20) (fun k hk => by have q1 := hF k hk; omega) hn hS hp hq ((((((((((((((mx.keep e1).keep e2).keep e3).keep e4).keep e6).keep e8).keep e10).keep e12).keep e14).keep e16).keep e17).keep e18).keep e19).keep e20) ((((((((((((((hbv.keep e1).keep e2).keep e3).keep e4).keep e6).keep e8).keep e10).keep e12).keep e14).keep e16).keep e17).keep e18).keep e19).keep e20) ((((((((((((((hbc.keep e1).keep e2).keep e3).keep e4).keep e6).keep e8).keep e10).keep e12).keep e14).keep e16).keep e17).keep e18).keep e19).keep e20) ((((((((((((((hbi.keep e1).keep e2).keep e3).keep e4).keep e6).keep e8).keep e10).keep e12).keep e14).keep e16).keep e17).keep e18).keep e19).keep e20) (fun k hk => by have q1 := hFb k hk; omega) hnb hSb hpb hqb) ?_
                  rintro v_113 w21 ⟨rfl, e21⟩
                  have z21 := e21.size
                  refine O.mv ?_
                  refine O.extract rfl rfl ?_
                  refine O.cast (v' := .int .i64 (Cn.cmpB (Cn.bytes a) (Cn.bytes b))) (congrArg (Value.int .i64) (by rw [hva, hvb]; rfl)) ?_
                  refine O.extract rfl rfl ?_
                  refine O.cast (v' := .int .i64 0) (congrArg (Value.int .i64) (by rw [hva, hvb]; rfl)) ?_
                  refine O.asg ?_
                  refine O.asg ?_
                  refine O.nil ?_
                  refine hK16 _ _ ?_
                  refine C.seqK fun K17 hK17 => ?_
                  refine C.region ?_
                  refine O.loadOA Tryz.isAgg28 Tryz.sizeOf28 rfl (((((((((((((h4.keep e3).keep e4).keep e6).keep e8).keep e10).keep e12).keep e14).keep e16).keep e17).keep e18).keep e19).keep e20).keep e21) (Nat.le_of_ble_eq_true rfl) ?_
                  refine O.loadOA Tryz.isAgg28 Tryz.sizeOf28 rfl ((((((((((((h5.keep e4).keep e6).keep e8).keep e10).keep e12).keep e14).keep e16).keep e17).keep e18).keep e19).keep e20).keep e21) (Nat.le_of_ble_eq_true rfl) ?_
                  refine O.call Tryz.call28 (args2 rfl rfl) (ccmp2_spec vb1 vb2 vb3 b Fb vc1 vc2 vc3 c Fc _ (((((((((((((((hbv.keep e1).keep e2).keep e3).keep e4).keep e6).keep e8).keep e10).keep e12).keep e14).keep e16).keep e17).keep e18).keep e19).keep e20).keep e21) (((((((((((((((hbc.keep e1).keep e2).keep e3).keep e4).keep e6).keep e8).keep e10).keep e12).keep e14).keep e16).keep e17).keep e18).keep e19).keep e20).keep e21) (((((((((((((((hbi.keep e1).keep e2).keep e3).keep e4).keep e6).keep e8).keep e10).keep e12).keep e14).keep e16).keep e17).keep e18).keep e19).keep e20).keep e21) (fun k hk => by have q1 := hFb k hk; omega) hnb hSb hpb hqb (((((((((((((((mx.keep e1).keep e2).keep e3).keep e4).keep e6).keep e8).keep e10).keep e12).keep e14).keep e16).keep e17).keep e18).keep e19).keep e20).keep e21) (((((((((((((((hcv.keep e1).keep e2).keep e3).keep e4).keep e6).keep e8).keep e10).keep e12).keep e14).keep e16).keep e17).keep e18).keep e19).keep e20).keep e21) (((((((((((((((hcc.keep e1).keep e2).keep e3).keep e4).keep e6).keep e8).keep e10).keep e12).keep e14).keep e16).keep e17).keep e18).keep e19).keep e20).keep e21) (((((((((((((((hci.keep e1).keep e2).keep e3).keep e4).keep e6).keep e8).keep e10).keep e12).keep e14).keep e16).keep e17).keep e18).keep e19).keep e20).keep e21) (fun k hk => by have q1 := hFc k hk; omega) hnc hSc hpc hqc) ?_
                  rintro v_119 w22 ⟨rfl, e22⟩
                  have z22 := e22.size
                  refine O.mv ?_
                  refine O.extract rfl rfl ?_
                  refine O.cast (v' := .int .i64 (Cn.cmpB (Cn.bytes b) (Cn.bytes c))) (congrArg (Value.int .i64) (by rw [hvb, hvc]; rfl)) ?_
                  refine O.extract rfl rfl ?_
                  refine O.cast (v' := .int .i64 0) (congrArg (Value.int .i64) (by rw [hvb, hvc]; rfl)) ?_
                  refine O.asg ?_
                  refine O.asg ?_
                  refine O.nil ?_
                  refine hK17 _ _ ?_
                  refine C.seqK fun K18 hK18 => ?_
                  refine C.region ?_
                  refine O.loadOA Tryz.isAgg28 Tryz.sizeOf28 rfl (((((((((((((((h3.keep e2).keep e3).keep e4).keep e6).keep e8).keep e10).keep e12).keep e14).keep e16).keep e17).keep e18).keep e19).keep e20).keep e21).keep e22) (Nat.le_of_ble_eq_true rfl) ?_
                  refine O.loadOA Tryz.isAgg28 Tryz.sizeOf28 rfl (((((((((((((h5.keep e4).keep e6).keep e8).keep e10).keep e12).keep e14).keep e16).keep e17).keep e18).keep e19).keep e20).keep e21).keep e22) (Nat.le_of_ble_eq_true rfl) ?_
                  refine O.call Tryz.call28 (args2 rfl rfl) (ccmp2_spec va1 va2 va3 a F vc1 vc2 vc3 c Fc _ ((((((((((((((((hav.keep e1).keep e2).keep e3).keep e4).keep e6).keep e8).keep e10).keep e12).keep e14).keep e16).keep e17).keep e18).keep e19).keep e20).keep e21).keep e22) ((((((((((((((((hac.keep e1).keep e2).keep e3).keep e4).keep e6).keep e8).keep e10).keep e12).keep e14).keep e16).keep e17).keep e18).keep e19).keep e20).keep e21).keep e22) ((((((((((((((((hai.keep e1).keep e2).keep e3).keep e4).keep e6).keep e8).keep e10).keep e12).keep e14).keep e16).keep e17).keep e18).keep e19).keep e20).keep e21).keep e22) (fun k hk => by have q1 := hF k hk; omega) hn hS hp hq ((((((((((((((((mx.keep e1).keep e2).keep e3).keep e4).keep e6).keep e8).keep e10).keep e12).keep e14).keep e16).keep e17).keep e18).keep e19).keep e20).keep e21).keep e22) ((((((((((((((((hcv.keep e1).keep e2).keep e3).keep e4).keep e6).keep e8).keep e10).keep e12).keep e14).keep e16).keep e17).keep e18).keep e19).keep e20).keep e21).keep e22) ((((((((((((((((hcc.keep e1).keep e2).keep e3).keep e4).keep e6).keep e8).keep e10).keep e12).keep e14).keep e16).keep e17).keep e18).keep e19).keep e20).keep e21).keep e22) ((((((((((((((((hci.keep e1).keep e2).keep e3).keep e4).keep e6).keep e8).keep e10).keep e12).keep e14).keep e16).keep e17).keep e18).keep e19).keep e20).keep e21).keep e22) (fun k hk => by have q1 := hFc k hk; omega) hnc hSc hpc hqc) ?_
                  rintro v_125 w23 ⟨rfl, e23⟩
                  have z23 := e23.size
                  refine O.mv ?_
                  refine O.extract rfl rfl ?_
                  refine O.cast (v' := .int .i64 (Cn.cmpB (Cn.bytes a) (Cn.bytes c))) (congrArg (Value.int .i64) (by rw [hva, hvc]; rfl)) ?_
                  refine O.extract rfl rfl ?_
                  refine O.cast (v' := .int .i64 0) (congrArg (Value.int .i64) (by rw [hva, hvc]; rfl)) ?_
                  refine O.asg ?_
                  refine O.asg ?_
                  refine O.nil ?_
                  refine hK18 _ _ ?_
                  refine C.seqK fun K19 hK19 => ?_
                  refine C.region ?_
                  refine O.loadOA Tryz.isAgg28 Tryz.sizeOf28 rfl (((((((((((((((h4.keep e3).keep e4).keep e6).keep e8).keep e10).keep e12).keep e14).keep e16).keep e17).keep e18).keep e19).keep e20).keep e21).keep e22).keep e23) (Nat.le_of_ble_eq_true rfl) ?_
                  refine O.loadOA Tryz.isAgg28 Tryz.sizeOf28 rfl ((((((((((((((((h3.keep e2).keep e3).keep e4).keep e6).keep e8).keep e10).keep e12).keep e14).keep e16).keep e17).keep e18).keep e19).keep e20).keep e21).keep e22).keep e23) (Nat.le_of_ble_eq_true rfl) ?_
                  refine O.call Tryz.call28 (args2 rfl rfl) (ccmp2_spec vb1 vb2 vb3 b Fb va1 va2 va3 a F _ (((((((((((((((((hbv.keep e1).keep e2).keep e3).keep e4).keep e6).keep e8).keep e10).keep e12).keep e14).keep e16).keep e17).keep e18).keep e19).keep e20).keep e21).keep e22).keep e23) (((((((((((((((((hbc.keep e1).keep e2).keep e3).keep e4).keep e6).keep e8).keep e10).keep e12).keep e14).keep e16).keep e17).keep e18).keep e19).keep e20).keep e21).keep e22).keep e23) (((((((((((((((((hbi.keep e1).keep e2).keep e3).keep e4).keep e6).keep e8).keep e10).keep e12).keep e14).keep e16).keep e17).keep e18).keep e19).keep e20).keep e21).keep e22).keep e23) (fun k hk => by have q1 := hFb k hk; omega) hnb hSb hpb hqb (((((((((((((((((mx.keep e1).keep e2).keep e3).keep e4).keep e6).keep e8).keep e10).keep e12).keep e14).keep e16).keep e17).keep e18).keep e19).keep e20).keep e21).keep e22).keep e23) (((((((((((((((((hav.keep e1).keep e2).keep e3).keep e4).keep e6).keep e8).keep e10).keep e12).keep e14).keep e16).keep e17).keep e18).keep e19).keep e20).keep e21).keep e22).keep e23) (((((((((((((((((hac.keep e1).keep e2).keep e3).keep e4).keep e6).keep e8).keep e10).keep e12).keep e14).keep e16).keep e17).keep e18).keep e19).keep e20).keep e21).keep e22).keep e23) (((((((((((((((((hai.keep e1).keep e2).keep e3).keep e4).keep e6).keep e8).keep e10).keep e12).keep e14).keep e16).keep e17).keep e18).keep e19).keep e20).keep e21).keep e22).keep e23) (fun k hk => by have q1 := hF k hk; omega) hn hS hp hq) ?_
                  rintro v_131 w24 ⟨rfl, e24⟩
                  have z24 := e24.size
                  refine O.mv ?_
                  refine O.extract rfl rfl ?_
                  refine O.cast (v' := .int .i64 (Cn.cmpB (Cn.bytes b) (Cn.bytes a))) (congrArg (Value.int .i64) (by rw [hvb, hva]; rfl)) ?_
                  refine O.extract rfl rfl ?_
                  refine O.cast (v' := .int .i64 0) (congrArg (Value.int .i64) (by rw [hvb, hva]; rfl)) ?_
                  refine O.asg ?_
                  refine O.asg ?_
                  refine O.nil ?_
                  refine hK19 _ _ ?_
                  refine C.seqK fun K20 hK20 => ?_
                  refine C.region ?_
                  refine O.mv ?_
                  refine O.eqlI rfl rfl ?_
                  refine O.cast (v' := .bool true) rfl ?_
                  refine O.mv ?_
                  refine O.yes rfl rfl ?_
                  refine O.mv ?_
                  refine O.yes rfl rfl ?_
                  refine O.eqlI rfl rfl ?_
                  refine O.cast (v' := .bool true) rfl ?_
                  refine O.pickT rfl ?_
                  refine O.mv ?_
                  refine O.yes rfl rfl ?_
                  refine O.mv ?_
                  refine O.yes rfl rfl ?_
                  refine O.eqlI rfl rfl ?_
                  refine O.cast (v' := .bool true) rfl ?_
                  refine O.pickT rfl ?_
                  refine O.mv ?_
                  refine O.yes rfl rfl ?_
                  refine O.mv ?_
                  refine O.yes rfl rfl ?_
                  refine O.eqlI rfl rfl ?_
                  refine O.cast (v' := .bool true) rfl ?_
                  refine O.pickT rfl ?_
                  refine O.mv ?_
                  refine O.yes rfl rfl ?_
                  refine O.mv ?_
                  refine O.yes rfl rfl ?_
                  refine O.mv ?_
                  refine O.yes rfl rfl ?_
                  refine O.negI rfl (by have := Cn.cmpB_in (Cn.bytes a) (Cn.bytes b); unfold InI; omega) ?_
                  refine O.yes rfl rfl ?_
                  refine O.eqlI rfl rfl ?_
                  refine O.cast (v' := .bool true) (congrArg Value.bool (by exact decide_eq_true (Cn.cmpB_neg (Cn.bytes a) (Cn.bytes b)))) ?_
                  refine O.pickT rfl ?_
                  refine O.mv ?_
                  refine O.yes rfl rfl ?_
                  refine O.mv ?_
                  refine O.yes rfl rfl ?_
                  refine O.eqlI rfl rfl ?_
                  refine O.yes rfl rfl ?_
                  refine O.loadOA Tryz.isAgg28 Tryz.sizeOf28 rfl (((((((((((((((((h3.keep e2).keep e3).keep e4).keep e6).keep e8).keep e10).keep e12).keep e14).keep e16).keep e17).keep e18).keep e19).keep e20).keep e21).keep e22).keep e23).keep e24) (Nat.le_of_ble_eq_true rfl) ?_
                  refine O.yes rfl rfl ?_
                  refine O.loadOA Tryz.isAgg28 Tryz.sizeOf28 rfl ((((((((((((((((h4.keep e3).keep e4).keep e6).keep e8).keep e10).keep e12).keep e14).keep e16).keep e17).keep e18).keep e19).keep e20).keep e21).keep e22).keep e23).keep e24) (Nat.le_of_ble_eq_true rfl) ?_
                  refine O.yes rfl rfl ?_
                  refine O.call Tryz.call21 (args2 rfl rfl) (same_spec va1 va2 va3 a F vb1 vb2 vb3 b Fb _ ((((((((((((((((((hav.keep e1).keep e2).keep e3).keep e4).keep e6).keep e8).keep e10).keep e12).keep e14).keep e16).keep e17).keep e18).keep e19).keep e20).keep e21).keep e22).keep e23).keep e24) ((((((((((((((((((hac.keep e1).keep e2).keep e3).keep e4).keep e6).keep e8).keep e10).keep e12).keep e14).keep e16).keep e17).keep e18).keep e19).keep e20).keep e21).keep e22).keep e23).keep e24) ((((((((((((((((((hai.keep e1).keep e2).keep e3).keep e4).keep e6).keep e8).keep e10).keep e12).keep e14).keep e16).keep e17).keep e18).keep e19).keep e20).keep e21).keep e22).keep e23).keep e24) ((((((((((((((((((hbv.keep e1).keep e2).keep e3).keep e4).keep e6).keep e8).keep e10).keep e12).keep e14).keep e16).keep e17).keep e18).keep e19).keep e20).keep e21).keep e22).keep e23).keep e24) ((((((((((((((((((hbc.keep e1).keep e2).keep e3).keep e4).keep e6).keep e8).keep e10).keep e12).keep e14).keep e16).keep e17).keep e18).keep e19).keep e20).keep e21).keep e22).keep e23).keep e24) ((((((((((((((((((hbi.keep e1).keep e2).keep e3).keep e4).keep e6).keep e8).keep e10).keep e12).keep e14).keep e16).keep e17).keep e18).keep e19).keep e20).keep e21).keep e22).keep e23).keep e24) (fun k hk => by have q1 := hF k hk; omega) (fun k hk => by have q1 := hFb k hk; omega)) ?_
                  rintro v_159 w25 ⟨rfl, e25⟩
                  have z25 := e25.size
                  refine O.yes rfl rfl ?_
                  refine O.eqlB Tryz.underlying4 rfl rfl ?_
                  refine O.cast (v' := .bool true) (congrArg Value.bool (by exact decide_eq_true (decide_eq_decide.2 ((Cn.cmpB_zero _ _).trans (Cn.bytes_inj (Cn.validR hva) (Cn.validR hvb)))))) ?_
                  refine O.pickT rfl ?_
                  refine O.mv ?_
                  refine O.yes rfl rfl ?_
                  refine O.mv ?_
                  refine O.yes rfl rfl ?_
                  refine O.gtrI rfl rfl ?_
                  refine O.yes rfl rfl ?_
                  refine O.mv ?_
                  refine O.splitD (x := .tmp 165) rfl (fun c165 => ?_) (fun c165 => ?_)
                  ·
                    refine O.no rfl (noB (isT rfl c165) rfl) ?_
                    refine O.no rfl (noB (isT rfl c165) rfl) ?_
                    refine O.yes rfl rfl ?_
                    refine O.pickT (isT rfl c165) ?_
                    refine O.yes rfl rfl ?_
                    refine O.mv ?_
                    refine O.no rfl (noB rfl rfl) ?_
                    refine O.no rfl (noB rfl rfl) ?_
                    refine O.yes rfl rfl ?_
                    refine O.pickT rfl ?_
                    refine O.pickT rfl ?_
                    refine O.mv ?_
                    refine O.yes rfl rfl ?_
                    refine O.mv ?_
                    refine O.yes rfl rfl ?_
                    refine O.lssI rfl rfl ?_
                    refine O.yes rfl rfl ?_
                    refine O.mv ?_
                    refine O.splitD (x := .tmp 177) rfl (fun c177 => ?_) (fun c177 => ?_)
                    ·
                      refine O.no rfl (noB (isT rfl c177) rfl) ?_
                      refine O.no rfl (noB (isT rfl c177) rfl) ?_
                      refine O.yes rfl rfl ?_
                      refine O.pickT (isT rfl c177) ?_
                      refine O.yes rfl rfl ?_
                      refine O.mv ?_
                      refine O.no rfl (noB rfl rfl) ?_
                      refine O.no rfl (noB rfl rfl) ?_
                      refine O.yes rfl rfl ?_
                      refine O.pickT rfl ?_
                      refine O.pickT rfl ?_
                      refine O.mv ?_
                      refine O.yes rfl rfl ?_
                      refine O.call Tryz.call14 (argsN) (known_spec _ (((((((((((((((((((mx.keep e1).keep e2).keep e3).keep e4).keep e6).keep e8).keep e10).keep e12).keep e14).keep e16).keep e17).keep e18).keep e19).keep e20).keep e21).keep e22).keep e23).keep e24).keep e25)) ?_
                      rintro v_187 w26 ⟨rfl, e26⟩
                      have z26 := e26.size
                      refine O.pickT rfl ?_
                      refine O.asg ?_
                      refine O.nil ?_
                      refine hK20 _ _ ?_
                      refine C.ret ?_
                      refine Outs.one rfl rfl ?_
                      exact ⟨rfl, (Ext.trans (Ext.trans (Ext.trans (Ext.trans (Ext.trans (Ext.trans (Ext.trans (Ext.trans (Ext.trans (Ext.trans (Ext.trans (Ext.trans (Ext.trans (Ext.trans (Ext.trans (Ext.trans (Ext.trans (Ext.trans (Ext.trans e1 e2) e3) e4) e6) e8) e10) e12) e14) e16) e17) e18) e19) e20) e21) e22) e23) e24) e25) e26)⟩
                    ·
                      refine O.yes rfl (isF rfl c177) ?_
                      refine O.mv ?_
                      refine O.yes rfl (isF rfl c177) ?_
                      refine O.lssI rfl rfl ?_
                      refine O.yes rfl rfl ?_
                      refine O.pickF (isF rfl c177) ?_
                      refine O.yes rfl rfl ?_
                      refine O.mv ?_
                      refine O.splitD (x := .tmp 181) rfl (fun c181 => ?_) (fun c181 => ?_)
                      ·
                        refine O.no rfl (noB (isT rfl c181) rfl) ?_
                        refine O.no rfl (noB (isT rfl c181) rfl) ?_
                        refine O.yes rfl rfl ?_
                        refine O.pickT (isT rfl c181) ?_
                        refine O.pickT rfl ?_
                        refine O.mv ?_
                        refine O.yes rfl rfl ?_
                        refine O.call Tryz.call14 (argsN) (known_spec _ (((((((((((((((((((mx.keep e1).keep e2).keep e3).keep e4).keep e6).keep e8).keep e10).keep e12).keep e14).keep e16).keep e17).keep e18).keep e19).keep e20).keep e21).keep e22).keep e23).keep e24).keep e25)) ?_
                        rintro v_187 w27 ⟨rfl, e27⟩
                        have z27 := e27.size
                        refine O.pickT rfl ?_
                        refine O.asg ?_
                        refine O.nil ?_
                        refine hK20 _ _ ?_
                        refine C.ret ?_
                        refine Outs.one rfl rfl ?_
                        exact ⟨rfl, (Ext.trans (Ext.trans (Ext.trans (Ext.trans (Ext.trans (Ext.trans (Ext.trans (Ext.trans (Ext.trans (Ext.trans (Ext.trans (Ext.trans (Ext.trans (Ext.trans (Ext.trans (Ext.trans (Ext.trans (Ext.trans (Ext.trans e1 e2) e3) e4) e6) e8) e10) e12) e14) e16) e17) e18) e19) e20) e21) e22) e23) e24) e25) e27)⟩
                      ·
                        refine O.yes rfl (isF rfl c181) ?_
                        refine O.mv ?_
                        refine O.yes rfl (isF rfl c181) ?_
                        refine O.geqI rfl rfl ?_
                        refine O.cast (v' := .bool true) (congrArg Value.bool (by exact decide_eq_true (cmpB_ge (Cn.bytes a) (Cn.bytes b) (Cn.bytes c) (by omega) (by omega)))) ?_
                        refine O.yes rfl rfl ?_
                        refine O.pickF (isF rfl c181) ?_
                        refine O.pickT rfl ?_
                        refine O.mv ?_
                        refine O.yes rfl rfl ?_
                        refine O.call Tryz.call14 (argsN) (known_spec _ (((((((((((((((((((mx.keep e1).keep e2).keep e3).keep e4).keep e6).keep e8).keep e10).keep e12).keep e14).keep e16).keep e17).keep e18).keep e19).keep e20).keep e21).keep e22).keep e23).keep e24).keep e25)) ?_
                        rintro v_187 w28 ⟨rfl, e28⟩
                        have z28 := e28.size
                        refine O.pickT rfl ?_
                        refine O.asg ?_
                        refine O.nil ?_
                        refine hK20 _ _ ?_
                        refine C.ret ?_
                        refine Outs.one rfl rfl ?_
                        exact ⟨rfl, (Ext.trans (Ext.trans (Ext.trans (Ext.trans (Ext.trans (Ext.trans (Ext.trans (Ext.trans (Ext.trans (Ext.trans (Ext.trans (Ext.trans (Ext.trans (Ext.trans (Ext.trans (Ext.trans (Ext.trans (Ext.trans (Ext.trans e1 e2) e3) e4) e6) e8) e10) e12) e14) e16) e17) e18) e19) e20) e21) e22) e23) e24) e25) e28)⟩
                  ·
                    refine O.yes rfl (isF rfl c165) ?_
                    refine O.mv ?_
                    refine O.yes rfl (isF rfl c165) ?_
                    refine O.gtrI rfl rfl ?_
                    refine O.yes rfl rfl ?_
                    refine O.pickF (isF rfl c165) ?_
                    refine O.yes rfl rfl ?_
                    refine O.mv ?_
                    refine O.splitD (x := .tmp 169) rfl (fun c169 => ?_) (fun c169 => ?_)
                    ·
                      refine O.no rfl (noB (isT rfl c169) rfl) ?_
                      refine O.no rfl (noB (isT rfl c169) rfl) ?_
                      refine O.yes rfl rfl ?_
                      refine O.pickT (isT rfl c169) ?_
                      refine O.pickT rfl ?_
                      refine O.mv ?_
                      refine O.yes rfl rfl ?_
                      refine O.mv ?_
                      refine O.yes rfl rfl ?_
                      refine O.lssI rfl rfl ?_
                      refine O.yes rfl rfl ?_
                      refine O.mv ?_
                      refine O.splitD (x := .tmp 177) rfl (fun c177 => ?_) (fun c177 => ?_)
                      ·
                        refine O.no rfl (noB (isT rfl c177) rfl) ?_
                        refine O.no rfl (noB (isT rfl c177) rfl) ?_
                        refine O.yes rfl rfl ?_
                        refine O.pickT (isT rfl c177) ?_
                        refine O.yes rfl rfl ?_
                        refine O.mv ?_
                        refine O.no rfl (noB rfl rfl) ?_
                        refine O.no rfl (noB rfl rfl) ?_
                        refine O.yes rfl rfl ?_
                        refine O.pickT rfl ?_
                        refine O.pickT rfl ?_
                        refine O.mv ?_
                        refine O.yes rfl rfl ?_
                        refine O.call Tryz.call14 (argsN) (known_spec _ (((((((((((((((((((mx.keep e1).keep e2).keep e3).keep e4).keep e6).keep e8).keep e10).keep e12).keep e14).keep e16).keep e17).keep e18).keep e19).keep e20).keep e21).keep e22).keep e23).keep e24).keep e25)) ?_
                        rintro v_187 w29 ⟨rfl, e29⟩
                        have z29 := e29.size
                        refine O.pickT rfl ?_
                        refine O.asg ?_
                        refine O.nil ?_
                        refine hK20 _ _ ?_
                        refine C.ret ?_
                        refine Outs.one rfl rfl ?_
                        exact ⟨rfl, (Ext.trans (Ext.trans (Ext.trans (Ext.trans (Ext.trans (Ext.trans (Ext.trans (Ext.trans (Ext.trans (Ext.trans (Ext.trans (Ext.trans (Ext.trans (Ext.trans (Ext.trans (Ext.trans (Ext.trans (Ext.trans (Ext.trans e1 e2) e3) e4) e6) e8) e10) e12) e14) e16) e17) e18) e19) e20) e21) e22) e23) e24) e25) e29)⟩
                      ·
                        refine O.yes rfl (isF rfl c177) ?_
                        refine O.mv ?_
                        refine O.yes rfl (isF rfl c177) ?_
                        refine O.lssI rfl rfl ?_
                        refine O.yes rfl rfl ?_
                        refine O.pickF (isF rfl c177) ?_
                        refine O.yes rfl rfl ?_
                        refine O.mv ?_
                        refine O.splitD (x := .tmp 181) rfl (fun c181 => ?_) (fun c181 => ?_)
                        ·
                          refine O.no rfl (noB (isT rfl c181) rfl) ?_
                          refine O.no rfl (noB (isT rfl c181) rfl) ?_
                          refine O.yes rfl rfl ?_
                          refine O.pickT (isT rfl c181) ?_
                          refine O.pickT rfl ?_
                          refine O.mv ?_
                          refine O.yes rfl rfl ?_
                          refine O.call Tryz.call14 (argsN) (known_spec _ (((((((((((((((((((mx.keep e1).keep e2).keep e3).keep e4).keep e6).keep e8).keep e10).keep e12).keep e14).keep e16).keep e17).keep e18).keep e19).keep e20).keep e21).keep e22).keep e23).keep e24).keep e25)) ?_
                          rintro v_187 w30 ⟨rfl, e30⟩
                          have z30 := e30.size
                          refine O.pickT rfl ?_
                          refine O.asg ?_
                          refine O.nil ?_
                          refine hK20 _ _ ?_
                          refine C.ret ?_
                          refine Outs.one rfl rfl ?_
                          exact ⟨rfl, (Ext.trans (Ext.trans (Ext.trans (Ext.trans (Ext.trans (Ext.trans (Ext.trans (Ext.trans (Ext.trans (Ext.trans (Ext.trans (Ext.trans (Ext.trans (Ext.trans (Ext.trans (Ext.trans (Ext.trans (Ext.trans (Ext.trans e1 e2) e3) e4) e6) e8) e10) e12) e14) e16) e17) e18) e19) e20) e21) e22) e23) e24) e25) e30)⟩
                        ·
                          refine O.yes rfl (isF rfl c181) ?_
                          refine O.mv ?_
                          refine O.yes rfl (isF rfl c181) ?_
                          refine O.geqI rfl rfl ?_
                          refine O.cast (v' := .bool true) (congrArg Value.bool (by exact decide_eq_true (cmpB_ge (Cn.bytes a) (Cn.bytes b) (Cn.bytes c) (by omega) (by omega)))) ?_
                          refine O.yes rfl rfl ?_
                          refine O.pickF (isF rfl c181) ?_
                          refine O.pickT rfl ?_
                          refine O.mv ?_
                          refine O.yes rfl rfl ?_
                          refine O.call Tryz.call14 (argsN) (known_spec _ (((((((((((((((((((mx.keep e1).keep e2).keep e3).keep e4).keep e6).keep e8).keep e10).keep e12).keep e14).keep e16).keep e17).keep e18).keep e19).keep e20).keep e21).keep e22).keep e23).keep e24).keep e25)) ?_
                          rintro v_187 w31 ⟨rfl, e31⟩
                          have z31 := e31.size
                          refine O.pickT rfl ?_
                          refine O.asg ?_
                          refine O.nil ?_
                          refine hK20 _ _ ?_
                          refine C.ret ?_
                          refine Outs.one rfl rfl ?_
                          exact ⟨rfl, (Ext.trans (Ext.trans (Ext.trans (Ext.trans (Ext.trans (Ext.trans (Ext.trans (Ext.trans (Ext.trans (Ext.trans (Ext.trans (Ext.trans (Ext.trans (Ext.trans (Ext.trans (Ext.trans (Ext.trans (Ext.trans (Ext.trans e1 e2) e3) e4) e6) e8) e10) e12) e14) e16) e17) e18) e19) e20) e21) e22) e23) e24) e25) e31)⟩
                    ·
                      refine O.yes rfl (isF rfl c169) ?_
                      refine O.mv ?_
                      refine O.yes rfl (isF rfl c169) ?_
                      refine O.leqI rfl rfl ?_
                      refine O.cast (v' := .bool true) (congrArg Value.bool (by exact decide_eq_true (Cn.cmpB_trans (Cn.bytes a) (Cn.bytes b) (Cn.bytes c) (by omega) (by omega)))) ?_
                      refine O.yes rfl rfl ?_
                      refine O.pickF (isF rfl c169) ?_
                      refine O.pickT rfl ?_
                      refine O.mv ?_
                      refine O.yes rfl rfl ?_
                      refine O.mv ?_
                      refine O.yes rfl rfl ?_
                      refine O.lssI rfl rfl ?_
                      refine O.yes rfl rfl ?_
                      refine O.mv ?_
                      refine O.splitD (x := .tmp 177) rfl (fun c177 => ?_) (fun c177 => ?_)
                      ·
                        refine O.no rfl (noB (isT rfl c177) rfl) ?_
                        refine O.no rfl (noB (isT rfl c177) rfl) ?_
                        refine O.yes rfl rfl ?_
                        refine O.pickT (isT rfl c177) ?_
                        refine O.yes rfl rfl ?_
                        refine O.mv ?_
                        refine O.no rfl (noB rfl rfl) ?_
                        refine O.no rfl (noB rfl rfl) ?_
                        refine O.yes rfl rfl ?_
                        refine O.pickT rfl ?_
                        refine O.pickT rfl ?_
                        refine O.mv ?_
                        refine O.yes rfl rfl ?_
                        refine O.call Tryz.call14 (argsN) (known_spec _ (((((((((((((((((((mx.keep e1).keep e2).keep e3).keep e4).keep e6).keep e8).keep e10).keep e12).keep e14).keep e16).keep e17).keep e18).keep e19).keep e20).keep e21).keep e22).keep e23).keep e24).keep e25)) ?_
                        rintro v_187 w32 ⟨rfl, e32⟩
                        have z32 := e32.size
                        refine O.pickT rfl ?_
                        refine O.asg ?_
                        refine O.nil ?_
                        refine hK20 _ _ ?_
                        refine C.ret ?_
                        refine Outs.one rfl rfl ?_
                        exact ⟨rfl, (Ext.trans (Ext.trans (Ext.trans (Ext.trans (Ext.trans (Ext.trans (Ext.trans (Ext.trans (Ext.trans (Ext.trans (Ext.trans (Ext.trans (Ext.trans (Ext.trans (Ext.trans (Ext.trans (Ext.trans (Ext.trans (Ext.trans e1 e2) e3) e4) e6) e8) e10) e12) e14) e16) e17) e18) e19) e20) e21) e22) e23) e24) e25) e32)⟩
                      ·
                        refine O.yes rfl (isF rfl c177) ?_
                        refine O.mv ?_
                        refine O.yes rfl (isF rfl c177) ?_
                        refine O.lssI rfl rfl ?_
                        refine O.yes rfl rfl ?_
                        refine O.pickF (isF rfl c177) ?_
                        refine O.yes rfl rfl ?_
                        refine O.mv ?_
                        refine O.splitD (x := .tmp 181) rfl (fun c181 => ?_) (fun c181 => ?_)
                        ·
                          refine O.no rfl (noB (isT rfl c181) rfl) ?_
                          refine O.no rfl (noB (isT rfl c181) rfl) ?_
                          refine O.yes rfl rfl ?_
                          refine O.pickT (isT rfl c181) ?_
                          refine O.pickT rfl ?_
                          refine O.mv ?_
                          refine O.yes rfl rfl ?_
                          refine O.call Tryz.call14 (argsN) (known_spec _ (((((((((((((((((((mx.keep e1).keep e2).keep e3).keep e4).keep e6).keep e8).keep e10).keep e12).keep e14).keep e16).keep e17).keep e18).keep e19).keep e20).keep e21).keep e22).keep e23).keep e24).keep e25)) ?_
                          rintro v_187 w33 ⟨rfl, e33⟩
                          have z33 := e33.size
                          refine O.pickT rfl ?_
                          refine O.asg ?_
                          refine O.nil ?_
                          refine hK20 _ _ ?_
                          refine C.ret ?_
                          refine Outs.one rfl rfl ?_
                          exact ⟨rfl, (Ext.trans (Ext.trans (Ext.trans (Ext.trans (Ext.trans (Ext.trans (Ext.trans (Ext.trans (Ext.trans (Ext.trans (Ext.trans (Ext.trans (Ext.trans (Ext.trans (Ext.trans (Ext.trans (Ext.trans (Ext.trans (Ext.trans e1 e2) e3) e4) e6) e8) e10) e12) e14) e16) e17) e18) e19) e20) e21) e22) e23) e24) e25) e33)⟩
                        ·
                          refine O.yes rfl (isF rfl c181) ?_
                          refine O.mv ?_
                          refine O.yes rfl (isF rfl c181) ?_
                          refine O.geqI rfl rfl ?_
                          refine O.cast (v' := .bool true) (congrArg Value.bool (by exact decide_eq_true (cmpB_ge (Cn.bytes a) (Cn.bytes b) (Cn.bytes c) (by omega) (by omega)))) ?_
                          refine O.yes rfl rfl ?_
                          refine O.pickF (isF rfl c181) ?_
                          refine O.pickT rfl ?_
                          refine O.mv ?_
                          refine O.yes rfl rfl ?_
                          refine O.call Tryz.call14 (argsN) (known_spec _ (((((((((((((((((((mx.keep e1).keep e2).keep e3).keep e4).keep e6).keep e8).keep e10).keep e12).keep e14).keep e16).keep e17).keep e18).keep e19).keep e20).keep e21).keep e22).keep e23).keep e24).keep e25)) ?_
                          rintro v_187 w34 ⟨rfl, e34⟩
                          have z34 := e34.size
                          refine O.pickT rfl ?_
                          refine O.asg ?_
                          refine O.nil ?_
                          refine hK20 _ _ ?_
                          refine C.ret ?_
                          refine Outs.one rfl rfl ?_
                          exact ⟨rfl, (Ext.trans (Ext.trans (Ext.trans (Ext.trans (Ext.trans (Ext.trans (Ext.trans (Ext.trans (Ext.trans (Ext.trans (Ext.trans (Ext.trans (Ext.trans (Ext.trans (Ext.trans (Ext.trans (Ext.trans (Ext.trans (Ext.trans e1 e2) e3) e4) e6) e8) e10) e12) e14) e16) e17) e18) e19) e20) e21) e22) e23) e24) e25) e34)⟩
                ·
                  refine D.takeNo (i := 22) rfl rfl (by kernel_rfl) (Le.refl _) rfl (noB (isF rfl c99) rfl) ?_
                  refine D.takeNo (i := 23) rfl rfl (by kernel_rfl) (Le.refl _) rfl (noB (isF rfl c99) rfl) ?_
                  refine D.takeNo (i := 24) rfl rfl (by kernel_rfl) (Le.refl _) rfl (noB (isF rfl c99) rfl) ?_
                  refine D.takeNo (i := 25) rfl rfl (by kernel_rfl) (Le.refl _) rfl (noB (isF rfl c99) rfl) ?_
                  refine D.takeNo (i := 26) rfl rfl (by kernel_rfl) (Le.refl _) rfl (noB (isF rfl c99) rfl) ?_
                  refine D.takeNo (i := 27) rfl rfl (by kernel_rfl) (Le.refl _) rfl (noB (isF rfl c99) rfl) ?_
                  refine D.takeNo (i := 28) rfl rfl (by kernel_rfl) (Le.refl _) rfl (noB (isF rfl c99) rfl) ?_
                  refine D.takeNo (i := 29) rfl rfl (by kernel_rfl) (Le.refl _) rfl (noB (isF rfl c99) rfl) ?_
                  refine D.takeYes (i := 30) rfl rfl rfl (by kernel_rfl) rfl rfl (Le.refl _) pick_form (fun w_ hw_ N_ hN => (O.pickF (isF rfl c99) (O.nil hN))) ?_
                  refine D.take (i := 31) rfl rfl rfl rfl (by kernel_rfl) (Le.refl _) pick_form (fun w_ hw_ N_ hN => (O.pickF rfl (O.nil hN))) ?_
                  refine D.done (by kernel_rfl) ?_
                  refine hK15 _ _ ?_
                  refine C.condF rfl ?_
                  refine C.skip ?_
                  refine hK14 _ _ ?_
                  refine C.seqK fun K21 hK21 => ?_
                  refine C.region ?_
                  refine O.loadOA Tryz.isAgg28 Tryz.sizeOf28 rfl (((((((((((((h3.keep e2).keep e3).keep e4).keep e6).keep e8).keep e10).keep e12).keep e14).keep e16).keep e17).keep e18).keep e19).keep e20) (Nat.le_of_ble_eq_true rfl) ?_
                  refine O.loadOA Tryz.isAgg28 Tryz.sizeOf28 rfl ((((((((((((h4.keep e3).keep e4).keep e6).keep e8).keep e10).keep e12).keep e14).keep e16).keep e17).keep e18).keep e19).keep e20) (Nat.le_of_ble_eq_true rfl) ?_
                  refine O.call Tryz.call28 (args2 rfl rfl) (ccmp2_spec va1 va2 va3 a F vb1 vb2 vb3 b Fb _ ((((((((((((((hav.keep e1).keep e2).keep e3).keep e4).keep e6).keep e8).keep e10).keep e12).keep e14).keep e16).keep e17).keep e18).keep e19).keep e20) ((((((((((((((hac.keep e1).keep e2).keep e3).keep e4).keep e6).keep e8).keep e10).keep e12).keep e14).keep e16).keep e17).keep e18).keep e19).keep e20) ((((((((((((((hai.keep e1).keep e2).keep e3).keep e4).keep e6).keep e8).keep e10).keep e12).keep e14).keep e16).keep e17).keep e18).keep e19).keep e20) (fun k hk => by have q1 := hF k hk; omega) hn hS hp hq ((((((((((((((mx.keep e1).keep e2).keep e3).keep e4).keep e6).keep e8).keep e10).keep e12).keep e14).keep e16).keep e17).keep e18).keep e19).keep e20) ((((((((((((((hbv.keep e1).keep e2).keep e3).keep e4).keep e6).keep e8).keep e10).keep e12).keep e14).keep e16).keep e17).keep e18).keep e19).keep e20) ((((((((((((((hbc.keep e1).keep e2).keep e3).keep e4).keep e6).keep e8).keep e10).keep e12).keep e14).keep e16).keep e17).keep e18).keep e19).keep e20) ((((((((((((((hbi.keep e1).keep e2).keep e3).keep e4).keep e6).keep e8).keep e10).keep e12).keep e14).keep e16).keep e17).keep e18).keep e19).keep e20) (fun k hk => by have q1 := hFb k hk; omega) hnb hSb hpb hqb) ?_
                  rintro v_113 w35 ⟨rfl, e35⟩
                  have z35 := e35.size
                  refine O.mv ?_
                  refine O.extract rfl rfl ?_
                  refine O.cast (v' := .int .i64 (Cn.cmpB (Cn.bytes a) (Cn.bytes b))) (congrArg (Value.int .i64) (by rw [hva, hvb]; rfl)) ?_
                  refine O.extract rfl rfl ?_
                  refine O.cast (v' := .int .i64 0) (congrArg (Value.int .i64) (by rw [hva, hvb]; rfl)) ?_
                  refine O.asg ?_
                  refine O.asg ?_
                  refine O.nil ?_
                  refine hK21 _ _ ?_
                  refine C.seqK fun K22 hK22 => ?_
                  refine C.region ?_
                  refine O.loadOA Tryz.isAgg28 Tryz.sizeOf28 rfl (((((((((((((h4.keep e3).keep e4).keep e6).keep e8).keep e10).keep e12).keep e14).keep e16).keep e17).keep e18).keep e19).keep e20).keep e35) (Nat.le_of_ble_eq_true rfl) ?_
                  refine O.loadOA Tryz.isAgg28 Tryz.sizeOf28 rfl ((((((((((((h5.keep e4).keep e6).keep e8).keep e10).keep e12).keep e14).keep e16).keep e17).keep e18).keep e19).keep e20).keep e35) (Nat.le_of_ble_eq_true rfl) ?_
                  refine O.call Tryz.call28 (args2 rfl rfl) (ccmp2_spec vb1 vb2 vb3 b Fb vc1 vc2 vc3 c Fc _ (((((((((((((((hbv.keep e1).keep e2).keep e3).keep e4).keep e6).keep e8).keep e10).keep e12).keep e14).keep e16).keep e17).keep e18).keep e19).keep e20).keep e35) (((((((((((((((hbc.keep e1).keep e2).keep e3).keep e4).keep e6).keep e8).keep e10).keep e12).keep e14).keep e16).keep e17).keep e18).keep e19).keep e20).keep e35) (((((((((((((((hbi.keep e1).keep e2).keep e3).keep e4).keep e6).keep e8).keep e10).keep e12).keep e14).keep e16).keep e17).keep e18).keep e19).keep e20).keep e35) (fun k hk => by have q1 := hFb k hk; omega) hnb hSb hpb hqb (((((((((((((((mx.keep e1).keep e2).keep e3).keep e4).keep e6).keep e8).keep e10).keep e12).keep e14).keep e16).keep e17).keep e18).keep e19).keep e20).keep e35) (((((((((((((((hcv.keep e1).keep e2).keep e3).keep e4).keep e6).keep e8).keep e10).keep e12).keep e14).keep e16).keep e17).keep e18).keep e19).keep e20).keep e35) (((((((((((((((hcc.keep e1).keep e2).keep e3).keep e4).keep e6).keep e8).keep e10).keep e12).keep e14).keep e16).keep e17).keep e18).keep e19).keep e20).keep e35) (((((((((((((((hci.keep e1).keep e2).keep e3).keep e4).keep e6).keep e8).keep e10).keep e12).keep e14).keep e16).keep e17).keep e18).keep e19).keep e20).keep e35) (fun k hk => by have q1 := hFc k hk; omega) hnc hSc hpc hqc) ?_
                  rintro v_119 w36 ⟨rfl, e36⟩
                  have z36 := e36.size
                  refine O.mv ?_
                  refine O.extract rfl rfl ?_
                  refine O.cast (v' := .int .i64 (Cn.cmpB (Cn.bytes b) (Cn.bytes c))) (congrArg (Value.int .i64) (by rw [hvb, hvc]; rfl)) ?_
                  refine O.extract rfl rfl ?_
                  refine O.cast (v' := .int .i64 0) (congrArg (Value.int .i64) (by rw [hvb, hvc]; rfl)) ?_
                  refine O.asg ?_
                  refine O.asg ?_
                  refine O.nil ?_
                  refine hK22 _ _ ?_
                  refine C.seqK fun K23 hK23 => ?_
                  refine C.region ?_
                  refine O.loadOA Tryz.isAgg28 Tryz.sizeOf28 rfl (((((((((((((((h3.keep e2).keep e3).keep e4).keep e6).keep e8).keep e10).keep e12).keep e14).keep e16).keep e17).keep e18).keep e19).keep e20).keep e35).keep e36) (Nat.le_of_ble_eq_true rfl) ?_
                  refine O.loadOA Tryz.isAgg28 Tryz.sizeOf28 rfl (((((((((((((h5.keep e4).keep e6).keep e8).keep e10).keep e12).keep e14).keep e16).keep e17).keep e18).keep e19).keep e20).keep e35).keep e36) (Nat.le_of_ble_eq_true rfl) ?_
                  refine O.call Tryz.call28 (args2 rfl rfl) (ccmp2_spec va1 va2 va3 a F vc1 vc2 vc3 c Fc _ ((((((((((((((((hav.keep e1).keep e2).keep e3).keep e4).keep e6).keep e8).keep e10).keep e12).keep e14).keep e16).keep e17).keep e18).keep e19).keep e20).keep e35).keep e36) ((((((((((((((((hac.keep e1).keep e2).keep e3).keep e4).keep e6).keep e8).keep e10).keep e12).keep e14).keep e16).keep e17).keep e18).keep e19).keep e20).keep e35).keep e36) ((((((((((((((((hai.keep e1).keep e2).keep e3).keep e4).keep e6).keep e8).keep e10).keep e12).keep e14).keep e16).keep e17).keep e18).keep e19).keep e20).keep e35).keep e36) (fun k hk => by have q1 := hF k hk; omega) hn hS hp hq ((((((((((((((((mx.keep e1).keep e2).keep e3).keep e4).keep e6).keep e8).keep e10).keep e12).keep e14).keep e16).keep e17).keep e18).keep e19).keep e20).keep e35).keep e36) ((((((((((((((((hcv.keep e1).keep e2).keep e3).keep e4).keep e6).keep e8).keep e10).keep e12).keep e14).keep e16).keep e17).keep e18).keep e19).keep e20).keep e35).keep e36) ((((((((((((((((hcc.keep e1).keep e2).keep e3).keep e4).keep e6).keep e8).keep e10).keep e12).keep e14).keep e16).keep e17).keep e18).keep e19).keep e20).keep e35).keep e36) ((((((((((((((((hci.keep e1).keep e2).keep e3).keep e4).keep e6).keep e8).keep e10).keep e12).keep e14).keep e16).keep e17).keep e18).keep e19).keep e20).keep e35).keep e36) (fun k hk => by have q1 := hFc k hk; omega) hnc hSc hpc hqc) ?_
                  rintro v_125 w37 ⟨rfl, e37⟩
                  have z37 := e37.size
                  refine O.mv ?_
                  refine O.extract rfl rfl ?_
                  refine O.cast (v' := .int .i64 (Cn.cmpB (Cn.bytes a) (Cn.bytes c))) (congrArg (Value.int .i64) (by rw [hva, hvc]; rfl)) ?_
                  refine O.extract rfl rfl ?_
                  refine O.cast (v' := .int .i64 0) (congrArg (Value.int .i64) (by rw [hva, hvc]; rfl)) ?_
                  refine O.asg ?_
                  refine O.asg ?_
                  refine O.nil ?_
                  refine hK23 _ _ ?_
                  refine C.seqK fun K24 hK24 => ?_
                  refine C.region ?_
                  refine O.loadOA Tryz.isAgg28 Tryz.sizeOf28 rfl (((((((((((((((h4.keep e3).keep e4).keep e6).keep e8).keep e10).keep e12).keep e14).keep e16).keep e17).keep e18).keep e19).keep e20).keep e35).keep e36).keep e37) (Nat.le_of_ble_eq_true rfl) ?_
                  refine O.loadOA Tryz.isAgg28 Tryz.sizeOf28 rfl ((((((((((((((((h3.keep e2).keep e3).keep e4).keep e6).keep e8).keep e10).keep e12).keep e14).keep e16).keep e17).keep e18).keep e19).keep e20).keep e35).keep e36).keep e37) (Nat.le_of_ble_eq_true rfl) ?_
                  refine O.call Tryz.call28 (args2 rfl rfl) (ccmp2_spec vb1 vb2 vb3 b Fb va1 va2 va3 a F _ (((((((((((((((((hbv.keep e1).keep e2).keep e3).keep e4).keep e6).keep e8).keep e10).keep e12).keep e14).keep e16).keep e17).keep e18).keep e19).keep e20).keep e35).keep e36).keep e37) (((((((((((((((((hbc.keep e1).keep e2).keep e3).keep e4).keep e6).keep e8).keep e10).keep e12).keep e14).keep e16).keep e17).keep e18).keep e19).keep e20).keep e35).keep e36).keep e37) (((((((((((((((((hbi.keep e1).keep e2).keep e3).keep e4).keep e6).keep e8).keep e10).keep e12).keep e14).keep e16).keep e17).keep e18).keep e19).keep e20).keep e35).keep e36).keep e37) (fun k hk => by have q1 := hFb k hk; omega) hnb hSb hpb hqb (((((((((((((((((mx.keep e1).keep e2).keep e3).keep e4).keep e6).keep e8).keep e10).keep e12).keep e14).keep e16).keep e17).keep e18).keep e19).keep e20).keep e35).keep e36).keep e37) (((((((((((((((((hav.keep e1).keep e2).keep e3).keep e4).keep e6).keep e8).keep e10).keep e12).keep e14).keep e16).keep e17).keep e18).keep e19).keep e20).keep e35).keep e36).keep e37) (((((((((((((((((hac.keep e1).keep e2).keep e3).keep e4).keep e6).keep e8).keep e10).keep e12).keep e14).keep e16).keep e17).keep e18).keep e19).keep e20).keep e35).keep e36).keep e37) (((((((((((((((((hai.keep e1).keep e2).keep e3).keep e4).keep e6).keep e8).keep e10).keep e12).keep e14).keep e16).keep e17).keep e18).keep e19).keep e20).keep e35).keep e36).keep e37) (fun k hk => by have q1 := hF k hk; omega) hn hS hp hq) ?_
                  rintro v_131 w38 ⟨rfl, e38⟩
                  have z38 := e38.size
                  refine O.mv ?_
                  refine O.extract rfl rfl ?_
                  refine O.cast (v' := .int .i64 (Cn.cmpB (Cn.bytes b) (Cn.bytes a))) (congrArg (Value.int .i64) (by rw [hvb, hva]; rfl)) ?_
                  refine O.extract rfl rfl ?_
                  refine O.cast (v' := .int .i64 0) (congrArg (Value.int .i64) (by rw [hvb, hva]; rfl)) ?_
                  refine O.asg ?_
                  refine O.asg ?_
                  refine O.nil ?_
                  refine hK24 _ _ ?_
                  refine C.seqK fun K25 hK25 => ?_
                  refine C.region ?_
                  refine O.mv ?_
                  refine O.eqlI rfl rfl ?_
                  refine O.cast (v' := .bool true) rfl ?_
                  refine O.mv ?_
                  refine O.yes rfl rfl ?_
                  refine O.mv ?_
                  refine O.yes rfl rfl ?_
                  refine O.eqlI rfl rfl ?_
                  refine O.cast (v' := .bool true) rfl ?_
                  refine O.pickT rfl ?_
                  refine O.mv ?_
                  refine O.yes rfl rfl ?_
                  refine O.mv ?_
                  refine O.yes rfl rfl ?_
                  refine O.eqlI rfl rfl ?_
                  refine O.cast (v' := .bool true) rfl ?_
                  refine O.pickT rfl ?_
                  refine O.mv ?_
                  refine O.yes rfl rfl ?_
                  refine O.mv ?_
                  refine O.yes rfl rfl ?_
                  refine O.eqlI rfl rfl ?_
                  refine O.cast (v' := .bool true) rfl ?_
                  refine O.pickT rfl ?_
                  refine O.mv ?_
                  refine O.yes rfl rfl ?_
                  refine O.mv ?_
                  refine O.yes rfl rfl ?_
                  refine O.mv ?_
                  refine O.yes rfl rfl ?_
                  refine O.negI rfl (by have := Cn.cmpB_in (Cn.bytes a) (Cn.bytes b); unfold InI; omega) ?_
                  refine O.yes rfl rfl ?_
                  refine O.eqlI rfl rfl ?_
                  refine O.cast (v' := .bool true) (congrArg Value.bool (by exact decide_eq_true (Cn.cmpB_neg (Cn.bytes a) (Cn.bytes b)))) ?_
                  refine O.pickT rfl ?_
                  refine O.mv ?_
                  refine O.yes rfl rfl ?_
                  refine O.mv ?_
                  refine O.yes rfl rfl ?_
                  refine O.eqlI rfl rfl ?_
                  refine O.yes rfl rfl ?_
                  refine O.loadOA Tryz.isAgg28 Tryz.sizeOf28 rfl (((((((((((((((((h3.keep e2).keep e3).keep e4).keep e6).keep e8).keep e10).keep e12).keep e14).keep e16).keep e17).keep e18).keep e19).keep e20).keep e35).keep e36).keep e37).keep e38) (Nat.le_of_ble_eq_true rfl) ?_
                  refine O.yes rfl rfl ?_
                  refine O.loadOA Tryz.isAgg28 Tryz.sizeOf28 rfl ((((((((((((((((h4.keep e3).keep e4).keep e6).keep e8).keep e10).keep e12).keep e14).keep e16).keep e17).keep e18).keep e19).keep e20).keep e35).keep e36).keep e37).keep e38) (Nat.le_of_ble_eq_true rfl) ?_
                  refine O.yes rfl rfl ?_
                  refine O.call Tryz.call21 (args2 rfl rfl) (same_spec va1 va2 va3 a F vb1 vb2 vb3 b Fb _ ((((((((((((((((((hav.keep e1).keep e2).keep e3).keep e4).keep e6).keep e8).keep e10).keep e12).keep e14).keep e16).keep e17).keep e18).keep e19).keep e20).keep e35).keep e36).keep e37).keep e38) ((((((((((((((((((hac.keep e1).keep e2).keep e3).keep e4).keep e6).keep e8).keep e10).keep e12).keep e14).keep e16).keep e17).keep e18).keep e19).keep e20).keep e35).keep e36).keep e37).keep e38) ((((((((((((((((((hai.keep e1).keep e2).keep e3).keep e4).keep e6).keep e8).keep e10).keep e12).keep e14).keep e16).keep e17).keep e18).keep e19).keep e20).keep e35).keep e36).keep e37).keep e38) ((((((((((((((((((hbv.keep e1).keep e2).keep e3).keep e4).keep e6).keep e8).keep e10).keep e12).keep e14).keep e16).keep e17).keep e18).keep e19).keep e20).keep e35).keep e36).keep e37).keep e38) ((((((((((((((((((hbc.keep e1).keep e2).keep e3).keep e4).keep e6).keep e8).keep e10).keep e12).keep e14).keep e16).keep e17).keep e18).keep e19).keep e20).keep e35).keep e36).keep e37).keep e38) ((((((((((((((((((hbi.keep e1).keep e2).keep e3).keep e4).keep e6).keep e8).keep e10).keep e12).keep e14).keep e16).keep e17).keep e18).keep e19).keep e20).keep e35).keep e36).keep e37).keep e38) (fun k hk => by have q1 := hF k hk; omega) (fun k hk => by have q1 := hFb k hk; omega)) ?_
                  rintro v_159 w39 ⟨rfl, e39⟩
                  have z39 := e39.size
                  refine O.yes rfl rfl ?_
                  refine O.eqlB Tryz.underlying4 rfl rfl ?_
                  refine O.cast (v' := .bool true) (congrArg Value.bool (by exact decide_eq_true (decide_eq_decide.2 ((Cn.cmpB_zero _ _).trans (Cn.bytes_inj (Cn.validR hva) (Cn.validR hvb)))))) ?_
                  refine O.pickT rfl ?_
                  refine O.mv ?_
                  refine O.yes rfl rfl ?_
                  refine O.mv ?_
                  refine O.yes rfl rfl ?_
                  refine O.gtrI rfl rfl ?_
                  refine O.yes rfl rfl ?_
                  refine O.mv ?_
                  refine O.splitD (x := .tmp 165) rfl (fun c165 => ?_) (fun c165 => ?_)
                  ·
                    refine O.no rfl (noB (isT rfl c165) rfl) ?_
                    refine O.no rfl (noB (isT rfl c165) rfl) ?_
                    refine O.yes rfl rfl ?_
                    refine O.pickT (isT rfl c165) ?_
                    refine O.yes rfl rfl ?_
                    refine O.mv ?_
                    refine O.no rfl (noB rfl rfl) ?_
                    refine O.no rfl (noB rfl rfl) ?_
                    refine O.yes rfl rfl ?_
                    refine O.pickT rfl ?_
                    refine O.pickT rfl ?_
                    refine O.mv ?_
                    refine O.yes rfl rfl ?_
                    refine O.mv ?_
                    refine O.yes rfl rfl ?_
                    refine O.lssI rfl rfl ?_
                    refine O.yes rfl rfl ?_
                    refine O.mv ?_
                    refine O.splitD (x := .tmp 177) rfl (fun c177 => ?_) (fun c177 => ?_)
                    ·
                      refine O.no rfl (noB (isT rfl c177) rfl) ?_
                      refine O.no rfl (noB (isT rfl c177) rfl) ?_
                      refine O.yes rfl rfl ?_
                      refine O.pickT (isT rfl c177) ?_
                      refine O.yes rfl rfl ?_
                      refine O.mv ?_
                      refine O.no rfl (noB rfl rfl) ?_
                      refine O.no rfl (noB rfl rfl) ?_
                      refine O.yes rfl rfl ?_
                      refine O.pickT rfl ?_
                      refine O.pickT rfl ?_
                      refine O.mv ?_
                      refine O.yes rfl rfl ?_
                      refine O.call Tryz.call14 (argsN) (known_spec _ (((((((((((((((((((mx.keep e1).keep e2).keep e3).keep e4).keep e6).keep e8).keep e10).keep e12).keep e14).keep e16).keep e17).keep e18).keep e19).keep e20).keep e35).keep e36).keep e37).keep e38).keep e39)) ?_
                      rintro v_187 w40 ⟨rfl, e40⟩
                      have z40 := e40.size
                      refine O.pickT rfl ?_
                      refine O.asg ?_
                      refine O.nil ?_
                      refine hK25 _ _ ?_
                      refine C.ret ?_
                      refine Outs.one rfl rfl ?_
                      exact ⟨rfl, (Ext.trans (Ext.trans (Ext.trans (Ext.trans (Ext.trans (Ext.trans (Ext.trans (Ext.trans (Ext.trans (Ext.trans (Ext.trans (Ext.trans (Ext.trans (Ext.trans (Ext.trans (Ext.trans (Ext.trans (Ext.trans (Ext.trans e1 e2) e3) e4) e6) e8) e10) e12) e14) e16) e17) e18) e19) e20) e35) e36) e37) e38) e39) e40)⟩
                    ·
                      refine O.yes rfl (isF rfl c177) ?_
                      refine O.mv ?_
                      refine O.yes rfl (isF rfl c177) ?_
                      refine O.lssI rfl rfl ?_
                      refine O.yes rfl rfl ?_
                      refine O.pickF (isF rfl c177) ?_
                      refine O.yes rfl rfl ?_
                      refine O.mv ?_
                      refine O.splitD (x := .tmp 181) rfl (fun c181 => ?_) (fun c181 => ?_)
                      ·
                        refine O.no rfl (noB (isT rfl c181) rfl) ?_
                        refine O.no rfl (noB (isT rfl c181) rfl) ?_
                        refine O.yes rfl rfl ?_
                        refine O.pickT (isT rfl c181) ?_
                        refine O.pickT rfl ?_
                        refine O.mv ?_
                        refine O.yes rfl rfl ?_
                        refine O.call Tryz.call14 (argsN) (known_spec _ (((((((((((((((((((mx.keep e1).keep e2).keep e3).keep e4).keep e6).keep e8).keep e10).keep e12).keep e14).keep e16).keep e17).keep e18).keep e19).keep e20).keep e35).keep e36).keep e37).keep e38).keep e39)) ?_
                        rintro v_187 w41 ⟨rfl, e41⟩
                        have z41 := e41.size
                        refine O.pickT rfl ?_
                        refine O.asg ?_
                        refine O.nil ?_
                        refine hK25 _ _ ?_
                        refine C.ret ?_
                        refine Outs.one rfl rfl ?_
                        exact ⟨rfl, (Ext.trans (Ext.trans (Ext.trans (Ext.trans (Ext.trans (Ext.trans (Ext.trans (Ext.trans (Ext.trans (Ext.trans (Ext.trans (Ext.trans (Ext.trans (Ext.trans (Ext.trans (Ext.trans (Ext.trans (Ext.trans (Ext.trans e1 e2) e3) e4) e6) e8) e10) e12) e14) e16) e17) e18) e19) e20) e35) e36) e37) e38) e39) e41)⟩
                      ·
                        refine O.yes rfl (isF rfl c181) ?_
                        refine O.mv ?_
                        refine O.yes rfl (isF rfl c181) ?_
                        refine O.geqI rfl rfl ?_
                        refine O.cast (v' := .bool true) (congrArg Value.bool (by exact decide_eq_true (cmpB_ge (Cn.bytes a) (Cn.bytes b) (Cn.bytes c) (by omega) (by omega)))) ?_
                        refine O.yes rfl rfl ?_
                        refine O.pickF (isF rfl c181) ?_
                        refine O.pickT rfl ?_
                        refine O.mv ?_
                        refine O.yes rfl rfl ?_
                        refine O.call Tryz.call14 (argsN) (known_spec _ (((((((((((((((((((mx.keep e1).keep e2).keep e3).keep e4).keep e6).keep e8).keep e10).keep e12).keep e14).keep e16).keep e17).keep e18).keep e19).keep e20).keep e35).keep e36).keep e37).keep e38).keep e39)) ?_
                        rintro v_187 w42 ⟨rfl, e42⟩
                        have z42 := e42.size
                        refine O.pickT rfl ?_
                        refine O.asg ?_
                        refine O.nil ?_
                        refine hK25 _ _ ?_
                        refine C.ret ?_
                        refine Outs.one rfl rfl ?_
                        exact ⟨rfl, (Ext.trans (Ext.trans (Ext.trans (Ext.trans (Ext.trans (Ext.trans (Ext.trans (Ext.trans (Ext.trans (Ext.trans (Ext.trans (Ext.trans (Ext.trans (Ext.trans (Ext.trans (Ext.trans (Ext.trans (Ext.trans (Ext.trans e1 e2) e3) e4) e6) e8) e10) e12) e14) e16) e17) e18) e19) e20) e35) e36) e37) e38) e39) e42)⟩
                  ·
                    refine O.yes rfl (isF rfl c165) ?_
                    refine O.mv ?_
                    refine O.yes rfl (isF rfl c165) ?_
                    refine O.gtrI rfl rfl ?_
                    refine O.yes rfl rfl ?_
                    refine O.pickF (isF rfl c165) ?_
                    refine O.yes rfl rfl ?_
                    refine O.mv ?_
                    refine O.splitD (x := .tmp 169) rfl (fun c169 => ?_) (fun c169 => ?_)
                    ·
                      refine O.no rfl (noB (isT rfl c169) rfl) ?_
                      refine O.no rfl (noB (isT rfl c169) rfl) ?_
                      refine O.yes rfl rfl ?_
                      refine O.pickT (isT rfl c169) ?_
                      refine O.pickT rfl ?_
                      refine O.mv ?_
                      refine O.yes rfl rfl ?_
                      refine O.mv ?_
                      refine O.yes rfl rfl ?_
                      refine O.lssI rfl rfl ?_
                      refine O.yes rfl rfl ?_
                      refine O.mv ?_
                      refine O.splitD (x := .tmp 177) rfl (fun c177 => ?_) (fun c177 => ?_)
                      ·
                        refine O.no rfl (noB (isT rfl c177) rfl) ?_
                        refine O.no rfl (noB (isT rfl c177) rfl) ?_
                        refine O.yes rfl rfl ?_
                        refine O.pickT (isT rfl c177) ?_
                        refine O.yes rfl rfl ?_
                        refine O.mv ?_
                        refine O.no rfl (noB rfl rfl) ?_
                        refine O.no rfl (noB rfl rfl) ?_
                        refine O.yes rfl rfl ?_
                        refine O.pickT rfl ?_
                        refine O.pickT rfl ?_
                        refine O.mv ?_
                        refine O.yes rfl rfl ?_
                        refine O.call Tryz.call14 (argsN) (known_spec _ (((((((((((((((((((mx.keep e1).keep e2).keep e3).keep e4).keep e6).keep e8).keep e10).keep e12).keep e14).keep e16).keep e17).keep e18).keep e19).keep e20).keep e35).keep e36).keep e37).keep e38).keep e39)) ?_
                        rintro v_187 w43 ⟨rfl, e43⟩
                        have z43 := e43.size
                        refine O.pickT rfl ?_
                        refine O.asg ?_
                        refine O.nil ?_
                        refine hK25 _ _ ?_
                        refine C.ret ?_
                        refine Outs.one rfl rfl ?_
                        exact ⟨rfl, (Ext.trans (Ext.trans (Ext.trans (Ext.trans (Ext.trans (Ext.trans (Ext.trans (Ext.trans (Ext.trans (Ext.trans (Ext.trans (Ext.trans (Ext.trans (Ext.trans (Ext.trans (Ext.trans (Ext.trans (Ext.trans (Ext.trans e1 e2) e3) e4) e6) e8) e10) e12) e14) e16) e17) e18) e19) e20) e35) e36) e37) e38) e39) e43)⟩
                      ·
                        refine O.yes rfl (isF rfl c177) ?_
                        refine O.mv ?_
                        refine O.yes rfl (isF rfl c177) ?_
                        refine O.lssI rfl rfl ?_
                        refine O.yes rfl rfl ?_
                        refine O.pickF (isF rfl c177) ?_
                        refine O.yes rfl rfl ?_
                        refine O.mv ?_
                        refine O.splitD (x := .tmp 181) rfl (fun c181 => ?_) (fun c181 => ?_)
                        ·
                          refine O.no rfl (noB (isT rfl c181) rfl) ?_
                          refine O.no rfl (noB (isT rfl c181) rfl) ?_
                          refine O.yes rfl rfl ?_
                          refine O.pickT (isT rfl c181) ?_
                          refine O.pickT rfl ?_
                          refine O.mv ?_
                          refine O.yes rfl rfl ?_
                          refine O.call Tryz.call14 (argsN) (known_spec _ (((((((((((((((((((mx.keep e1).keep e2).keep e3).keep e4).keep e6).keep e8).keep e10).keep e12).keep e14).keep e16).keep e17).keep e18).keep e19).keep e20).keep e35).keep e36).keep e37).keep e38).keep e39)) ?_
                          rintro v_187 w44 ⟨rfl, e44⟩
                          have z44 := e44.size
                          refine O.pickT rfl ?_
                          refine O.asg ?_
                          refine O.nil ?_
                          refine hK25 _ _ ?_
                          refine C.ret ?_
                          refine Outs.one rfl rfl ?_
                          exact ⟨rfl, (Ext.trans (Ext.trans (Ext.trans (Ext.trans (Ext.trans (Ext.trans (Ext.trans (Ext.trans (Ext.trans (Ext.trans (Ext.trans (Ext.trans (Ext.trans (Ext.trans (Ext.trans (Ext.trans (Ext.trans (Ext.trans (Ext.trans e1 e2) e3) e4) e6) e8) e10) e12) e14) e16) e17) e18) e19) e20) e35) e36) e37) e38) e39) e44)⟩
                        ·
                          refine O.yes rfl (isF rfl c181) ?_
                          refine O.mv ?_
                          refine O.yes rfl (isF rfl c181) ?_
                          refine O.geqI rfl rfl ?_
                          refine O.cast (v' := .bool true) (congrArg Value.bool (by exact decide_eq_true (cmpB_ge (Cn.bytes a) (Cn.bytes b) (Cn.bytes c) (by omega) (by omega)))) ?_
                          refine O.yes rfl rfl ?_
                          refine O.pickF (isF rfl c181) ?_
                          refine O.pickT rfl ?_
                          refine O.mv ?_
                          refine O.yes rfl rfl ?_
                          refine O.call Tryz.call14 (argsN) (known_spec _ (((((((((((((((((((mx.keep e1).keep e2).keep e3).keep e4).keep e6).keep e8).keep e10).keep e12).keep e14).keep e16).keep e17).keep e18).keep e19).keep e20).keep e35).keep e36).keep e37).keep e38).keep e39)) ?_
                          rintro v_187 w45 ⟨rfl, e45⟩
                          have z45 := e45.size
                          refine O.pickT rfl ?_
                          refine O.asg ?_
                          refine O.nil ?_
                          refine hK25 _ _ ?_
                          refine C.ret ?_
                          refine Outs.one rfl rfl ?_
                          exact ⟨rfl, (Ext.trans (Ext.trans (Ext.trans (Ext.trans (Ext.trans (Ext.trans (Ext.trans (Ext.trans (Ext.trans (Ext.trans (Ext.trans (Ext.trans (Ext.trans (Ext.trans (Ext.trans (Ext.trans (Ext.trans (Ext.trans (Ext.trans e1 e2) e3) e4) e6) e8) e10) e12) e14) e16) e17) e18) e19) e20) e35) e36) e37) e38) e39) e45)⟩
                    ·
                      refine O.yes rfl (isF rfl c169) ?_
                      refine O.mv ?_
                      refine O.yes rfl (isF rfl c169) ?_
                      refine O.leqI rfl rfl ?_
                      refine O.cast (v' := .bool true) (congrArg Value.bool (by exact decide_eq_true (Cn.cmpB_trans (Cn.bytes a) (Cn.bytes b) (Cn.bytes c) (by omega) (by omega)))) ?_
                      refine O.yes rfl rfl ?_
                      refine O.pickF (isF rfl c169) ?_
                      refine O.pickT rfl ?_
                      refine O.mv ?_
                      refine O.yes rfl rfl ?_
                      refine O.mv ?_
                      refine O.yes rfl rfl ?_
                      refine O.lssI rfl rfl ?_
                      refine O.yes rfl rfl ?_
                      refine O.mv ?_
                      refine O.splitD (x := .tmp 177) rfl (fun c177 => ?_) (fun c177 => ?_)
                      ·
                        refine O.no rfl (noB (isT rfl c177) rfl) ?_
                        refine O.no rfl (noB (isT rfl c177) rfl) ?_
                        refine O.yes rfl rfl ?_
                        refine O.pickT (isT rfl c177) ?_
                        refine O.yes rfl rfl ?_
                        refine O.mv ?_
                        refine O.no rfl (noB rfl rfl) ?_
                        refine O.no rfl (noB rfl rfl) ?_
                        refine O.yes rfl rfl ?_
                        refine O.pickT rfl ?_
                        refine O.pickT rfl ?_
                        refine O.mv ?_
                        refine O.yes rfl rfl ?_
                        refine O.call Tryz.call14 (argsN) (known_spec _ (((((((((((((((((((mx.keep e1).keep e2).keep e3).keep e4).keep e6).keep e8).keep e10).keep e12).keep e14).keep e16).keep e17).keep e18).keep e19).keep e20).keep e35).keep e36).keep e37).keep e38).keep e39)) ?_
                        rintro v_187 w46 ⟨rfl, e46⟩
                        have z46 := e46.size
                        refine O.pickT rfl ?_
                        refine O.asg ?_
                        refine O.nil ?_
                        refine hK25 _ _ ?_
                        refine C.ret ?_
                        refine Outs.one rfl rfl ?_
                        exact ⟨rfl, (Ext.trans (Ext.trans (Ext.trans (Ext.trans (Ext.trans (Ext.trans (Ext.trans (Ext.trans (Ext.trans (Ext.trans (Ext.trans (Ext.trans (Ext.trans (Ext.trans (Ext.trans (Ext.trans (Ext.trans (Ext.trans (Ext.trans e1 e2) e3) e4) e6) e8) e10) e12) e14) e16) e17) e18) e19) e20) e35) e36) e37) e38) e39) e46)⟩
                      ·
                        refine O.yes rfl (isF rfl c177) ?_
                        refine O.mv ?_
                        refine O.yes rfl (isF rfl c177) ?_
                        refine O.lssI rfl rfl ?_
                        refine O.yes rfl rfl ?_
                        refine O.pickF (isF rfl c177) ?_
                        refine O.yes rfl rfl ?_
                        refine O.mv ?_
                        refine O.splitD (x := .tmp 181) rfl (fun c181 => ?_) (fun c181 => ?_)
                        ·
                          refine O.no rfl (noB (isT rfl c181) rfl) ?_
                          refine O.no rfl (noB (isT rfl c181) rfl) ?_
                          refine O.yes rfl rfl ?_
                          refine O.pickT (isT rfl c181) ?_
                          refine O.pickT rfl ?_
                          refine O.mv ?_
                          refine O.yes rfl rfl ?_
                          refine O.call Tryz.call14 (argsN) (known_spec _ (((((((((((((((((((mx.keep e1).keep e2).keep e3).keep e4).keep e6).keep e8).keep e10).keep e12).keep e14).keep e16).keep e17).keep e18).keep e19).keep e20).keep e35).keep e36).keep e37).keep e38).keep e39)) ?_
                          rintro v_187 w47 ⟨rfl, e47⟩
                          have z47 := e47.size
                          refine O.pickT rfl ?_
                          refine O.asg ?_
                          refine O.nil ?_
                          refine hK25 _ _ ?_
                          refine C.ret ?_
                          refine Outs.one rfl rfl ?_
                          exact ⟨rfl, (Ext.trans (Ext.trans (Ext.trans (Ext.trans (Ext.trans (Ext.trans (Ext.trans (Ext.trans (Ext.trans (Ext.trans (Ext.trans (Ext.trans (Ext.trans (Ext.trans (Ext.trans (Ext.trans (Ext.trans (Ext.trans (Ext.trans e1 e2) e3) e4) e6) e8) e10) e12) e14) e16) e17) e18) e19) e20) e35) e36) e37) e38) e39) e47)⟩
                        ·
                          refine O.yes rfl (isF rfl c181) ?_
                          refine O.mv ?_
                          refine O.yes rfl (isF rfl c181) ?_
                          refine O.geqI rfl rfl ?_
                          refine O.cast (v' := .bool true) (congrArg Value.bool (by exact decide_eq_true (cmpB_ge (Cn.bytes a) (Cn.bytes b) (Cn.bytes c) (by omega) (by omega)))) ?_
                          refine O.yes rfl rfl ?_
                          refine O.pickF (isF rfl c181) ?_
                          refine O.pickT rfl ?_
                          refine O.mv ?_
                          refine O.yes rfl rfl ?_
                          refine O.call Tryz.call14 (argsN) (known_spec _ (((((((((((((((((((mx.keep e1).keep e2).keep e3).keep e4).keep e6).keep e8).keep e10).keep e12).keep e14).keep e16).keep e17).keep e18).keep e19).keep e20).keep e35).keep e36).keep e37).keep e38).keep e39)) ?_
                          rintro v_187 w48 ⟨rfl, e48⟩
                          have z48 := e48.size
                          refine O.pickT rfl ?_
                          refine O.asg ?_
                          refine O.nil ?_
                          refine hK25 _ _ ?_
                          refine C.ret ?_
                          refine Outs.one rfl rfl ?_
                          exact ⟨rfl, (Ext.trans (Ext.trans (Ext.trans (Ext.trans (Ext.trans (Ext.trans (Ext.trans (Ext.trans (Ext.trans (Ext.trans (Ext.trans (Ext.trans (Ext.trans (Ext.trans (Ext.trans (Ext.trans (Ext.trans (Ext.trans (Ext.trans e1 e2) e3) e4) e6) e8) e10) e12) e14) e16) e17) e18) e19) e20) e35) e36) e37) e38) e39) e48)⟩
              ·
                refine D.takeNo (i := 6) rfl rfl (by kernel_rfl) (Le.refl _) rfl (noB (isF rfl c83) rfl) ?_
                refine D.takeNo (i := 7) rfl rfl (by kernel_rfl) (Le.refl _) rfl (noB (isF rfl c83) rfl) ?_
                refine D.takeNo (i := 8) rfl rfl (by kernel_rfl) (Le.refl _) rfl (noB (isF rfl c83) rfl) ?_
                refine D.takeNo (i := 9) rfl rfl (by kernel_rfl) (Le.refl _) rfl (noB (isF rfl c83) rfl) ?_
                refine D.takeNo (i := 10) rfl rfl (by kernel_rfl) (Le.refl _) rfl (noB (isF rfl c83) rfl) ?_
                refine D.takeNo (i := 11) rfl rfl (by kernel_rfl) (Le.refl _) rfl (noB (isF rfl c83) rfl) ?_
                refine D.takeNo (i := 12) rfl rfl (by kernel_rfl) (Le.refl _) rfl (noB (isF rfl c83) rfl) ?_
                refine D.takeNo (i := 13) rfl rfl (by kernel_rfl) (Le.refl _) rfl (noB (isF rfl c83) rfl) ?_
                refine D.take (i := 14) rfl rfl rfl rfl (by kernel_rfl) (Le.refl _) pick_form (fun w_ hw_ N_ hN => (O.pickF (isF rfl c83) (O.nil hN))) ?_
                refine D.take (i := 15) rfl rfl rfl rfl (by kernel_rfl) (Le.refl _) ⟨pure _, rfl⟩ (fun w_ hw_ N_ hN => (O.mv (O.nil hN))) ?_
                refine D.takeYes (i := 16) rfl rfl rfl (by kernel_rfl) rfl rfl (Le.refl _) ⟨pure _, rfl⟩ (fun w_ hw_ N_ hN => (O.mv (O.nil hN))) ?_
                refine D.takeYes (i := 17) rfl rfl rfl (by kernel_rfl) rfl rfl (Le.refl _) len_form (fun w_ hw_ N_ hN => (O.len Tryz.underlying32 rfl ((((h53s.keep e18).keep e19).keep e20).keep hw_) (O.nil hN))) ?_
                refine D.takeYes (i := 18) rfl rfl rfl (by kernel_rfl) rfl rfl (Le.refl _) ⟨pure _, rfl⟩ (fun w_ hw_ N_ hN => (O.mv (O.nil hN))) ?_
                refine D.takeYes (i := 19) rfl rfl rfl (by kernel_rfl) rfl rfl (Le.refl _) len_form (fun w_ hw_ N_ hN => (O.len Tryz.underlying32 rfl (((((h48s.keep e17).keep e18).keep e19).keep e20).keep hw_) (O.nil hN))) ?_
                refine D.takeYes (i := 20) rfl rfl rfl (by kernel_rfl) rfl rfl (Le.refl _) ⟨_, rfl⟩ (fun w_ hw_ N_ hN => (O.lssI rfl rfl (O.nil hN))) ?_
                refine D.takeYes (i := 21) rfl rfl rfl (by kernel_rfl) rfl rfl (Le.refl _) ⟨pure _, rfl⟩ (fun w_ hw_ N_ hN => (O.mv (O.nil hN))) ?_
                refine D.splitD (x := .tmp 99) rfl (fun c99 => ?_) (fun c99 => ?_)
                ·
                  refine D.takeYes (i := 22) rfl rfl rfl (by kernel_rfl) rfl (isT rfl c99) (Le.refl _) ⟨pure _, rfl⟩ (fun w_ hw_ N_ hN => (O.mv (O.nil hN))) ?_
                  refine D.takeYes (i := 23) rfl rfl rfl (by kernel_rfl) rfl (isT rfl c99) (Le.refl _) ⟨pure _, rfl⟩ (fun w_ hw_ N_ hN => (O.mv (O.nil hN))) ?_
                  refine D.takeYes (i := 24) rfl rfl rfl (by kernel_rfl) rfl (isT rfl c99) (Le.refl _) len_form (fun w_ hw_ N_ hN => (O.len Tryz.underlying32 rfl ((((h53s.keep e18).keep e19).keep e20).keep hw_) (O.nil hN))) ?_
                  have hb103 := Sl.sub (P := Tryz.prog) (0) (xb.length) Tryz.underlying32 Tryz.sizeOf5 (by rfl) ((((h48s.keep e17).keep e18).keep e19).keep e20) (Nat.zero_le _) (by omega)
                  obtain ⟨v103, hs103, hr103⟩ := hb103
                  refine D.takeYes (i := 25) rfl rfl rfl (by kernel_rfl) rfl (isT rfl c99) (Le.refl _) ⟨_, rfl⟩ (fun w_ hw_ N_ hN => (O.subR rfl hr103 (.inl ⟨rfl, rfl⟩) (.inr ⟨_, _, rfl, rfl⟩) (O.nil hN))) ?_
                  refine D.takeYes (i := 26) rfl rfl rfl (by kernel_rfl) rfl (isT rfl c99) (Le.refl _) ⟨_, rfl⟩ (fun w_ hw_ N_ hN => (O.bytesS Tryz.underlying32 Tryz.underlying5 Tryz.underlying9 rfl (hs103.keep hw_) (O.nil hN))) ?_
                  refine D.takeYes (i := 27) rfl rfl rfl (by kernel_rfl) rfl (isT rfl c99) (Le.refl _) ⟨pure _, rfl⟩ (fun w_ hw_ N_ hN => (O.mv (O.nil hN))) ?_
                  refine D.takeYes (i := 28) rfl rfl rfl (by kernel_rfl) rfl (isT rfl c99) (Le.refl _) ⟨_, rfl⟩ (fun w_ hw_ N_ hN => (O.bytesS Tryz.underlying32 Tryz.underlying5 Tryz.underlying9 rfl ((((h53s.keep e18).keep e19).keep e20).keep hw_) (O.nil hN))) ?_
                  refine D.takeYes (i := 29) rfl rfl rfl (by kernel_rfl) rfl (isT rfl c99) (Le.refl _) ⟨_, rfl⟩ (fun w_ hw_ N_ hN => (O.eqlS rfl rfl (O.nil hN))) ?_
                  refine D.cast (v' := .bool false) (congrArg Value.bool (by subst hxa; subst hxb; exact decide_eq_false (fun h => by have := Cn.bytes_take (Cn.validR hvb) (Cn.validR hva) h; omega))) ?_
                  refine D.takeYes (i := 30) rfl rfl rfl (by kernel_rfl) rfl rfl (Le.refl _) pick_form (fun w_ hw_ N_ hN => (O.pickT (isT rfl c99) (O.nil hN))) ?_
                  refine D.take (i := 31) rfl rfl rfl rfl (by kernel_rfl) (Le.refl _) pick_form (fun w_ hw_ N_ hN => (O.pickF rfl (O.nil hN))) ?_
                  refine D.done (by kernel_rfl) ?_
                  refine hK15 _ _ ?_
                  refine C.condF rfl ?_
                  refine C.skip ?_
                  refine hK14 _ _ ?_
                  refine C.seqK fun K26 hK26 => ?_
                  refine C.region ?_
                  refine O.loadOA Tryz.isAgg28 Tryz.sizeOf28 rfl (((((((((((((h3.keep e2).keep e3).keep e4).keep e6).keep e8).keep e10).keep e12).keep e14).keep e16).keep e17).keep e18).keep e19).keep e20) (Nat.le_of_ble_eq_true rfl) ?_
                  refine O.loadOA Tryz.isAgg28 Tryz.sizeOf28 rfl ((((((((((((h4.keep e3).keep e4).keep e6).keep e8).keep e10).keep e12).keep e14).keep e16).keep e17).keep e18).keep e19).keep e20) (Nat.le_of_ble_eq_true rfl) ?_
                  refine O.call Tryz.call28 (args2 rfl rfl) (ccmp2_spec va1 va2 va3 a F vb1 vb2 vb3 b Fb _ ((((((((((((((hav.keep e1).keep e2).keep e3).keep e4).keep e6).keep e8).keep e10).keep e12).keep e14).keep e16).keep e17).keep e18).keep e19).keep e20) ((((((((((((((hac.keep e1).keep e2).keep e3).keep e4).keep e6).keep e8).keep e10).keep e12).keep e14).keep e16).keep e17).keep e18).keep e19).keep e20) ((((((((((((((hai.keep e1).keep e2).keep e3).keep e4).keep e6).keep e8).keep e10).keep e12).keep e14).keep e16).keep e17).keep e18).keep e19).keep e20) (fun k hk => by have q1 := hF k hk; omega) hn hS hp hq ((((((((((((((mx.keep e1).keep e2).keep e3).keep e4).keep e6).keep e8).keep e10).keep e12).keep e14).keep e16).keep e17).keep e18).keep e19).keep e20) ((((((((((((((hbv.keep e1).keep e2).keep e3).keep e4).keep e6).keep e8).keep e10).keep e12).keep e14).keep e16).keep e17).keep e18).keep e19).keep e20) ((((((((((((((hbc.keep e1).keep e2).keep e3).keep e4).keep e6).keep e8).keep e10).keep e12).keep e14).keep e16).keep e17).keep e18).keep e19).keep e20) ((((((((((((((hbi.keep e1).keep e2).keep e3).keep e4).keep e6).keep e8).keep e10).keep e12).keep e14).keep e16).keep e17).keep e18).keep e19).keep e20) (fun k hk => by have q1 := hFb k hk; omega) hnb hSb hpb hqb) ?_
                  rintro v_113 w49 ⟨rfl, e49⟩
                  have z49 := e49.size
                  refine O.mv ?_
                  refine O.extract rfl rfl ?_
                  refine O.cast (v' := .int .i64 (Cn.cmpB (Cn.bytes a) (Cn.bytes b))) (congrArg (Value.int .i64) (by rw [hva, hvb]; rfl)) ?_
                  refine O.extract rfl rfl ?_
                  refine O.cast (v' := .int .i64 0) (congrArg (Value.int .i64) (by rw [hva, hvb]; rfl)) ?_
                  refine O.asg ?_
                  refine O.asg ?_
                  refine O.nil ?_
                  refine hK26 _ _ ?_
                  refine C.seqK fun K27 hK27 => ?_
                  refine C.region ?_
                  refine O.loadOA Tryz.isAgg28 Tryz.sizeOf28 rfl (((((((((((((h4.keep e3).keep e4).keep e6).keep e8).keep e10).keep e12).keep e14).keep e16).keep e17).keep e18).keep e19).keep e20).keep e49) (Nat.le_of_ble_eq_true rfl) ?_
                  refine O.loadOA Tryz.isAgg28 Tryz.sizeOf28 rfl ((((((((((((h5.keep e4).keep e6).keep e8).keep e10).keep e12).keep e14).keep e16).keep e17).keep e18).keep e19).keep e20).keep e49) (Nat.le_of_ble_eq_true rfl) ?_
                  refine O.call Tryz.call28 (args2 rfl rfl) (ccmp2_spec vb1 vb2 vb3 b Fb vc1 vc2 vc3 c Fc _ (((((((((((((((hbv.keep e1).keep e2).keep e3).keep e4).keep e6).keep e8).keep e10).keep e12).keep e14).keep e16).keep e17).keep e18).keep e19).keep e20).keep e49) (((((((((((((((hbc.keep e1).keep e2).keep e3).keep e4).keep e6).keep e8).keep e10).keep e12).keep e14).keep e16).keep e17).keep e18).keep e19).keep e20).keep e49) (((((((((((((((hbi.keep e1).keep e2).keep e3).keep e4).keep e6).keep e8).keep e10).keep e12).keep e14).keep e16).keep e17).keep e18).keep e19).keep e20).keep e49) (fun k hk => by have q1 := hFb k hk; omega) hnb hSb hpb hqb (((((((((((((((mx.keep e1).keep e2).keep e3).keep e4).keep e6).keep e8).keep e10).keep e12).keep e14).keep e16).keep e17).keep e18).keep e19).keep e20).keep e49) (((((((((((((((hcv.keep e1).keep e2).keep e3).keep e4).keep e6).keep e8).keep e10).keep e12).keep e14).keep e16).keep e17).keep e18).keep e19).keep e20).keep e49) (((((((((((((((hcc.keep e1).keep e2).keep e3).keep e4).keep e6).keep e8).keep e10).keep e12).keep e14).keep e16).keep e17).keep e18).keep e19).keep e20).keep e49) (((((((((((((((hci.keep e1).keep e2).keep e3).keep e4).keep e6).keep e8).keep e10).keep e12).keep e14).keep e16).keep e17).keep e18).keep e19).keep e20).keep e49) (fun k hk => by have q1 := hFc k hk; omega) hnc hSc hpc hqc) ?_
                  rintro v_119 w50 ⟨rfl, e50⟩
                  have z50 := e50.size
                  refine O.mv ?_
                  refine O.extract rfl rfl ?_
                  refine O.cast (v' := .int .i64 (Cn.cmpB (Cn.bytes b) (Cn.bytes c))) (congrArg (Value.int .i64) (by rw [hvb, hvc]; rfl)) ?_
                  refine O.extract rfl rfl ?_
                  refine O.cast (v' := .int .i64 0) (congrArg (Value.int .i64) (by rw [hvb, hvc]; rfl)) ?_
                  refine O.asg ?_
                  refine O.asg ?_
                  refine O.nil ?_
                  refine hK27 _ _ ?_
                  refine C.seqK fun K28 hK28 => ?_
                  refine C.region ?_
                  refine O.loadOA Tryz.isAgg28 Tryz.sizeOf28 rfl (((((((((((((((h3.keep e2).keep e3).keep e4).keep e6).keep e8).keep e10).keep e12).keep e14).keep e16).keep e17).keep e18).keep e19).keep e20).keep e49).keep e50) (Nat.le_of_ble_eq_true rfl) ?_
                  refine O.loadOA Tryz.isAgg28 Tryz.sizeOf28 rfl (((((((((((((h5.keep e4).keep e6).keep e8).keep e10).keep e12).keep e14).keep e16).keep e17).keep e18).keep e19).keep e20).keep e49).keep e50) (Nat.le_of_ble_eq_true rfl) ?_
                  refine O.call Tryz.call28 (args2 rfl rfl) (ccmp2_spec va1 va2 va3 a F vc1 vc2 vc3 c Fc _ ((((((((((((((((hav.keep e1).keep e2).keep e3).keep e4).keep e6).keep e8).keep e10).keep e12).keep e14).keep e16).keep e17).keep e18).keep e19).keep e20).keep e49).keep e50) ((((((((((((((((hac.keep e1).keep e2).keep e3).keep e4).keep e6).keep e8).keep e10).keep e12).keep e14).keep e16).keep e17).keep e18).keep e19).keep e20).keep e49).keep e50) ((((((((((((((((hai.keep e1).keep e2).keep e3).keep e4).keep e6).keep e8).keep e10).keep e12).keep e14).keep e16).keep e17).keep e18).keep e19).keep e20).keep e49).keep e50) (fun k hk => by have q1 := hF k hk; omega) hn hS hp hq ((((((((((((((((mx.keep e1).keep e2).keep e3).keep e4).keep e6).keep e8).keep e10).keep e12).keep e14).keep e16).keep e17).keep e18).keep e19).keep e20).keep e49).keep e50) ((((((((((((((((hcv.keep e1).keep e2).keep e3).keep e4).keep e6).keep e8).keep e10).keep e12).keep e14).keep e16).keep e17).keep e18).keep e19).keep e20).keep e49).keep e50) ((((((((((((((((hcc.keep e1).keep e2).keep e3).keep e4).keep e6).keep e8).keep e10).keep e12).keep e14).keep e16).keep e17).keep e18).keep e19).keep e20).keep e49).keep e50) ((((((((((((((((hci.keep e1).keep e2).keep e3).keep e4).keep e6).keep e8).keep e10).keep e12).keep e14).keep e16).keep e17).keep e18).keep e19).keep e20).keep e49).keep e50) (fun k hk => by have q1 := hFc k hk; omega) hnc hSc hpc hqc) ?_
                  rintro v_125 w51 ⟨rfl, e51⟩
                  have z51 := e51.size
                  refine O.mv ?_
                  refine O.extract rfl rfl ?_
                  refine O.cast (v' := .int .i64 (Cn.cmpB (Cn.bytes a) (Cn.bytes c))) (congrArg (Value.int .i64) (by rw [hva, hvc]; rfl)) ?_
                  refine O.extract rfl rfl ?_
                  refine O.cast (v' := .int .i64 0) (congrArg (Value.int .i64) (by rw [hva, hvc]; rfl)) ?_
                  refine O.asg ?_
                  refine O.asg ?_
                  refine O.nil ?_
                  refine hK28 _ _ ?_
                  refine C.seqK fun K29 hK29 => ?_
                  refine C.region ?_
                  refine O.loadOA Tryz.isAgg28 Tryz.sizeOf28 rfl (((((((((((((((h4.keep e3).keep e4).keep e6).keep e8).keep e10).keep e12).keep e14).keep e16).keep e17).keep e18).keep e19).keep e20).keep e49).keep e50).keep e51) (Nat.le_of_ble_eq_true rfl) ?_
                  refine O.loadOA Tryz.isAgg28 Tryz.sizeOf28 rfl ((((((((((((((((h3.keep e2).keep e3).keep e4).keep e6).keep e8).keep e10).keep e12).keep e14).keep e16).keep e17).keep e18).keep e19).keep e20).keep e49).keep e50).keep e51) (Nat.le_of_ble_eq_true rfl) ?_
                  refine O.call Tryz.call28 (args2 rfl rfl) (ccmp2_spec vb1 vb2 vb3 b Fb va1 va2 va3 a F _ (((((((((((((((((hbv.keep e1).keep e2).keep e3).keep e4).keep e6).keep e8).keep e10).keep e12).keep e14).keep e16).keep e17).keep e18).keep e19).keep e20).keep e49).keep e50).keep e51) (((((((((((((((((hbc.keep e1).keep e2).keep e3).keep e4).keep e6).keep e8).keep e10).keep e12).keep e14).keep e16).keep e17).keep e18).keep e19).keep e20).keep e49).keep e50).keep e51) (((((((((((((((((hbi.keep e1).keep e2).keep e3).keep e4).keep e6).keep e8).keep e10).keep e12).keep e14).keep e16).keep e17).keep e18).keep e19).keep e20).keep e49).keep e50).keep e51) (fun k hk => by have q1 := hFb k hk; omega) hnb hSb hpb hqb (((((((((((((((((mx.keep e1).keep e2).keep e3).keep e4).keep e6).keep e8).keep e10).keep e12).keep e14).keep e16).keep e17).keep e18).keep e19).keep e20).keep e49).keep e50).keep e51) (((((((((((((((((hav.keep e1).keep e2).keep e3).keep e4).keep e6).keep e8).keep e10).keep e12).keep e14).keep e16).keep e17).keep e18).keep e19).keep e20).keep e49).keep e50).keep e51) (((((((((((((((((hac.keep e1).keep e2).keep e3).keep e4).keep e6).keep e8).keep e10).keep e12).keep e14).keep e16).keep e17).keep e18).keep e19).keep e20).keep e49).keep e50).keep e51) (((((((((((((((((hai.keep e1).keep e2).keep e3).keep e4).keep e6).keep e8).keep e10).keep e12).keep e14).keep e16).keep e17).keep e18).keep e19).keep e20).keep e49).keep e50).keep e51) (fun k hk => by have q1 := hF k hk; omega) hn hS hp hq) ?_
                  rintro v_131 w52 ⟨rfl, e52⟩
                  have z52 := e52.size
                  refine O.mv ?_
                  refine O.extract rfl rfl ?_
                  refine O.cast (v' := .int .i64 (Cn.cmpB (Cn.bytes b) (Cn.bytes a))) (congrArg (Value.int .i64) (by rw [hvb, hva]; rfl)) ?_
                  refine O.extract rfl rfl ?_
                  refine O.cast (v' := .int .i64 0) (congrArg (Value.int .i64) (by rw [hvb, hva]; rfl)) ?_
                  refine O.asg ?_
                  refine O.asg ?_
                  refine O.nil ?_
                  refine hK29 _ _ ?_
                  refine C.seqK fun K30 hK30 => ?_
                  refine C.region ?_
                  refine O.mv ?_
                  refine O.eqlI rfl rfl ?_
                  refine O.cast (v' := .bool true) rfl ?_
                  refine O.mv ?_
                  refine O.yes rfl rfl ?_
                  refine O.mv ?_
                  refine O.yes rfl rfl ?_
                  refine O.eqlI rfl rfl ?_
                  refine O.cast (v' := .bool true) rfl ?_
                  refine O.pickT rfl ?_
                  refine O.mv ?_
                  refine O.yes rfl rfl ?_
                  refine O.mv ?_
                  refine O.yes rfl rfl ?_
                  refine O.eqlI rfl rfl ?_
                  refine O.cast (v' := .bool true) rfl ?_
                  refine O.pickT rfl ?_
                  refine O.mv ?_
                  refine O.yes rfl rfl ?_
                  refine O.mv ?_
                  refine O.yes rfl rfl ?_
                  refine O.eqlI rfl rfl ?_
                  refine O.cast (v' := .bool true) rfl ?_
                  refine O.pickT rfl ?_
                  refine O.mv ?_
                  refine O.yes rfl rfl ?_
                  refine O.mv ?_
                  refine O.yes rfl rfl ?_
                  refine O.mv ?_
                  refine O.yes rfl rfl ?_
                  refine O.negI rfl (by have := Cn.cmpB_in (Cn.bytes a) (Cn.bytes b); unfold InI; omega) ?_
                  refine O.yes rfl rfl ?_
                  refine O.eqlI rfl rfl ?_
                  refine O.cast (v' := .bool true) (congrArg Value.bool (by exact decide_eq_true (Cn.cmpB_neg (Cn.bytes a) (Cn.bytes b)))) ?_
                  refine O.pickT rfl ?_
                  refine O.mv ?_
                  refine O.yes rfl rfl ?_
                  refine O.mv ?_
                  refine O.yes rfl rfl ?_
                  refine O.eqlI rfl rfl ?_
                  refine O.yes rfl rfl ?_
                  refine O.loadOA Tryz.isAgg28 Tryz.sizeOf28 rfl (((((((((((((((((h3.keep e2).keep e3).keep e4).keep e6).keep e8).keep e10).keep e12).keep e14).keep e16).keep e17).keep e18).keep e19).keep e20).keep e49).keep e50).keep e51).keep e52) (Nat.le_of_ble_eq_true rfl) ?_
                  refine O.yes rfl rfl ?_
                  refine O.loadOA Tryz.isAgg28 Tryz.sizeOf28 rfl ((((((((((((((((h4.keep e3).keep e4).keep e6).keep e8).keep e10).keep e12).keep e14).keep e16).keep e17).keep e18).keep e19).keep e20).keep e49).keep e50).keep e51).keep e52) (Nat.le_of_ble_eq_true rfl) ?_
                  refine O.yes rfl rfl ?_
                  refine O.call Tryz.call21 (args2 rfl rfl) (same_spec va1 va2 va3 a F vb1 vb2 vb3 b Fb _ ((((((((((((((((((hav.keep e1).keep e2).keep e3).keep e4).keep e6).keep e8).keep e10).keep e12).keep e14).keep e16).keep e17).keep e18).keep e19).keep e20).keep e49).keep e50).keep e51).keep e52) ((((((((((((((((((hac.keep e1).keep e2).keep e3).keep e4).keep e6).keep e8).keep e10).keep e12).keep e14).keep e16).keep e17).keep e18).keep e19).keep e20).keep e49).keep e50).keep e51).keep e52) ((((((((((((((((((hai.keep e1).keep e2).keep e3).keep e4).keep e6).keep e8).keep e10).keep e12).keep e14).keep e16).keep e17).keep e18).keep e19).keep e20).keep e49).keep e50).keep e51).keep e52) ((((((((((((((((((hbv.keep e1).keep e2).keep e3).keep e4).keep e6).keep e8).keep e10).keep e12).keep e14).keep e16).keep e17).keep e18).keep e19).keep e20).keep e49).keep e50).keep e51).keep e52) ((((((((((((((((((hbc.keep e1).keep e2).keep e3).keep e4).keep e6).keep e8).keep e10).keep e12).keep e14).keep e16).keep e17).keep e18).keep e19).keep e20).keep e49).keep e50).keep e51).keep e52) ((((((((((((((((((hbi.keep e1).keep e2).keep e3).keep e4).keep e6).keep e8).keep e10).keep e12).keep e14).keep e16).keep e17).keep e18).keep e19).keep e20).keep e49).keep e50).keep e51).keep e52) (fun k hk => by have q1 := hF k hk; omega) (fun k hk => by have q1 := hFb k hk; omega)) ?_
                  rintro v_159 w53 ⟨rfl, e53⟩
                  have z53 := e53.size
                  refine O.yes rfl rfl ?_
                  refine O.eqlB Tryz.underlying4 rfl rfl ?_
                  refine O.cast (v' := .bool true) (congrArg Value.bool (by exact decide_eq_true (decide_eq_decide.2 ((Cn.cmpB_zero _ _).trans (Cn.bytes_inj (Cn.validR hva) (Cn.validR hvb)))))) ?_
                  refine O.pickT rfl ?_
                  refine O.mv ?_
                  refine O.yes rfl rfl ?_
                  refine O.mv ?_
                  refine O.yes rfl rfl ?_
                  refine O.gtrI rfl rfl ?_
                  refine O.yes rfl rfl ?_
                  refine O.mv ?_
                  refine O.splitD (x := .tmp 165) rfl (fun c165 => ?_) (fun c165 => ?_)
                  ·
                    refine O.no rfl (noB (isT rfl c165) rfl) ?_
                    refine O.no rfl (noB (isT rfl c165) rfl) ?_
                    refine O.yes rfl rfl ?_
                    refine O.pickT (isT rfl c165) ?_
                    refine O.yes rfl rfl ?_
                    refine O.mv ?_
                    refine O.no rfl (noB rfl rfl) ?_
                    refine O.no rfl (noB rfl rfl) ?_
                    refine O.yes rfl rfl ?_
                    refine O.pickT rfl ?_
                    refine O.pickT rfl ?_
                    refine O.mv ?_
                    refine O.yes rfl rfl ?_
                    refine O.mv ?_
                    refine O.yes rfl rfl ?_
                    refine O.lssI rfl rfl ?_
                    refine O.yes rfl rfl ?_
                    refine O.mv ?_
                    refine O.splitD (x := .tmp 177) rfl (fun c177 => ?_) (fun c177 => ?_)
                    ·
                      refine O.no rfl (noB (isT rfl c177) rfl) ?_
                      refine O.no rfl (noB (isT rfl c177) rfl) ?_
                      refine O.yes rfl rfl ?_
                      refine O.pickT (isT rfl c177) ?_
                      refine O.yes rfl rfl ?_
                      refine O.mv ?_
                      refine O.no rfl (noB rfl rfl) ?_
                      refine O.no rfl (noB rfl rfl) ?_
                      refine O.yes rfl rfl ?_
                      refine O.pickT rfl ?_
                      refine O.pickT rfl ?_
                      refine O.mv ?_
                      refine O.yes rfl rfl ?_
                      refine O.call Tryz.call14 (argsN) (known_spec _ (((((((((((((((((((mx.keep e1).keep e2).keep e3).keep e4).keep e6).keep e8).keep e10).keep e12).keep e14).keep e16).keep e17).keep e18).keep e19).keep e20).keep e49).keep e50).keep e51).keep e52).keep e53)) ?_
                      rintro v_187 w54 ⟨rfl, e54⟩
                      have z54 := e54.size
                      refine O.pickT rfl ?_
                      refine O.asg ?_
                      refine O.nil ?_
                      refine hK30 _ _ ?_
                      refine C.ret ?_
                      refine Outs.one rfl rfl ?_
                      exact ⟨rfl, (Ext.trans (Ext.trans (Ext.trans (Ext.trans (Ext.trans (Ext.trans (Ext.trans (Ext.trans (Ext.trans (Ext.trans (Ext.trans (Ext.trans (Ext.trans (Ext.trans (Ext.trans (Ext.trans (Ext.trans (Ext.trans (Ext.trans e1 e2) e3) e4) e6) e8) e10) e12) e14) e16) e17) e18) e19) e20) e49) e50) e51) e52) e53) e54)⟩
                    ·
                      refine O.yes rfl (isF rfl c177) ?_
                      refine O.mv ?_
                      refine O.yes rfl (isF rfl c177) ?_
                      refine O.lssI rfl rfl ?_
                      refine O.yes rfl rfl ?_
                      refine O.pickF (isF rfl c177) ?_
                      refine O.yes rfl rfl ?_
                      refine O.mv ?_
                      refine O.splitD (x := .tmp 181) rfl (fun c181 => ?_) (fun c181 => ?_)
                      ·
                        refine O.no rfl (noB (isT rfl c181) rfl) ?_
                        refine O.no rfl (noB (isT rfl c181) rfl) ?_
                        refine O.yes rfl rfl ?_
                        refine O.pickT (isT rfl c181) ?_
                        refine O.pickT rfl ?_
                        refine O.mv ?_
                        refine O.yes rfl rfl ?_
                        refine O.call Tryz.call14 (argsN) (known_spec _ (((((((((((((((((((mx.keep e1).keep e2).keep e3).keep e4).keep e6).keep e8).keep e10).keep e12).keep e14).keep e16).keep e17).keep e18).keep e19).keep e20).keep e49).keep e50).keep e51).keep e52).keep e53)) ?_
                        rintro v_187 w55 ⟨rfl, e55⟩
                        have z55 := e55.size
                        refine O.pickT rfl ?_
                        refine O.asg ?_
                        refine O.nil ?_
                        refine hK30 _ _ ?_
                        refine C.ret ?_
                        refine Outs.one rfl rfl ?_
                        exact ⟨rfl, (Ext.trans (Ext.trans (Ext.trans (Ext.trans (Ext.trans (Ext.trans (Ext.trans (Ext.trans (Ext.trans (Ext.trans (Ext.trans (Ext.trans (Ext.trans (Ext.trans (Ext.trans (Ext.trans (Ext.trans (Ext.trans (Ext.trans e1 e2) e3) e4) e6) e8) e10) e12) e14) e16) e17) e18) e19) e20) e49) e50) e51) e52) e53) e55)⟩
                      ·
                        refine O.yes rfl (isF rfl c181) ?_
                        refine O.mv ?_
                        refine O.yes rfl (isF rfl c181) ?_
                        refine O.geqI rfl rfl ?_
                        refine O.cast (v' := .bool true) (congrArg Value.bool (by exact decide_eq_true (cmpB_ge (Cn.bytes a) (Cn.bytes b) (Cn.bytes c) (by omega) (by omega)))) ?_
                        refine O.yes rfl rfl ?_
                        refine O.pickF (isF rfl c181) ?_
                        refine O.pickT rfl ?_
                        refine O.mv ?_
                        refine O.yes rfl rfl ?_
                        refine O.call Tryz.call14 (argsN) (known_spec _ (((((((((((((((((((mx.keep e1).keep e2).keep e3).keep e4).keep e6).keep e8).keep e10).keep e12).keep e14).keep e16).keep e17).keep e18).keep e19).keep e20).keep e49).keep e50).keep e51).keep e52).keep e53)) ?_
                        rintro v_187 w56 ⟨rfl, e56⟩
                        have z56 := e56.size
                        refine O.pickT rfl ?_
                        refine O.asg ?_
                        refine O.nil ?_
                        refine hK30 _ _ ?_
                        refine C.ret ?_
                        refine Outs.one rfl rfl ?_
                        exact ⟨rfl, (Ext.trans (Ext.trans (Ext.trans (Ext.trans (Ext.trans (Ext.trans (Ext.trans (Ext.trans (Ext.trans (Ext.trans (Ext.trans (Ext.trans (Ext.trans (Ext.trans (Ext.trans (Ext.trans (Ext.trans (Ext.trans (Ext.trans e1 e2) e3) e4) e6) e8) e10) e12) e14) e16) e17) e18) e19) e20) e49) e50) e51) e52) e53) e56)⟩
                  ·
                    refine O.yes rfl (isF rfl c165) ?_
                    refine O.mv ?_
                    refine O.yes rfl (isF rfl c165) ?_
                    refine O.gtrI rfl rfl ?_
                    refine O.yes rfl rfl ?_
                    refine O.pickF (isF rfl c165) ?_
                    refine O.yes rfl rfl ?_
                    refine O.mv ?_
                    refine O.splitD (x := .tmp 169) rfl (fun c169 => ?_) (fun c169 => ?_)
                    ·
                      refine O.no rfl (noB (isT rfl c169) rfl) ?_
                      refine O.no rfl (noB (isT rfl c169) rfl) ?_
                      refine O.yes rfl rfl ?_
                      refine O.pickT (isT rfl c169) ?_
                      refine O.pickT rfl ?_
                      refine O.mv ?_
                      refine O.yes rfl rfl ?_
                      refine O.mv ?_
                      refine O.yes rfl rfl ?_
                      refine O.lssI rfl rfl ?_
                      refine O.yes rfl rfl ?_
                      refine O.mv ?_
                      refine O.splitD (x := .tmp 177) rfl (fun c177 => ?_) (fun c177 => ?_)
                      ·
                        refine O.no rfl (noB (isT rfl c177) rfl) ?_
                        refine O.no rfl (noB (isT rfl c177) rfl) ?_
                        refine O.yes rfl rfl ?_
                        refine O.pickT (isT rfl c177) ?_
                        refine O.yes rfl rfl ?_
                        refine O.mv ?_
                        refine O.no rfl (noB rfl rfl) ?_
                        refine O.no rfl (noB rfl rfl) ?_
                        refine O.yes rfl rfl ?_
                        refine O.pickT rfl ?_
                        refine O.pickT rfl ?_
                        refine O.mv ?_
                        refine O.yes rfl rfl ?_
                        refine O.call Tryz.call14 (argsN) (known_spec _ (((((((((((((((((((mx.keep e1).keep e2).keep e3).keep e4).keep e6).keep e8).keep e10).keep e12).keep e14).keep e16).keep e17).keep e18).keep e19).keep e20).keep e49).keep e50).keep e51).keep e52).keep e53)) ?_
                        rintro v_187 w57 ⟨rfl, e57⟩
                        have z57 := e57.size
                        refine O.pickT rfl ?_
                        refine O.asg ?_
                        refine O.nil ?_
                        refine hK30 _ _ ?_
                        refine C.ret ?_
                        refine Outs.one rfl rfl ?_
                        exact ⟨rfl, (Ext.trans (Ext.trans (Ext.trans (Ext.trans (Ext.trans (Ext.trans (Ext.trans (Ext.trans (Ext.trans (Ext.trans (Ext.trans (Ext.trans (Ext.trans (Ext.trans (Ext.trans (Ext.trans (Ext.trans (Ext.trans (Ext.trans e1 e2) e3) e4) e6) e8) e10) e12) e14) e16) e17) e18) e19) e20) e49) e50) e51) e52) e53) e57)⟩
                      ·
                        refine O.yes rfl (isF rfl c177) ?_
                        refine O.mv ?_
                        refine O.yes rfl (isF rfl c177) ?_
                        refine O.lssI rfl rfl ?_
                        refine O.yes rfl rfl ?_
                        refine O.pickF (isF rfl c177) ?_
                        refine O.yes rfl rfl ?_
                        refine O.mv ?_
                        refine O.splitD (x := .tmp 181) rfl (fun c181 => ?_) (fun c181 => ?_)
                        ·
                          refine O.no rfl (noB (isT rfl c181) rfl) ?_
                          refine O.no rfl (noB (isT rfl c181) rfl) ?_
                          refine O.yes rfl rfl ?_
                          refine O.pickT (isT rfl c181) ?_
                          refine O.pickT rfl ?_
                          refine O.mv ?_
                          refine O.yes rfl rfl ?_
                          refine O.call Tryz.call14 (argsN) (known_spec _ (((((((((((((((((((mx.keep e1).keep e2).keep e3).keep e4).keep e6).keep e8).keep e10).keep e12).keep e14).keep e16).keep e17).keep e18).keep e19).keep e20).keep e49).keep e50).keep e51).keep e52).keep e53)) ?_
                          rintro v_187 w58 ⟨rfl, e58⟩
                          have z58 := e58.size
                          refine O.pickT rfl ?_
                          refine O.asg ?_
                          refine O.nil ?_
                          refine hK30 _ _ ?_
                          refine C.ret ?_
                          refine Outs.one rfl rfl ?_
                          exact ⟨rfl, (Ext.trans (Ext.trans (Ext.trans (Ext.trans (Ext.trans (Ext.trans (Ext.trans (Ext.trans (Ext.trans (Ext.trans (Ext.trans (Ext.trans (Ext.trans (Ext.trans (Ext.trans (Ext.trans (Ext.trans (Ext.trans (Ext.trans e1 e2) e3) e4) e6) e8) e10) e12) e14) e16) e17) e18) e19) e20) e49) e50) e51) e52) e53) e58)⟩
                        ·
                          refine O.yes rfl (isF rfl c181) ?_
                          refine O.mv ?_
                          refine O.yes rfl (isF rfl c181) ?_
                          refine O.geqI rfl rfl ?_
                          refine O.cast (v' := .bool true) (congrArg Value.bool (by exact decide_eq_true (cmpB_ge (Cn.bytes a) (Cn.bytes b) (Cn.bytes c) (by omega) (by omega)))) ?_
                          refine O.yes rfl rfl ?_
                          refine O.pickF (isF rfl c181) ?_
                          refine O.pickT rfl ?_
                          refine O.mv ?_
                          refine O.yes rfl rfl ?_
                          refine O.call Tryz.call14 (argsN) (known_spec _ (((((((((((((((((((mx.keep e1).keep e2).keep e3).keep e4).keep e6).keep e8).keep e10).keep e12).keep e14).keep e16).keep e17).keep e18).keep e19).keep e20).keep e49).keep e50).keep e51).keep e52).keep e53)) ?_
                          rintro v_187 w59 ⟨rfl, e59⟩
                          have z59 := e59.size
                          refine O.pickT rfl ?_
                          refine O.asg ?_
                          refine O.nil ?_
                          refine hK30 _ _ ?_
                          refine C.ret ?_
                          refine Outs.one rfl rfl ?_
                          exact ⟨rfl, (Ext.trans (Ext.trans (Ext.trans (Ext.trans (Ext.trans (Ext.trans (Ext.trans (Ext.trans (Ext.trans (Ext.trans (Ext.trans (Ext.trans (Ext.trans (Ext.trans (Ext.trans (Ext.trans (Ext.trans (Ext.trans (Ext.trans e1 e2) e3) e4) e6) e8) e10) e12) e14) e16) e17) e18) e19) e20) e49) e50) e51) e52) e53) e59)⟩
                    ·
                      refine O.yes rfl (isF rfl c169) ?_
                      refine O.mv ?_
                      refine O.yes rfl (isF rfl c169) ?_
                      refine O.leqI rfl rfl ?_
                      refine O.cast (v' := .bool true) (congrArg Value.bool (by exact decide_eq_true (Cn.cmpB_trans (Cn.bytes a) (Cn.bytes b) (Cn.bytes c) (by omega) (by omega)))) ?_
                      refine O.yes rfl rfl ?_
                      refine O.pickF (isF rfl c169) ?_
                      refine O.pickT rfl ?_
                      refine O.mv ?_
                      refine O.yes rfl rfl ?_
                      refine O.mv ?_
                      refine O.yes rfl rfl ?_
                      refine O.lssI rfl rfl ?_
                      refine O.yes rfl rfl ?_
                      refine O.mv ?_
                      refine O.splitD (x := .tmp 177) rfl (fun c177 => ?_) (fun c177 => ?_)
                      ·
                        refine O.no rfl (noB (isT rfl c177) rfl) ?_
                        refine O.no rfl (noB (isT rfl c177) rfl) ?_
                        refine O.yes rfl rfl ?_
                        refine O.pickT (isT rfl c177) ?_
                        refine O.yes rfl rfl ?_
                        refine O.mv ?_
                        refine O.no rfl (noB rfl rfl) ?_
                        refine O.no rfl (noB rfl rfl) ?_
                        refine O.yes rfl rfl ?_
                        refine O.pickT rfl ?_
                        refine O.pickT rfl ?_
                        refine O.mv ?_
                        refine O.yes rfl rfl ?_
                        refine O.call Tryz.call14 (argsN) (known_spec _ (((((((((((((((((((mx.keep e1).keep e2).keep e3).keep e4).keep e6).keep e8).keep e10).keep e12).keep e14).keep e16).keep e17).keep e18).keep e19).keep e20).keep e49).keep e50).keep e51).keep e52).keep e53)) ?_
                        rintro v_187 w60 ⟨rfl, e60⟩
                        have z60 := e60.size
                        refine O.pickT rfl ?_
                        refine O.asg ?_
                        refine O.nil ?_
                        refine hK30 _ _ ?_
                        refine C.ret ?_
                        refine Outs.one rfl rfl ?_
                        exact ⟨rfl, (Ext.trans (Ext.trans (Ext.trans (Ext.trans (Ext.trans (Ext.trans (Ext.trans (Ext.trans (Ext.trans (Ext.trans (Ext.trans (Ext.trans (Ext.trans (Ext.trans (Ext.trans (Ext.trans (Ext.trans (Ext.trans (Ext.trans e1 e2) e3) e4) e6) e8) e10) e12) e14) e16) e17) e18) e19) e20) e49) e50) e51) e52) e53) e60)⟩
                      ·
                        refine O.yes rfl (isF rfl c177) ?_
                        refine O.mv ?_
                        refine O.yes rfl (isF rfl c177) ?_
                        refine O.lssI rfl rfl ?_
                        refine O.yes rfl rfl ?_
                        refine O.pickF (isF rfl c177) ?_
                        refine O.yes rfl rfl ?_
                        refine O.mv ?_
                        refine O.splitD (x := .tmp 181) rfl (fun c181 => ?_) (fun c181 => ?_)
                        ·
                          refine O.no rfl (noB (isT rfl c181) rfl) ?_
                          refine O.no rfl (noB (isT rfl c181) rfl) ?_
                          refine O.yes rfl rfl ?_
                          refine O.pickT (isT rfl c181) ?_
                          refine O.pickT rfl ?_
                          refine O.mv ?_
                          refine O.yes rfl rfl ?_
                          refine O.call Tryz.call14 (argsN) (known_spec _ (((((((((((((((((((mx.keep e1).keep e2).keep e3).keep e4).keep e6).keep e8).keep e10).keep e12).keep e14).keep e16).keep e17).keep e18).keep e19).keep e20).keep e49).keep e50).keep e51).keep e52).keep e53)) ?_
                          rintro v_187 w61 ⟨rfl, e61⟩
                          have z61 := e61.size
                          refine O.pickT rfl ?_
                          refine O.asg ?_
                          refine O.nil ?_
                          refine hK30 _ _ ?_
                          refine C.ret ?_
                          refine Outs.one rfl rfl ?_
                          exact ⟨rfl, (Ext.trans (Ext.trans (Ext.trans (Ext.trans (Ext.trans (Ext.trans (Ext.trans (Ext.trans (Ext.trans (Ext.trans (Ext.trans (Ext.trans (Ext.trans (Ext.trans (Ext.trans (Ext.trans (Ext.trans (Ext.trans (Ext.trans e1 e2) e3) e4) e6) e8) e10) e12) e14) e16) e17) e18) e19) e20) e49) e50) e51) e52) e53) e61)⟩
                        ·
                          refine O.yes rfl (isF rfl c181) ?_
                          refine O.mv ?_
                          refine O.yes rfl (isF rfl c181) ?_
                          refine O.geqI rfl rfl ?_
                          refine O.cast (v' := .bool true) (congrArg Value.bool (by exact decide_eq_true (cmpB_ge (Cn.bytes a) (Cn.bytes b) (Cn.bytes c) (by omega) (by omega)))) ?_
                          refine O.yes rfl rfl ?_
                          refine O.pickF (isF rfl c181) ?_
                          refine O.pickT rfl ?_
                          refine O.mv ?_
                          refine O.yes rfl rfl ?_
                          refine O.call Tryz.call14 (argsN) (known_spec _ (((((((((((((((((((mx.keep e1).keep e2).keep e3).keep e4).keep e6).keep e8).keep e10).keep e12).keep e14).keep e16).keep e17).keep e18).keep e19).keep e20).keep e49).keep e50).keep e51).keep e52).keep e53)) ?_
                          rintro v_187 w62 ⟨rfl, e62⟩
                          have z62 := e62.size
                          refine O.pickT rfl ?_
                          refine O.asg ?_
                          refine O.nil ?_
                          refine hK30 _ _ ?_
                          refine C.ret ?_
                          refine Outs.one rfl rfl ?_
                          exact ⟨rfl, (Ext.trans (Ext.trans (Ext.trans (Ext.trans (Ext.trans (Ext.trans (Ext.trans (Ext.trans (Ext.trans (Ext.trans (Ext.trans (Ext.trans (Ext.trans (Ext.trans (Ext.trans (Ext.trans (Ext.trans (Ext.trans (Ext.trans e1 e2) e3) e4) e6) e8) e10) e12) e14) e16) e17) e18) e19) e20) e49) e50) e51) e52) e53) e62)⟩
                ·
                  refine D.takeNo (i := 22) rfl rfl (by kernel_rfl) (Le.refl _) rfl (noB (isF rfl c99) rfl) ?_
                  refine D.takeNo (i := 23) rfl rfl (by kernel_rfl) (Le.refl _) rfl (noB (isF rfl c99) rfl) ?_
                  refine D.takeNo (i := 24) rfl rfl (by kernel_rfl) (Le.refl _) rfl (noB (isF rfl c99) rfl) ?_
                  refine D.takeNo (i := 25) rfl rfl (by kernel_rfl) (Le.refl _) rfl (noB (isF rfl c99) rfl) ?_
                  refine D.takeNo (i := 26) rfl rfl (by kernel_rfl) (Le.refl _) rfl (noB (isF rfl c99) rfl) ?_
                  refine D.takeNo (i := 27) rfl rfl (by kernel_rfl) (Le.refl _) rfl (noB (isF rfl c99) rfl) ?_
                  refine D.takeNo (i := 28) rfl rfl (by kernel_rfl) (Le.refl _) rfl (noB (isF rfl c99) rfl) ?_
                  refine D.takeNo (i := 29) rfl rfl (by kernel_rfl) (Le.refl _) rfl (noB (isF rfl c99) rfl) ?_
                  refine D.takeYes (i := 30) rfl rfl rfl (by kernel_rfl) rfl rfl (Le.refl _) pick_form (fun w_ hw_ N_ hN => (O.pickF (isF rfl c99) (O.nil hN))) ?_
                  refine D.take (i := 31) rfl rfl rfl rfl (by kernel_rfl) (Le.refl _) pick_form (fun w_ hw_ N_ hN => (O.pickF rfl (O.nil hN))) ?_
                  refine D.done (by kernel_rfl) ?_
                  refine hK15 _ _ ?_
                  refine C.condF rfl ?_
                  refine C.skip ?_
                  refine hK14 _ _ ?_
                  refine C.seqK fun K31 hK31 => ?_
                  refine C.region ?_
                  refine O.loadOA Tryz.isAgg28 Tryz.sizeOf28 rfl (((((((((((((h3.keep e2).keep e3).keep e4).keep e6).keep e8).keep e10).keep e12).keep e14).keep e16).keep e17).keep e18).keep e19).keep e20) (Nat.le_of_ble_eq_true rfl) ?_
                  refine O.loadOA Tryz.isAgg28 Tryz.sizeOf28 rfl ((((((((((((h4.keep e3).keep e4).keep e6).keep e8).keep e10).keep e12).keep e14).keep e16).keep e17).keep e18).keep e19).keep e20) (Nat.le_of_ble_eq_true rfl) ?_
                  refine O.call Tryz.call28 (args2 rfl rfl) (ccmp2_spec va1 va2 va3 a F vb1 vb2 vb3 b Fb _ ((((((((((((((hav.keep e1).keep e2).keep e3).keep e4).keep e6).keep e8).keep e10).keep e12).keep e14).keep e16).keep e17).keep e18).keep e19).keep e20) ((((((((((((((hac.keep e1).keep e2).keep e3).keep e4).keep e6).keep e8).keep e10).keep e12).keep e14).keep e16).keep e17).keep e18).keep e19).keep e20) ((((((((((((((hai.keep e1).keep e2).keep e3).keep e4).keep e6).keep e8).keep e10).keep e12).keep e14).keep e16).keep e17).keep e18).keep e19).keep e20) (fun k hk => by have q1 := hF k hk; omega) hn hS hp hq ((((((((((((((mx.keep e1).keep e2).keep e3).keep e4).keep e6).keep e8).keep e10).keep e12).keep e14).keep e16).keep e17).keep e18).keep e19).keep e20) ((((((((((((((hbv.keep e1).keep e2).keep e3).keep e4).keep e6).keep e8).keep e10).keep e12).keep e14).keep e16).keep e17).keep e18).keep e19).keep e20) ((((((((((((((hbc.keep e1).keep e2).keep e3).keep e4).keep e6).keep e8).keep e10).keep e12).keep e14).keep e16).keep e17).keep e18).keep e19).keep e20) ((((((((((((((hbi.keep e1).keep e2).keep e3).keep e4).keep e6).keep e8).keep e10).keep e12).keep e14).keep e16).keep e17).keep e18).keep e19).keep e20) (fun k hk => by have q1 := hFb k hk; omega) hnb hSb hpb hqb) ?_
                  rintro v_113 w63 ⟨rfl, e63⟩
                  have z63 := e63.size
                  refine O.mv ?_
                  refine O.extract rfl rfl ?_
                  refine O.cast (v' := .int .i64 (Cn.cmpB (Cn.bytes a) (Cn.bytes b))) (congrArg (Value.int .i64) (by rw [hva, hvb]; rfl)) ?_
                  refine O.extract rfl rfl ?_
                  refine O.cast (v' := .int .i64 0) (congrArg (Value.int .i64) (by rw [hva, hvb]; rfl)) ?_
                  refine O.asg ?_
                  refine O.asg ?_
                  refine O.nil ?_
                  refine hK31 _ _ ?_
                  refine C.seqK fun K32 hK32 => ?_
                  refine C.region ?_
                  refine O.loadOA Tryz.isAgg28 Tryz.sizeOf28 rfl (((((((((((((h4.keep e3).keep e4).keep e6).keep e8).keep e10).keep e12).keep e14).keep e16).keep e17).keep e18).keep e19).keep e20).keep e63) (Nat.le_of_ble_eq_true rfl) ?_
                  refine O.loadOA Tryz.isAgg28 Tryz.sizeOf28 rfl ((((((((((((h5.keep e4).keep e6).keep e8).keep e10).keep e12).keep e14).keep e16).keep e17).keep e18).keep e19).keep e20).keep e63) (Nat.le_of_ble_eq_true rfl) ?_
                  refine O.call Tryz.call28 (args2 rfl rfl) (ccmp2_spec vb1 vb2 vb3 b Fb vc1 vc2 vc3 c Fc _ (((((((((((((((hbv.keep e1).keep e2).keep e3).keep e4).keep e6).keep e8).keep e10).keep e12).keep e14).keep e16).keep e17).keep e18).keep e19).keep e20).keep e63) (((((((((((((((hbc.keep e1).keep e2).keep e3).keep e4).keep e6).keep e8).keep e10).keep e12).keep e14).keep e16).keep e17).keep e18).keep e19).keep e20).keep e63) (((((((((((((((hbi.keep e1).keep e2).keep e3).keep e4).keep e6).keep e8).keep e10).keep e12).keep e14).keep e16).keep e17).keep e18).keep e19).keep e20).keep e63) (fun k hk => by have q1 := hFb k hk; omega) hnb hSb hpb hqb (((((((((((((((mx.keep e1).keep e2).keep e3).keep e4).keep e6).keep e8).keep e10).keep e12).keep e14).keep e16).keep e17).keep e18).keep e19).keep e20).keep e63) (((((((((((((((hcv.keep e1).keep e2).keep e3).keep e4).keep e6).keep e8).keep e10).keep e12).keep e14).keep e16).keep e17).keep e18).keep e19).keep e20).keep e63) (((((((((((((((hcc.keep e1).keep e2).keep e3).keep e4).keep e6).keep e8).keep e10).keep e12).keep e14).keep e16).keep e17).keep e18).keep e19).keep e20).keep e63) (((((((((((((((hci.keep e1).keep e2).keep e3).keep e4).keep e6).keep e8).keep e10).keep e12).keep e14).keep e16).keep e17).keep e18).keep e19).keep e20).keep e63) (fun k hk => by have q1 := hFc k hk; omega) hnc hSc hpc hqc) ?_
                  rintro v_119 w64 ⟨rfl, e64⟩
                  have z64 := e64.size
                  refine O.mv ?_
                  refine O.extract rfl rfl ?_
                  refine O.cast (v' := .int .i64 (Cn.cmpB (Cn.bytes b) (Cn.bytes c))) (congrArg (Value.int .i64) (by rw [hvb, hvc]; rfl)) ?_
                  refine O.extract rfl rfl ?_
                  refine O.cast (v' := .int .i64 0) (congrArg (Value.int .i64) (by rw [hvb, hvc]; rfl)) ?_
                  refine O.asg ?_
                  refine O.asg ?_
                  refine O.nil ?_
                  refine hK32 _ _ ?_
                  refine C.seqK fun K33 hK33 => ?_
                  refine C.region ?_
                  refine O.loadOA Tryz.isAgg28 Tryz.sizeOf28 rfl (((((((((((((((h3.keep e2).keep e3).keep e4).keep e6).keep e8).keep e10).keep e12).keep e14).keep e16).keep e17).keep e18).keep e19).keep e20).keep e63).keep e64) (Nat.le_of_ble_eq_true rfl) ?_
                  refine O.loadOA Tryz.isAgg28 Tryz.sizeOf28 rfl (((((((((((((h5.keep e4).keep e6).keep e8).keep e10).keep e12).keep e14).keep e16).keep e17).keep e18).keep e19).keep e20).keep e63).keep e64) (Nat.le_of_ble_eq_true rfl) ?_
                  refine O.call Tryz.call28 (args2 rfl rfl) (ccmp2_spec va1 va2 va3 a F vc1 vc2 vc3 c Fc _ ((((((((((((((((hav.keep e1).keep e2).keep e3).keep e4).keep e6).keep e8).keep e10).keep e12).keep e14).keep e16).keep e17).keep e18).keep e19).keep e20).keep e63).keep e64) ((((((((((((((((hac.keep e1).keep e2).keep e3).keep e4).keep e6).keep e8).keep e10).keep e12).keep e14).keep e16).keep e17).keep e18).keep e19).keep e20).keep e63).keep e64) ((((((((((((((((hai.keep e1).keep e2).keep e3).keep e4).keep e6).keep e8).keep e10).keep e12).keep e14).keep e16).keep e17).keep e18).keep e19).keep e20).keep e63).keep e64) (fun k hk => by have q1 := hF k hk; omega) hn hS hp hq ((((((((((((((((mx.keep e1).keep e2).keep e3).keep e4).keep e6).keep e8).keep e10).keep e12).keep e14).keep e16).keep e17).keep e18).keep e19).keep e20).keep e63).keep e64) ((((((((((((((((hcv.keep e1).keep e2).keep e3).keep e4).keep e6).keep e8).keep e10).keep e12).keep e14).keep e16).keep e17).keep e18).keep e19).keep e20).keep e63).keep e64) ((((((((((((((((hcc.keep e1).keep e2).keep e3).keep e4).keep e6).keep e8).keep e10).keep e12).keep e14).keep e16).keep e17).keep e18).keep e19).keep e20).keep e63).keep e64) ((((((((((((((((hci.keep e1).keep e2).keep e3).keep e4).keep e6).keep e8).keep e10).keep e12).keep e14).keep e16).keep e17).keep e18).keep e19).keep e20).keep e63).keep e64) (fun k hk => by have q1 := hFc k hk; omega) hnc hSc hpc hqc) ?_
                  rintro v_125 w65 ⟨rfl, e65⟩
                  have z65 := e65.size
                  refine O.mv ?_
                  refine O.extract rfl rfl ?_
                  refine O.cast (v' := .int .i64 (Cn.cmpB (Cn.bytes a) (Cn.bytes c))) (congrArg (Value.int .i64) (by rw [hva, hvc]; rfl)) ?_
                  refine O.extract rfl rfl ?_
                  refine O.cast (v' := .int .i64 0) (congrArg (Value.int .i64) (by rw [hva, hvc]; rfl)) ?_
                  refine O.asg ?_
                  refine O.asg ?_
                  refine O.nil ?_
                  refine hK33 _ _ ?_
                  refine C.seqK fun K34 hK34 => ?_
                  refine C.region ?_
                  refine O.loadOA Tryz.isAgg28 Tryz.sizeOf28 rfl (((((((((((((((h4.keep e3).keep e4).keep e6).keep e8).keep e10).keep e12).keep e14).keep e16).keep e17).keep e18).keep e19).keep e20).keep e63).keep e64).keep e65) (Nat.le_of_ble_eq_true rfl) ?_
                  refine O.loadOA Tryz.isAgg28 Tryz.sizeOf28 rfl ((((((((((((((((h3.keep e2).keep e3).keep e4).keep e6).keep e8).keep e10).keep e12).keep e14).keep e16).keep e17).keep e18).keep e19).keep e20).keep e63).keep e64).keep e65) (Nat.le_of_ble_eq_true rfl) ?_
                  refine O.call Tryz.call28 (args2 rfl rfl) (ccmp2_spec vb1 vb2 vb3 b Fb va1 va2 va3 a F _ (((((((((((((((((hbv.keep e1).keep e2).keep e3).keep e4).keep e6).keep e8).keep e10).keep e12).keep e14).keep e16).keep e17).keep e18).keep e19).keep e20).keep e63).keep e64).keep e65) (((((((((((((((((hbc.keep e1).keep e2).keep e3).keep e4).keep e6).keep e8).keep e10).keep e12).keep e14).keep e16).keep e17).keep e18).keep e19).keep e20).keep e63).keep e64).keep e65) (((((((((((((((((hbi.keep e1).keep e2).keep e3).keep e4).keep e6).keep e8).keep e10).keep e12).keep e14).keep e16).keep e17).keep e18).keep e19).keep e20).keep e63).keep e64).keep e65) (fun k hk => by have q1 := hFb k hk; omega) hnb hSb hpb hqb (((((((((((((((((mx.keep e1).keep e2).keep e3).keep e4).keep e6).keep e8).keep e10).keep e12).keep e14).keep e16).keep e17).keep e18).keep e19).keep e20).keep e63).keep e64).keep e65) (((((((((((((((((hav.keep e1).keep e2).keep e3).keep e4).keep e6).keep e8).keep e10).keep e12).keep e14).keep e16).keep e17).keep e18).keep e19).keep e20).keep e63).keep e64).keep e65) (((((((((((((((((hac.keep e1).keep e2).keep e3).keep e4).keep e6).keep e8).keep e10).keep e12).keep e14).keep e16).keep e17).keep e18).keep e19).keep e20).keep e63).keep e64).keep e65) (((((((((((((((((hai.keep e1).keep e2).keep e3).keep e4).keep e6).keep e8).keep e10).keep e12).keep e14).keep e16).keep e17).keep e18).keep e19).keep e20).keep e63).keep e64).keep e65) (fun k hk => by have q1 := hF k hk; omega) hn hS hp hq) ?_
                  rintro v_131 w66 ⟨rfl, e66⟩
                  have z66 := e66.size
                  refine O.mv ?_
                  refine O.extract rfl rfl ?_
                  refine O.cast (v' := .int .i64 (Cn.cmpB (Cn.bytes b) (Cn.bytes a))) (congrArg (Value.int .i64) (by rw [hvb, hva]; rfl)) ?_
                  refine O.extract rfl rfl ?_
                  refine O.cast (v' := .int .i64 0) (congrArg (Value.int .i64) (by rw [hvb, hva]; rfl)) ?_
                  refine O.asg ?_
                  refine O.asg ?_
                  refine O.nil ?_
                  refine hK34 _ _ ?_
                  refine C.seqK fun K35 hK35 => ?_
                  refine C.region ?_
                  refine O.mv ?_
                  refine O.eqlI rfl rfl ?_
                  refine O.cast (v' := .bool true) rfl ?_
                  refine O.mv ?_
                  refine O.yes rfl rfl ?_
                  refine O.mv ?_
                  refine O.yes rfl rfl ?_
                  refine O.eqlI rfl rfl ?_
                  refine O.cast (v' := .bool true) rfl ?_
                  refine O.pickT rfl ?_
                  refine O.mv ?_
                  refine O.yes rfl rfl ?_
                  refine O.mv ?_
                  refine O.yes rfl rfl ?_
                  refine O.eqlI rfl rfl ?_
                  refine O.cast (v' := .bool true) rfl ?_
                  refine O.pickT rfl ?_
                  refine O.mv ?_
                  refine O.yes rfl rfl ?_
                  refine O.mv ?_
                  refine O.yes rfl rfl ?_
                  refine O.eqlI rfl rfl ?_
                  refine O.cast (v' := .bool true) rfl ?_
                  refine O.pickT rfl ?_
                  refine O.mv ?_
                  refine O.yes rfl rfl ?_
                  refine O.mv ?_
                  refine O.yes rfl rfl ?_
                  refine O.mv ?_
                  refine O.yes rfl rfl ?_
                  refine O.negI rfl (by have := Cn.cmpB_in (Cn.bytes a) (Cn.bytes b); unfold InI; omega) ?_
                  refine O.yes rfl rfl ?_
                  refine O.eqlI rfl rfl ?_
                  refine O.cast (v' := .bool true) (congrArg Value.bool (by exact decide_eq_true (Cn.cmpB_neg (Cn.bytes a) (Cn.bytes b)))) ?_
                  refine O.pickT rfl ?_
                  refine O.mv ?_
                  refine O.yes rfl rfl ?_
                  refine O.mv ?_
                  refine O.yes rfl rfl ?_
                  refine O.eqlI rfl rfl ?_
                  refine O.yes rfl rfl ?_
                  refine O.loadOA Tryz.isAgg28 Tryz.sizeOf28 rfl (((((((((((((((((h3.keep e2).keep e3).keep e4).keep e6).keep e8).keep e10).keep e12).keep e14).keep e16).keep e17).keep e18).keep e19).keep e20).keep e63).keep e64).keep e65).keep e66) (Nat.le_of_ble_eq_true rfl) ?_
                  refine O.yes rfl rfl ?_
                  refine O.loadOA Tryz.isAgg28 Tryz.sizeOf28 rfl ((((((((((((((((h4.keep e3).keep e4).keep e6).keep e8).keep e10).keep e12).keep e14).keep e16).keep e17).keep e18).keep e19).keep e20).keep e63).keep e64).keep e65).keep e66) (Nat.le_of_ble_eq_true rfl) ?_
                  refine O.yes rfl rfl ?_
                  refine O.call Tryz.call21 (args2 rfl rfl) (same_spec va1 va2 va3 a F vb1 vb2 vb3 b Fb _ ((((((((((((((((((hav.keep e1).keep e2).keep e3).keep e4).keep e6).keep e8).keep e10).keep e12).keep e14).keep e16).keep e17).keep e18).keep e19).keep e20).keep e63).keep e64).keep e65).keep e66) ((((((((((((((((((hac.keep e1).keep e2).keep e3).keep e4).keep e6).keep e8).keep e10).keep e12).keep e14).keep e16).keep e17).keep e18).keep e19).keep e20).keep e63).keep e64).keep e65).keep e66) ((((((((((((((((((hai.keep e1).keep e2).keep e3).keep e4).keep e6).keep e8).keep e10).keep e12).keep e14).keep e16).keep e17).keep e18).keep e19).keep e20).keep e63).keep e64).keep e65).keep e66) ((((((((((((((((((hbv.keep e1).keep e2).keep e3).keep e4).keep e6).keep e8).keep e10).keep e12).keep e14).keep e16).keep e17).keep e18).keep e19).keep e20).keep e63).keep e64).keep e65).keep e66) ((((((((((((((((((hbc.keep e1).keep e2).keep e3).keep e4).keep e6).keep e8).keep e10).keep e12).keep e14).keep e16).keep e17).keep e18).keep e19).keep e20).keep e63).keep e64).keep e65).keep e66) ((((((((((((((((((hbi.keep e1).keep e2).keep e3).keep e4).keep e6).keep e8).keep e10).keep e12).keep e14).keep e16).keep e17).keep e18).keep e19).keep e20).keep e63).keep e64).keep e65).keep e66) (fun k hk => by have q1 := hF k hk; omega) (fun k hk => by have q1 := hFb k hk; omega)) ?_
                  rintro v_159 w67 ⟨rfl, e67⟩
                  have z67 := e67.size
                  refine O.yes rfl rfl ?_
                  refine O.eqlB Tryz.underlying4 rfl rfl ?_
                  refine O.cast (v' := .bool true) (congrArg Value.bool (by exact decide_eq_true (decide_eq_decide.2 ((Cn.cmpB_zero _ _).trans (Cn.bytes_inj (Cn.validR hva) (Cn.validR hvb)))))) ?_
                  refine O.pickT rfl ?_
                  refine O.mv ?_
                  refine O.yes rfl rfl ?_
                  refine O.mv ?_
                  refine O.yes rfl rfl ?_
                  refine O.gtrI rfl rfl ?_
                  refine O.yes rfl rfl ?_
                  refine O.mv ?_
                  refine O.splitD (x := .tmp 165) rfl (fun c165 => ?_) (fun c165 => ?_)
                  ·
                    refine O.no rfl (noB (isT rfl c165) rfl) ?_
                    refine O.no rfl (noB (isT rfl c165) rfl) ?_
                    refine O.yes rfl rfl ?_
                    refine O.pickT (isT rfl c165) ?_
                    refine O.yes rfl rfl ?_
                    refine O.mv ?_
                    refine O.no rfl (noB rfl rfl) ?_
                    refine O.no rfl (noB rfl rfl) ?_
                    refine O.yes rfl rfl ?_
                    refine O.pickT rfl ?_
                    refine O.pickT rfl ?_
                    refine O.mv ?_
                    refine O.yes rfl rfl ?_
                    refine O.mv ?_
                    refine O.yes rfl rfl ?_
                    refine O.lssI rfl rfl ?_
                    refine O.yes rfl rfl ?_
                    refine O.mv ?_
                    refine O.splitD (x := .tmp 177) rfl (fun c177 => ?_) (fun c177 => ?_)
                    ·
                      refine O.no rfl (noB (isT rfl c177) rfl) ?_
                      refine O.no rfl (noB (isT rfl c177) rfl) ?_
                      refine O.yes rfl rfl ?_
                      refine O.pickT (isT rfl c177) ?_
                      refine O.yes rfl rfl ?_
                      refine O.mv ?_
                      refine O.no rfl (noB rfl rfl) ?_
                      refine O.no rfl (noB rfl rfl) ?_
                      refine O.yes rfl rfl ?_
                      refine O.pickT rfl ?_
                      refine O.pickT rfl ?_
                      refine O.mv ?_
                      refine O.yes rfl rfl ?_
                      refine O.call Tryz.call14 (argsN) (known_spec _ (((((((((((((((((((mx.keep e1).keep e2).keep e3).keep e4).keep e6).keep e8).keep e10).keep e12).keep e14).keep e16).keep e17).keep e18).keep e19).keep e20).keep e63).keep e64).keep e65).keep e66).keep e67)) ?_
                      rintro v_187 w68 ⟨rfl, e68⟩
                      have z68 := e68.size
                      refine O.pickT rfl ?_
                      refine O.asg ?_
                      refine O.nil ?_
                      refine hK35 _ _ ?_
                      refine C.ret ?_
                      refine Outs.one rfl rfl ?_
                      exact ⟨rfl, (Ext.trans (Ext.trans (Ext.trans (Ext.trans (Ext.trans (Ext.trans (Ext.trans (Ext.trans (Ext.trans (Ext.trans (Ext.trans (Ext.trans (Ext.trans (Ext.trans (Ext.trans (Ext.trans (Ext.trans (Ext.trans (Ext.trans e1 e2) e3) e4) e6) e8) e10) e12) e14) e16) e17) e18) e19) e20) e63) e64) e65) e66) e67) e68)⟩
                    ·
                      refine O.yes rfl (isF rfl c177) ?_
                      refine O.mv ?_
                      refine O.yes rfl (isF rfl c177) ?_
                      refine O.lssI rfl rfl ?_
                      refine O.yes rfl rfl ?_
                      refine O.pickF (isF rfl c177) ?_
                      refine O.yes rfl rfl ?_
                      refine O.mv ?_
                      refine O.splitD (x := .tmp 181) rfl (fun c181 => ?_) (fun c181 => ?_)
                      ·
                        refine O.no rfl (noB (isT rfl c181) rfl) ?_
                        refine O.no rfl (noB (isT rfl c181) rfl) ?_
                        refine O.yes rfl rfl ?_
                        refine O.pickT (isT rfl c181) ?_
                        refine O.pickT rfl ?_
                        refine O.mv ?_
                        refine O.yes rfl rfl ?_
                        refine O.call Tryz.call14 (argsN) (known_spec _ (((((((((((((((((((mx.keep e1).keep e2).keep e3).keep e4).keep e6).keep e8).keep e10).keep e12).keep e14).keep e16).keep e17).keep e18).keep e19).keep e20).keep e63).keep e64).keep e65).keep e66).keep e67)) ?_
                        rintro v_187 w69 ⟨rfl, e69⟩
                        have z69 := e69.size
                        refine O.pickT rfl ?_
                        refine O.asg ?_
                        refine O.nil ?_
                        refine hK35 _ _ ?_
                        refine C.ret ?_
                        refine Outs.one rfl rfl ?_
                        exact ⟨rfl, (Ext.trans (Ext.trans (Ext.trans (Ext.trans (Ext.trans (Ext.trans (Ext.trans (Ext.trans (Ext.trans (Ext.trans (Ext.trans (Ext.trans (Ext.trans (Ext.trans (Ext.trans (Ext.trans (Ext.trans (Ext.trans (Ext.trans e1 e2) e3) e4) e6) e8) e10) e12) e14) e16) e17) e18) e19) e20) e63) e64) e65) e66) e67) e69)⟩
                      ·
                        refine O.yes rfl (isF rfl c181) ?_
                        refine O.mv ?_
                        refine O.yes rfl (isF rfl c181) ?_
                        refine O.geqI rfl rfl ?_
                        refine O.cast (v' := .bool true) (congrArg Value.bool (by exact decide_eq_true (cmpB_ge (Cn.bytes a) (Cn.bytes b) (Cn.bytes c) (by omega) (by omega)))) ?_
                        refine O.yes rfl rfl ?_
                        refine O.pickF (isF rfl c181) ?_
                        refine O.pickT rfl ?_
                        refine O.mv ?_
                        refine O.yes rfl rfl ?_
                        refine O.call Tryz.call14 (argsN) (known_spec _ (((((((((((((((((((mx.keep e1).keep e2).keep e3).keep e4).keep e6).keep e8).keep e10).keep e12).keep e14).keep e16).keep e17).keep e18).keep e19).keep e20).keep e63).keep e64).keep e65).keep e66).keep e67)) ?_
                        rintro v_187 w70 ⟨rfl, e70⟩
                        have z70 := e70.size
                        refine O.pickT rfl ?_
                        refine O.asg ?_
                        refine O.nil ?_
                        refine hK35 _ _ ?_
                        refine C.ret ?_
                        refine Outs.one rfl rfl ?_
                        exact ⟨rfl, (Ext.trans (Ext.trans (Ext.trans (Ext.trans (Ext.trans (Ext.trans (Ext.trans (Ext.trans (Ext.trans (Ext.trans (Ext.trans (Ext.trans (Ext.trans (Ext.trans (Ext.trans (Ext.trans (Ext.trans (Ext.trans (Ext.trans e1 e2) e3) e4) e6) e8) e10) e12) e14) e16) e17) e18) e19) e20) e63) e64) e65) e66) e67) e70)⟩
                  ·
                    refine O.yes rfl (isF rfl c165) ?_
                    refine O.mv ?_
                    refine O.yes rfl (isF rfl c165) ?_
                    refine O.gtrI rfl rfl ?_
                    refine O.yes rfl rfl ?_
                    refine O.pickF (isF rfl c165) ?_
                    refine O.yes rfl rfl ?_
                    refine O.mv ?_
                    refine O.splitD (x := .tmp 169) rfl (fun c169 => ?_) (fun c169 => ?_)
                    ·
                      refine O.no rfl (noB (isT rfl c169) rfl) ?_
                      refine O.no rfl (noB (isT rfl c169) rfl) ?_
                      refine O.yes rfl rfl ?_
                      refine O.pickT (isT rfl c169) ?_
                      refine O.pickT rfl ?_
                      refine O.mv ?_
                      refine O.yes rfl rfl ?_
                      refine O.mv ?_
                      refine O.yes rfl rfl ?_
                      refine O.lssI rfl rfl ?_
                      refine O.yes rfl rfl ?_
                      refine O.mv ?_
                      refine O.splitD (x := .tmp 177) rfl (fun c177 => ?_) (fun c177 => ?_)
                      ·
                        refine O.no rfl (noB (isT rfl c177) rfl) ?_
                        refine O.no rfl (noB (isT rfl c177) rfl) ?_
                        refine O.yes rfl rfl ?_
                        refine O.pickT (isT rfl c177) ?_
                        refine O.yes rfl rfl ?_
                        refine O.mv ?_
                        refine O.no rfl (noB rfl rfl) ?_
                        refine O.no rfl (noB rfl rfl) ?_
                        refine O.yes rfl rfl ?_
                        refine O.pickT rfl ?_
                        refine O.pickT rfl ?_
                        refine O.mv ?_
                        refine O.yes rfl rfl ?_
                        refine O.call Tryz.call14 (argsN) (known_spec _ (((((((((((((((((((mx.keep e1).keep e2).keep e3).keep e4).keep e6).keep e8).keep e10).keep e12).keep e14).keep e16).keep e17).keep e18).keep e19).keep e20).keep e63).keep e64).keep e65).keep e66).keep e67)) ?_
                        rintro v_187 w71 ⟨rfl, e71⟩
                        have z71 := e71.size
                        refine O.pickT rfl ?_
                        refine O.asg ?_
                        refine O.nil ?_
                        refine hK35 _ _ ?_
                        refine C.ret ?_
                        refine Outs.one rfl rfl ?_
                        exact ⟨rfl, (Ext.trans (Ext.trans (Ext.trans (Ext.trans (Ext.trans (Ext.trans (Ext.trans (Ext.trans (Ext.trans (Ext.trans (Ext.trans (Ext.trans (Ext.trans (Ext.trans (Ext.trans (Ext.trans (Ext.trans (Ext.trans (Ext.trans e1 e2) e3) e4) e6) e8) e10) e12) e14) e16) e17) e18) e19) e20) e63) e64) e65) e66) e67) e71)⟩
                      ·
                        refine O.yes rfl (isF rfl c177) ?_
                        refine O.mv ?_
                        refine O.yes rfl (isF rfl c177) ?_
                        refine O.lssI rfl rfl ?_
                        refine O.yes rfl rfl ?_
                        refine O.pickF (isF rfl c177) ?_
                        refine O.yes rfl rfl ?_
                        refine O.mv ?_
                        refine O.splitD (x := .tmp 181) rfl (fun c181 => ?_) (fun c181 => ?_)
                        ·
                          refine O.no rfl (noB (isT rfl c181) rfl) ?_
                          refine O.no rfl (noB (isT rfl c181) rfl) ?_
                          refine O.yes rfl rfl ?_
                          refine O.pickT (isT rfl c181) ?_
                          refine O.pickT rfl ?_
                          refine O.mv ?_
                          refine O.yes rfl rfl ?_
                          refine O.call Tryz.call14 (argsN) (known_spec _ (((((((((((((((((((mx.keep e1).keep e2).keep e3).keep e4).keep e6).keep e8).keep e10).keep e12).keep e14).keep e16).keep e17).keep e18).keep e19).keep e20).keep e63).keep e64).keep e65).keep e66).keep e67)) ?_
                          rintro v_187 w72 ⟨rfl, e72⟩
                          have z72 := e72.size
                          refine O.pickT rfl ?_
                          refine O.asg ?_
                          refine O.nil ?_
                          refine hK35 _ _ ?_
                          refine C.ret ?_
                          refine Outs.one rfl rfl ?_
                          exact ⟨rfl, (Ext.trans (Ext.trans (Ext.trans (Ext.trans (Ext.trans (Ext.trans (Ext.trans (Ext.trans (Ext.trans (Ext.trans (Ext.trans (Ext.trans (Ext.trans (Ext.trans (Ext.trans (Ext.trans (Ext.trans (Ext.trans (Ext.trans e1 e2) e3) e4) e6) e8) e10) e12) e14) e16) e17) e18) e19) e20) e63) e64) e65) e66) e67) e72)⟩
                        ·
                          refine O.yes rfl (isF rfl c181) ?_
                          refine O.mv ?_
                          refine O.yes rfl (isF rfl c181) ?_
                          refine O.geqI rfl rfl ?_
                          refine O.cast (v' := .bool true) (congrArg Value.bool (by exact decide_eq_true (cmpB_ge (Cn.bytes a) (Cn.bytes b) (Cn.bytes c) (by omega) (by omega)))) ?_
                          refine O.yes rfl rfl ?_
                          refine O.pickF (isF rfl c181) ?_
                          refine O.pickT rfl ?_
                          refine O.mv ?_
                          refine O.yes rfl rfl ?_
                          refine O.call Tryz.call14 (argsN) (known_spec _ (((((((((((((((((((mx.keep e1).keep e2).keep e3).keep e4).keep e6).keep e8).keep e10).keep e12).keep e14).keep e16).keep e17).keep e18).keep e19).keep e20).keep e63).keep e64).keep e65).keep e66).keep e67)) ?_
                          rintro v_187 w73 ⟨rfl, e73⟩
                          have z73 := e73.size
                          refine O.pickT rfl ?_
                          refine O.asg ?_
                          refine O.nil ?_
                          refine hK35 _ _ ?_
                          refine C.ret ?_
                          refine Outs.one rfl rfl ?_
                          exact ⟨rfl, (Ext.trans (Ext.trans (Ext.trans (Ext.trans (Ext.trans (Ext.trans (Ext.trans (Ext.trans (Ext.trans (Ext.trans (Ext.trans (Ext.trans (Ext.trans (Ext.trans (Ext.trans (Ext.trans (Ext.trans (Ext.trans (Ext.trans e1 e2) e3) e4) e6) e8) e10) e12) e14) e16) e17) e18) e19) e20) e63) e64) e65) e66) e67) e73)⟩
                    ·
                      refine O.yes rfl (isF rfl c169) ?_
                      refine O.mv ?_
                      refine O.yes rfl (isF rfl c169) ?_
                      refine O.leqI rfl rfl ?_
                      refine O.cast (v' := .bool true) (congrArg Value.bool (by exact decide_eq_true (Cn.cmpB_trans (Cn.bytes a) (Cn.bytes b) (Cn.bytes c) (by omega) (by omega)))) ?_
                      refine O.yes rfl rfl ?_
                      refine O.pickF (isF rfl c169) ?_
                      refine O.pickT rfl ?_
                      refine O.mv ?_
                      refine O.yes rfl rfl ?_
                      refine O.mv ?_
                      refine O.yes rfl rfl ?_
                      refine O.lssI rfl rfl ?_
                      refine O.yes rfl rfl ?_
                      refine O.mv ?_
                      refine O.splitD (x := .tmp 177) rfl (fun c177 => ?_) (fun c177 => ?_)
                      ·
                        refine O.no rfl (noB (isT rfl c177) rfl) ?_
                        refine O.no rfl (noB (isT rfl c177) rfl) ?_
                        refine O.yes rfl rfl ?_
                        refine O.pickT (isT rfl c177) ?_
                        refine O.yes rfl rfl ?_
                        refine O.mv ?_
                        refine O.no rfl (noB rfl rfl) ?_
                        refine O.no rfl (noB rfl rfl) ?_
                        refine O.yes rfl rfl ?_
                        refine O.pickT rfl ?_
                        refine O.pickT rfl ?_
                        refine O.mv ?_
                        refine O.yes rfl rfl ?_
                        refine O.call Tryz.call14 (argsN) (known_spec _ (((((((((((((((((((mx.keep e1).keep e2).keep e3).keep e4).keep e6).keep e8).keep e10).keep e12).keep e14).keep e16).keep e17).keep e18).keep e19).keep e20).keep e63).keep e64).keep e65).keep e66).keep e67)) ?_
                        rintro v_187 w74 ⟨rfl, e74⟩
                        have z74 := e74.size
                        refine O.pickT rfl ?_
                        refine O.asg ?_
                        refine O.nil ?_
                        refine hK35 _ _ ?_
                        refine C.ret ?_
                        refine Outs.one rfl rfl ?_
                        exact ⟨rfl, (Ext.trans (Ext.trans (Ext.trans (Ext.trans (Ext.trans (Ext.trans (Ext.trans (Ext.trans (Ext.trans (Ext.trans (Ext.trans (Ext.trans (Ext.trans (Ext.trans (Ext.trans (Ext.trans (Ext.trans (Ext.trans (Ext.trans e1 e2) e3) e4) e6) e8) e10) e12) e14) e16) e17) e18) e19) e20) e63) e64) e65) e66) e67) e74)⟩
                      ·
                        refine O.yes rfl (isF rfl c177) ?_
                        refine O.mv ?_
                        refine O.yes rfl (isF rfl c177) ?_
                        refine O.lssI rfl rfl ?_
                        refine O.yes rfl rfl ?_
                        refine O.pickF (isF rfl c177) ?_
                        refine O.yes rfl rfl ?_
                        refine O.mv ?_
                        refine O.splitD (x := .tmp 181) rfl (fun c181 => ?_) (fun c181 => ?_)
                        ·
                          refine O.no rfl (noB (isT rfl c181) rfl) ?_
                          refine O.no rfl (noB (isT rfl c181) rfl) ?_
                          refine O.yes rfl rfl ?_
                          refine O.pickT (isT rfl c181) ?_
                          refine O.pickT rfl ?_
                          refine O.mv ?_
                          refine O.yes rfl rfl ?_
                          refine O.call Tryz.call14 (argsN) (known_spec _ (((((((((((((((((((mx.keep e1).keep e2).keep e3).keep e4).keep e6).keep e8).keep e10).keep e12).keep e14).keep e16).keep e17).keep e18).keep e19).keep e20).keep e63).keep e64).keep e65).keep e66).keep e67)) ?_
                          rintro v_187 w75 ⟨rfl, e75⟩
                          have z75 := e75.size
                          refine O.pickT rfl ?_
                          refine O.asg ?_
                          refine O.nil ?_
                          refine hK35 _ _ ?_
                          refine C.ret ?_
                          refine Outs.one rfl rfl ?_
                          exact ⟨rfl, (Ext.trans (Ext.trans (Ext.trans (Ext.trans (Ext.trans (Ext.trans (Ext.trans (Ext.trans (Ext.trans (Ext.trans (Ext.trans (Ext.trans (Ext.trans (Ext.trans (Ext.trans (Ext.trans (Ext.trans (Ext.trans (Ext.trans e1 e2) e3) e4) e6) e8) e10) e12) e14) e16) e17) e18) e19) e20) e63) e64) e65) e66) e67) e75)⟩
                        ·
                          refine O.yes rfl (isF rfl c181) ?_
                          refine O.mv ?_
                          refine O.yes rfl (isF rfl c181) ?_
                          refine O.geqI rfl rfl ?_
                          refine O.cast (v' := .bool true) (congrArg Value.bool (by exact decide_eq_true (cmpB_ge (Cn.bytes a) (Cn.bytes b) (Cn.bytes c) (by omega) (by omega)))) ?_
                          refine O.yes rfl rfl ?_
                          refine O.pickF (isF rfl c181) ?_
                          refine O.pickT rfl ?_
                          refine O.mv ?_
                          refine O.yes rfl rfl ?_
                          refine O.call Tryz.call14 (argsN) (known_spec _ (((((((((((((((((((mx.keep e1).keep e2).keep e3).keep e4).keep e6).keep e8).keep e10).keep e12).keep e14).keep e16).keep e17).keep e18).keep e19).keep e20).keep e63).keep e64).keep e65).keep e66).keep e67)) ?_
                          rintro v_187 w76 ⟨rfl, e76⟩
                          have z76 := e76.size
                          refine O.pickT rfl ?_
                          refine O.asg ?_
                          refine O.nil ?_
                          refine hK35 _ _ ?_
                          refine C.ret ?_
                          refine Outs.one rfl rfl ?_
                          exact ⟨rfl, (Ext.trans (Ext.trans (Ext.trans (Ext.trans (Ext.trans (Ext.trans (Ext.trans (Ext.trans (Ext.trans (Ext.trans (Ext.trans (Ext.trans (Ext.trans (Ext.trans (Ext.trans (Ext.trans (Ext.trans (Ext.trans (Ext.trans e1 e2) e3) e4) e6) e8) e10) e12) e14) e16) e17) e18) e19) e20) e63) e64) e65) e66) e67) e76)⟩

end Go.Proofs.YtnkcmaoaagnopaaGreatDoor
