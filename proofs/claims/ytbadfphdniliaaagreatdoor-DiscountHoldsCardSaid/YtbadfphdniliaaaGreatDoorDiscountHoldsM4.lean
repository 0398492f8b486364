/-
  The walk of the stage's theorem. Conditions: what the library's variable holds; slices as they lie in memory.
-/
import Derived.Test.YtbadfphdniliaaaGreatDoorDiscountHoldsM3
import Derived.Test.YtbadfphdniliaaaGreatDoorDiscountHoldsM2
namespace Go.Proofs.YtbadfphdniliaaaGreatDoor
open Go.Pn Go.RowKit Go.Proofs
attribute [local irreducible] O C D


theorem price_le2 {a b q : Nat} {f g : BitVec 64} (ha : a ≤ 2097152) (hb : b ≤ 2097152) (hq : q ≤ 2147483647) (hf : Rnd.Unit (Fl.canon f)) (hg : Rnd.Unit (Fl.canon g)) :
    ¬ ((Rnd.price (min a b * q) (Fl.canon (fmin f g)) : Nat) : Int) < 0 ∧ ¬ ((Rnd.price (max a b * q) (Fl.canon (fmax f g)) : Nat) : Int) < (Rnd.price (min a b * q) (Fl.canon (fmin f g)) : Nat) ∧ ¬ ((max a b * q : Nat) : Int) < (Rnd.price (max a b * q) (Fl.canon (fmax f g)) : Nat) := by
  obtain ⟨h1, h2, h3⟩ := Ds.min_max hf hg
  have hm : max a b * q < 9007199254740992 := by
    have := Nat.mul_le_mul (show max a b ≤ 2097152 by omega) hq
    omega
  have h4 : min a b * q ≤ max a b * q := Nat.mul_le_mul_right q (by omega)
  have h5 := Rnd.price_mono h4 hm h3 h2
  have h6 := Rnd.price_le hm h2
  omega

set_option maxHeartbeats 8000000 in
theorem discountHolds_spec (c m q : Int) (f g : BitVec 64) (v5 : Value) (l : List Ds.Rule) (v6 : Value) (xs : List (BitVec 64)) (at7 : BitVec 8) (F F2 : Nat → Prop) (w : World) (hc0 : InI c) (hm0 : InI m) (hq0 : InI q) (hl : Sl Ds.ruleF.enc w F v5 l) (hF : ∀ k, F k → k < w.heap.size) (hx : Sl flE w F2 v6 xs) (hF2 : ∀ k, F2 k → k < w.heap.size) (mx : Mx w) :
    Ret Tryz.prog 7 #[.int .i64 (c), .int .i64 (m), .int .i64 (q), fl (f), fl (g), v5, v6, .int .u8 ((at7).toNat : Int)] w (fun v w' => v = .bool true ∧ Le w w') := by
  have hle := hl.le
  have hxe := hx.le
  have _hF9 := hF
  have _hF8 := hF2
  obtain ⟨ie24, ti24, ts24, tb24, tz24⟩ := inf24
  obtain ⟨ie22, ti22, ts22, tb22, tz22⟩ := inf22
  obtain ⟨kk, hkk⟩ : ∃ kk : Nat, kk = if 0 < l.length then at7.toNat % l.length else 0 := ⟨_, rfl⟩
  have hkl : kk ≤ l.length := by
    rw [hkk]
    split
    · rename_i h
      exact Nat.le_of_lt (Nat.mod_lt _ h)
    · exact Nat.zero_le _
  refine enter (args := [.int .i64 (c), .int .i64 (m), .int .i64 (q), fl (f), fl (g), v5, v6, .int .u8 ((at7).toNat : Int)]) (n := 259) Tryz.func7 rfl rfl (Nat.le_of_ble_eq_true rfl) ?_
  refine C.seqK fun K1 hK1 => ?_
  refine C.region ?_
  refine O.asg ?_
  refine O.nil ?_
  refine hK1 _ _ ?_
  refine C.seqK fun K2 hK2 => ?_
  refine C.seqK fun K3 hK3 => ?_
  refine C.region ?_
  refine O.mv ?_
  refine O.mv ?_
  refine O.call Tryz.call10 (args2 rfl rfl) (lpriced_spec _ _ _) ?_
  rintro v_41 w1 ⟨rfl, e1⟩
  have z1 := e1.size
  refine O.not rfl ?_
  refine O.mv ?_
  refine O.split (x := .tmp 43) rfl (fun c43 => ?_) (fun c43 => ?_)
  ·
    refine O.no rfl (noB (isT' rfl c43) rfl) ?_
    refine O.no rfl (noB (isT' rfl c43) rfl) ?_
    refine O.no rfl (noB (isT' rfl c43) rfl) ?_
    refine O.no rfl (noB (isT' rfl c43) rfl) ?_
    refine O.pickT (isT' rfl c43) ?_
    refine O.mv ?_
    refine O.no rfl (noB rfl rfl) ?_
    refine O.no rfl (noB rfl rfl) ?_
    refine O.no rfl (noB rfl rfl) ?_
    refine O.pickT rfl ?_
    refine O.mv ?_
    refine O.no rfl (noB rfl rfl) ?_
    refine O.no rfl (noB rfl rfl) ?_
    refine O.no rfl (noB rfl rfl) ?_
    refine O.pickT rfl ?_
    refine O.mv ?_
    refine O.no rfl (noB rfl rfl) ?_
    refine O.no rfl (noB rfl rfl) ?_
    refine O.no rfl (noB rfl rfl) ?_
    refine O.no rfl (noB rfl rfl) ?_
    refine O.no rfl (noB rfl rfl) ?_
    refine O.pickT rfl ?_
    refine O.nil ?_
    refine hK3 _ _ ?_
    refine C.condT rfl ?_
    refine C.seqK fun K4 hK4 => ?_
    refine C.region ?_
    refine O.call Tryz.call13 (argsN) (known_spec _ (mx.keep e1)) ?_
    rintro v_66 w2 ⟨rfl, e2⟩
    have z2 := e2.size
    refine O.asg ?_
    refine O.nil ?_
    refine hK4 _ _ ?_
    refine C.ret ?_
    refine Outs.one rfl rfl ?_
    exact ⟨rfl, (Ext.trans e1 e2)⟩
  ·
    have hp1 : Ds.okP c q = true := by simpa using c43
    refine O.yes rfl (isF' rfl c43) ?_
    refine O.mv ?_
    refine O.yes rfl (isF' rfl c43) ?_
    refine O.mv ?_
    refine O.yes rfl (isF' rfl c43) ?_
    refine O.call Tryz.call10 (args2 rfl rfl) (lpriced_spec _ _ _) ?_
    rintro v_46 w3 ⟨rfl, e3⟩
    have z3 := e3.size
    refine O.yes rfl (isF' rfl c43) ?_
    refine O.not rfl ?_
    refine O.pickF (isF' rfl c43) ?_
    refine O.mv ?_
    refine O.split (x := .tmp 49) rfl (fun c49 => ?_) (fun c49 => ?_)
    ·
      refine O.no rfl (noB (isT' rfl c49) rfl) ?_
      refine O.no rfl (noB (isT' rfl c49) rfl) ?_
      refine O.no rfl (noB (isT' rfl c49) rfl) ?_
      refine O.pickT (isT' rfl c49) ?_
      refine O.mv ?_
      refine O.no rfl (noB rfl rfl) ?_
      refine O.no rfl (noB rfl rfl) ?_
      refine O.no rfl (noB rfl rfl) ?_
      refine O.pickT rfl ?_
      refine O.mv ?_
      refine O.no rfl (noB rfl rfl) ?_
      refine O.no rfl (noB rfl rfl) ?_
      refine O.no rfl (noB rfl rfl) ?_
      refine O.no rfl (noB rfl rfl) ?_
      refine O.no rfl (noB rfl rfl) ?_
      refine O.pickT rfl ?_
      refine O.nil ?_
      refine hK3 _ _ ?_
      refine C.condT rfl ?_
      refine C.seqK fun K5 hK5 => ?_
      refine C.region ?_
      refine O.call Tryz.call13 (argsN) (known_spec _ ((mx.keep e1).keep e3)) ?_
      rintro v_66 w4 ⟨rfl, e4⟩
      have z4 := e4.size
      refine O.asg ?_
      refine O.nil ?_
      refine hK5 _ _ ?_
      refine C.ret ?_
      refine Outs.one rfl rfl ?_
      exact ⟨rfl, (Ext.trans (Ext.trans e1 e3) e4)⟩
    ·
      have hp2 : Ds.okP m q = true := by simpa using c49
      refine O.yes rfl (isF' rfl c49) ?_
      refine O.mv ?_
      refine O.yes rfl (isF' rfl c49) ?_
      refine O.len Tryz.underlying32 rfl ((hl.keep e1).keep e3) ?_
      refine O.yes rfl (isF' rfl c49) ?_
      refine O.gtrI rfl rfl ?_
      refine O.pickF (isF' rfl c49) ?_
      refine O.mv ?_
      refine O.splitD (x := .tmp 54) rfl (fun c54 => ?_) (fun c54 => ?_)
      ·
        refine O.no rfl (noB (isT rfl c54) rfl) ?_
        refine O.no rfl (noB (isT rfl c54) rfl) ?_
        refine O.no rfl (noB (isT rfl c54) rfl) ?_
        refine O.pickT (isT rfl c54) ?_
        refine O.mv ?_
        refine O.no rfl (noB rfl rfl) ?_
        refine O.no rfl (noB rfl rfl) ?_
        refine O.no rfl (noB rfl rfl) ?_
        refine O.no rfl (noB rfl rfl) ?_
        refine O.no rfl (noB rfl rfl) ?_
        refine O.pickT rfl ?_
        refine O.nil ?_
        refine hK3 _ _ ?_
        refine C.condT rfl ?_
        refine C.seqK fun K6 hK6 => ?_
        refine C.region ?_
        refine O.call Tryz.call13 (argsN) (known_spec _ ((mx.keep e1).keep e3)) ?_
        rintro v_66 w5 ⟨rfl, e5⟩
        have z5 := e5.size
        refine O.asg ?_
        refine O.nil ?_
        refine hK6 _ _ ?_
        refine C.ret ?_
        refine Outs.one rfl rfl ?_
        exact ⟨rfl, (Ext.trans (Ext.trans e1 e3) e5)⟩
      ·
        refine O.yes rfl (isF rfl c54) ?_
        refine O.mv ?_
        refine O.yes rfl (isF rfl c54) ?_
        refine O.len Tryz.underlying37 rfl ((hx.keep e1).keep e3) ?_
        refine O.yes rfl (isF rfl c54) ?_
        refine O.gtrI rfl rfl ?_
        refine O.pickF (isF rfl c54) ?_
        refine O.mv ?_
        refine O.splitD (x := .tmp 59) rfl (fun c59 => ?_) (fun c59 => ?_)
        ·
          refine O.no rfl (noB (isT rfl c59) rfl) ?_
          refine O.no rfl (noB (isT rfl c59) rfl) ?_
          refine O.no rfl (noB (isT rfl c59) rfl) ?_
          refine O.no rfl (noB (isT rfl c59) rfl) ?_
          refine O.no rfl (noB (isT rfl c59) rfl) ?_
          refine O.pickT (isT rfl c59) ?_
          refine O.nil ?_
          refine hK3 _ _ ?_
          refine C.condT rfl ?_
          refine C.seqK fun K7 hK7 => ?_
          refine C.region ?_
          refine O.call Tryz.call13 (argsN) (known_spec _ ((mx.keep e1).keep e3)) ?_
          rintro v_66 w6 ⟨rfl, e6⟩
          have z6 := e6.size
          refine O.asg ?_
          refine O.nil ?_
          refine hK7 _ _ ?_
          refine C.ret ?_
          refine Outs.one rfl rfl ?_
          exact ⟨rfl, (Ext.trans (Ext.trans e1 e3) e6)⟩
        ·
          refine O.yes rfl (isF rfl c59) ?_
          refine O.mv ?_
          refine O.yes rfl (isF rfl c59) ?_
          refine O.mv ?_
          refine O.yes rfl (isF rfl c59) ?_
          refine O.mv ?_
          refine O.yes rfl (isF rfl c59) ?_
          refine O.call Tryz.call15 (args3 rfl rfl rfl) (bad_spec c q v5 l F _ ((hl.keep e1).keep e3) ((mx.keep e1).keep e3)) ?_
          rintro v_63 w7 ⟨rfl, e7⟩
          have z7 := e7.size
          refine O.yes rfl (isF rfl c59) ?_
          refine O.neqI rfl rfl ?_
          refine O.pickF (isF rfl c59) ?_
          refine O.nil ?_
          refine hK3 _ _ ?_
          refine C.condD rfl (fun c65 => ?_) (fun c65 => ?_)
          ·
            refine C.seqK fun K8 hK8 => ?_
            refine C.region ?_
            refine O.call Tryz.call13 (argsN) (known_spec _ (((mx.keep e1).keep e3).keep e7)) ?_
            rintro v_66 w8 ⟨rfl, e8⟩
            have z8 := e8.size
            refine O.asg ?_
            refine O.nil ?_
            refine hK8 _ _ ?_
            refine C.ret ?_
            refine Outs.one rfl rfl ?_
            exact ⟨rfl, (Ext.trans (Ext.trans (Ext.trans e1 e3) e7) e8)⟩
          ·
            have he : Ds.errOf c q l = 0 := Decidable.of_not_not c65
            have heo := Ds.err_ok he
            have hlen := heo.1
            have hok := heo.2.1
            have hbad := heo.2.2
            have hp1i := Ds.okP_iff.1 hp1
            have hp2i := Ds.okP_iff.1 hp2
            have hpl9 := Ds.prod_lt hok
            obtain ⟨a, b, hca, hqb, hca2, hqb2, hab⟩ := hpl9
            have hmn9 : ∃ n : Nat, m = (n : Int) := ⟨m.toNat, by omega⟩
            obtain ⟨n, hmn⟩ := hmn9
            have hmul : max c m * q ≤ 2097152 * 2147483647 := Int.mul_le_mul (by omega) hp1i.2.2 (by omega) (by decide)
            have hmul0 : 0 ≤ max c m * q := Int.mul_nonneg (by omega) (by omega)
            have hcq : c * q ≤ 2097152 * 2147483647 := Int.mul_le_mul hp1i.1.2 hp1i.2.2 (by omega) (by decide)
            have hcq0 : 0 ≤ c * q := Int.mul_nonneg hp1i.1.1 (by omega)
            refine C.skip ?_
            refine hK2 _ _ ?_
            refine C.seqK fun K9 hK9 => ?_
            refine C.seqK fun K10 hK10 => ?_
            refine C.region ?_
            refine O.mv ?_
            refine O.call Tryz.call11 (args1 rfl) (lpart_spec _ _) ?_
            rintro v_68 w9 ⟨rfl, e9⟩
            have z9 := e9.size
            refine O.mv ?_
            refine O.split (x := .tmp 69) rfl (fun c69 => ?_) (fun c69 => ?_)
            ·
              have huf : Rnd.Unit (Fl.canon f) := of_decide_eq_true c69
              refine O.yes rfl (isT' rfl c69) ?_
              refine O.mv ?_
              refine O.yes rfl (isT' rfl c69) ?_
              refine O.call Tryz.call11 (args1 rfl) (lpart_spec _ _) ?_
              rintro v_71 w10 ⟨rfl, e10⟩
              have z10 := e10.size
              refine O.pickT (isT' rfl c69) ?_
              refine O.nil ?_
              refine hK10 _ _ ?_
              refine C.join (fun f w f' w' => Le w w' ∧ f' 0 = f 0 ∧ f' 2 = f 2 ∧ f' 5 = f 5 ∧ f' 6 = f 6 ∧ f' 7 = f 7) ?_ ?_
              ·
                refine C.cond rfl (fun c72 => ?_) (fun c72 => ?_)
                ·
                  have hug : Rnd.Unit (Fl.canon g) := of_decide_eq_true c72
                  have hmm9 := Ds.min_max huf hug
                  have hu1 := hmm9.1
                  have hu2 := hmm9.2.1
                  have hn1 : Ds.okP (min c m) q = true := Ds.okP_iff.2 ⟨by omega, hp1i.2⟩
                  have hn2 : Ds.okP (max c m) q = true := Ds.okP_iff.2 ⟨by omega, hp1i.2⟩
                  have y1 : (Ds.okP (min c m) q && decide (Rnd.Unit (Fl.canon (fmin f g)))) = true := by rw [hn1, decide_eq_true hu1]; rfl
                  have y2 : (Ds.okP (max c m) q && decide (Rnd.Unit (Fl.canon (fmax f g)))) = true := by rw [hn2, decide_eq_true hu2]; rfl
                  have pe1 : Ds.priceE (min c m) q (fmin f g) = (Rnd.price (min a n * b) (Fl.canon (fmin f g)) : Nat) := by
                    rw [show Ds.priceE (min c m) q (fmin f g) = _ from if_pos y1, show (min c m).toNat = min a n by omega, show q.toNat = b by omega]
                  have pe2 : Ds.priceE (max c m) q (fmax f g) = (Rnd.price (max a n * b) (Fl.canon (fmax f g)) : Nat) := by
                    rw [show Ds.priceE (max c m) q (fmax f g) = _ from if_pos y2, show (max c m).toNat = max a n by omega, show q.toNat = b by omega]
                  have pn1 : Ds.priceN (min c m) q (fmin f g) = 0 := if_pos y1
                  have pn2 : Ds.priceN (max c m) q (fmax f g) = 0 := if_pos y2
                  have hpr := price_le2 (a := a) (b := n) (q := b) (f := f) (g := g) hca2 (by omega) hqb2 huf hug
                  have hmx : max c m * q = ((max a n * b : Nat) : Int) := by
                    rw [Int.natCast_mul, show max c m = ((max a n : Nat) : Int) by omega, hqb]
                  refine C.seqK fun K11 hK11 => ?_
                  refine C.region ?_
                  refine O.mv ?_
                  refine O.mv ?_
                  refine O.minI rfl rfl ?_
                  refine O.mv ?_
                  refine O.mv ?_
                  refine O.mv ?_
                  refine O.minF rfl rfl (Ds.ford_some huf hug) ?_
                  refine O.call Tryz.call24 (args3 rfl rfl rfl) (dprice_spec (min c m) q (fmin f g) _) ?_
                  rintro v_81 w11 ⟨rfl, e11⟩
                  have z11 := e11.size
                  refine O.mv ?_
                  refine O.extract rfl rfl ?_
                  refine O.extract rfl rfl ?_
                  refine O.asg ?_
                  refine O.asg ?_
                  refine O.nil ?_
                  refine hK11 _ _ ?_
                  refine C.seqK fun K12 hK12 => ?_
                  refine C.region ?_
                  refine O.mv ?_
                  refine O.mv ?_
                  refine O.maxI rfl rfl ?_
                  refine O.mv ?_
                  refine O.mv ?_
                  refine O.mv ?_
                  refine O.maxF rfl rfl (Ds.ford_some huf hug) ?_
                  refine O.call Tryz.call24 (args3 rfl rfl rfl) (dprice_spec (max c m) q (fmax f g) _) ?_
                  rintro v_92 w12 ⟨rfl, e12⟩
                  have z12 := e12.size
                  refine O.mv ?_
                  refine O.extract rfl rfl ?_
                  refine O.extract rfl rfl ?_
                  refine O.asg ?_
                  refine O.asg ?_
                  refine O.nil ?_
                  refine hK12 _ _ ?_
                  refine C.seqK fun K13 hK13 => ?_
                  refine C.region ?_
                  refine O.mv ?_
                  refine O.neqI rfl rfl ?_
                  refine O.cast (v' := .bool false) (congrArg Value.bool (by rw [pn1]; rfl)) ?_
                  refine O.mv ?_
                  refine O.yes rfl rfl ?_
                  refine O.mv ?_
                  refine O.yes rfl rfl ?_
                  refine O.neqI rfl rfl ?_
                  refine O.cast (v' := .bool false) (congrArg Value.bool (by rw [pn2]; rfl)) ?_
                  refine O.pickF rfl ?_
                  refine O.mv ?_
                  refine O.yes rfl rfl ?_
                  refine O.mv ?_
                  refine O.yes rfl rfl ?_
                  refine O.lssI rfl rfl ?_
                  refine O.cast (v' := .bool false) (congrArg Value.bool (by rw [pe1]; exact decide_eq_false hpr.1)) ?_
                  refine O.pickF rfl ?_
                  refine O.mv ?_
                  refine O.yes rfl rfl ?_
                  refine O.mv ?_
                  refine O.yes rfl rfl ?_
                  refine O.mv ?_
                  refine O.yes rfl rfl ?_
                  refine O.gtrI rfl rfl ?_
                  refine O.cast (v' := .bool false) (congrArg Value.bool (by rw [pe1, pe2]; exact decide_eq_false hpr.2.1)) ?_
                  refine O.pickF rfl ?_
                  refine O.mv ?_
                  refine O.yes rfl rfl ?_
                  refine O.mv ?_
                  refine O.yes rfl rfl ?_
                  refine O.mv ?_
                  refine O.yes rfl rfl ?_
                  refine O.mv ?_
                  refine O.yes rfl rfl ?_
                  refine O.maxI rfl rfl ?_
                  refine O.yes rfl rfl ?_
                  refine O.mv ?_
                  refine O.yes rfl rfl ?_
                  refine O.mulI rfl rfl (by unfold InI; omega) ?_
                  refine O.yes rfl rfl ?_
                  refine O.gtrI rfl rfl ?_
                  refine O.cast (v' := .bool false) (congrArg Value.bool (by rw [pe2, hmx]; exact decide_eq_false hpr.2.2)) ?_
                  refine O.pickF rfl ?_
                  refine O.nil ?_
                  refine hK13 _ _ ?_
                  refine C.condF rfl ?_
                  refine C.skip ?_
                  exact ⟨(Ext.trans e11 e12), rfl, rfl, rfl, rfl, rfl⟩
                ·
                  refine C.skip ?_
                  exact ⟨(Le.refl _), rfl, rfl, rfl, rfl, rfl⟩
              ·
                rintro f_1 w13 ⟨e_1, s0_1, s2_1, s5_1, s6_1, s7_1⟩
                have z_1 := e_1.size
                refine hK9 _ _ ?_
                refine C.seqK fun K14 hK14 => ?_
                refine C.region ?_
                refine O.asg ?_
                refine O.nil ?_
                refine hK14 _ _ ?_
                refine C.seqK fun K15 hK15 => ?_
                refine C.seqK fun K16 hK16 => ?_
                refine C.region ?_
                refine O.mv ?_
                refine O.len Tryz.underlying32 s5_1 ((((((hl.keep e1).keep e3).keep e7).keep e9).keep e10).keep e_1) ?_
                refine O.gtrI rfl rfl ?_
                refine O.nil ?_
                refine hK16 _ _ ?_
                refine C.join (fun f w f' w' => Le w w' ∧ f' 0 = f 0 ∧ f' 2 = f 2 ∧ f' 5 = f 5 ∧ f' 6 = f 6 ∧ f' 7 = f 7 ∧ f' 21 = .int .i64 ((kk : Int))) ?_ ?_
                ·
                  refine C.condD rfl (fun c121 => ?_) (fun c121 => ?_)
                  ·
                    refine C.region ?_
                    refine O.mv ?_
                    refine O.convUI (m := 8) Tryz.underlying5 Tryz.underlying3 s7_1 (by decide) ?_
                    refine O.mv ?_
                    refine O.len Tryz.underlying32 s5_1 ((((((hl.keep e1).keep e3).keep e7).keep e9).keep e10).keep e_1) ?_
                    refine O.remI rfl rfl (by omega) ?_
                    refine O.asg ?_
                    refine O.nil ?_
                    exact ⟨(Le.refl _), rfl, rfl, rfl, rfl, rfl, (Eq.trans rfl (congrArg (Value.int .i64) (by first | (rw [hkk, if_pos (by omega)]; exact (Int.natCast_emod _ _).symm) | (rw [hkk, if_neg (by omega)]; rfl))))⟩
                  ·
                    refine C.skip ?_
                    exact ⟨(Le.refl _), rfl, rfl, rfl, rfl, rfl, (Eq.trans rfl (congrArg (Value.int .i64) (by first | (rw [hkk, if_pos (by omega)]; exact (Int.natCast_emod _ _).symm) | (rw [hkk, if_neg (by omega)]; rfl))))⟩
                ·
                  rintro f_2 w14 ⟨e_2, s0_2, s2_2, s5_2, s6_2, s7_2, s21_2⟩
                  have z_2 := e_2.size
                  refine hK15 _ _ ?_
                  refine C.seqK fun K17 hK17 => ?_
                  refine C.region ?_
                  refine O.asg ?_
                  refine O.nil ?_
                  refine hK17 _ _ ?_
                  refine C.seqK fun K18 hK18 => ?_
                  refine C.seqK fun K19 hK19 => ?_
                  refine C.region ?_
                  refine O.asg ?_
                  refine O.nil ?_
                  refine hK19 _ _ ?_
                  refine C.block fun K20 hK20 => ?_
                  refine C.loop0 (σ := Nat × Value) (fun f0 w0 ⟨i, o⟩ f wz => f 23 = .int .i64 ((i : Int)) ∧ f 22 = o ∧ f 0 = f0 0 ∧ f 2 = f0 2 ∧ f 5 = f0 5 ∧ f 6 = f0 6 ∧ f 7 = f0 7 ∧ f 16 = f0 16 ∧ f 21 = f0 21 ∧ Le w wz ∧ OwnF Ds.ruleF 24 w.heap.size wz o ((Ds.turn l kk).take i) ∧ i ≤ l.length) (fun ⟨i, o⟩ => l.length - i) (0, .slice none 0 0) ?_ ?_
                  ·
                    refine ⟨rfl, rfl, rfl, rfl, rfl, rfl, rfl, rfl, rfl, (Ext.trans (Ext.trans (Ext.trans (Ext.trans (Ext.trans (Ext.trans e1 e3) e7) e9) e10) e_1) e_2), (OwnF.nil _ _ _ _), ?_⟩
                    exact Nat.zero_le _
                  ·
                    rintro ⟨i, o⟩ f_3 w15 ⟨s23_3, s22_3, s0_3, s2_3, s5_3, s6_3, s7_3, s16_3, s21_3, e_3, r0_3, hi⟩
                    have z_3 := e_3.size
                    have r0_3s := r0_3.sl
                    refine C.seqK fun K21 hK21 => ?_
                    refine C.seqK fun K22 hK22 => ?_
                    refine C.region ?_
                    refine O.mv ?_
                    refine O.mv ?_
                    refine O.len Tryz.underlying32 (Eq.trans s5_3 (Eq.trans s5_2 s5_1)) (hl.keep e_3) ?_
                    refine O.lssI s23_3 rfl ?_
                    refine O.nil ?_
                    refine hK22 _ _ ?_
                    refine C.condD rfl (fun c130 => ?_) (fun c130 => ?_)
                    ·
                      have hi2 : i < l.length := by omega
                      refine C.skip ?_
                      refine hK21 _ _ ?_
                      refine C.seqK fun K23 hK23 => ?_
                      refine C.block fun K24 hK24 => ?_
                      refine C.seqK fun K25 hK25 => ?_
                      refine C.region ?_
                      refine O.mv ?_
                      refine O.mv ?_
                      refine O.mv ?_
                      refine O.addI s23_3 (Eq.trans s21_3 s21_2) (by unfold InI; omega) ?_
                      refine O.mv ?_
                      refine O.len Tryz.underlying32 (Eq.trans s5_3 (Eq.trans s5_2 s5_1)) (hl.keep e_3) ?_
                      refine O.remI rfl rfl (by omega) ?_
                      refine O.cast (v' := .int .i64 (((i + kk) % l.length : Nat) : Int)) (congrArg (Value.int .i64) (by rw [Int.natCast_emod, Int.natCast_add])) ?_
                      refine O.idx Tryz.underlying32 Tryz.sizeOf24 rfl (Eq.trans s5_3 (Eq.trans s5_2 s5_1)) (hl.keep e_3) rfl (by have := Nat.mod_lt (i + kk) (show 0 < l.length by omega); omega) (fun a140 h140 => ?_)
                      refine O.loadG (G := Ds.ruleF) Tryz.isAgg24 Tryz.sizeOf24 rfl h140 ?_
                      obtain ⟨r8, hr8⟩ : ∃ r8 : Ds.Rule, r8 = (l[(i + kk) % l.length]'(Nat.mod_lt _ (by omega))) := ⟨_, rfl⟩
                      refine O.cast (v' := Ds.rv r8) (by rw [hr8]; rfl) ?_
                      refine O.alloc Tryz.zeroValue24 (fun b24 w16 hb24 hz24 e16 => ?_)
                      have z16 := e16.size
                      have h24 := hz24.own
                      have hl24 := h24.lt
                      refine O.storeA (vs := [str r8.name, .int .i64 r8.lo, fl r8.fac]) Tryz.sizeOf24 rfl rfl rfl (by simp [Value.oneCell', str, fl]) h24 (Nat.le_of_ble_eq_true rfl) (fun w17 hs17 e17 z17 => ?_)
                      refine O.nil ?_
                      refine hK25 _ _ ?_
                      refine C.seqK fun K26 hK26 => ?_
                      refine C.seqK fun K27 hK27 => ?_
                      refine C.region ?_
                      refine O.fieldAd Tryz.underlying24 rfl Tryz.sizeOf22 (by decide) rfl ?_
                      refine O.loadO Tryz.isAgg22 rfl hs17 rfl ?_
                      refine O.eqlF (b := 0#64) rfl rfl ?_
                      refine O.nil ?_
                      refine hK27 _ _ ?_
                      refine C.condD rfl (fun c144 => ?_) (fun c144 => ?_)
                      ·
                        obtain ⟨r9, hr9⟩ : ∃ r9 : Ds.Rule, r9 = Ds.zeroed r8 := ⟨_, rfl⟩
                        have hfx : r9 = Ds.fixR r8 := by rw [hr9]; exact (if_pos c144).symm
                        refine C.region ?_
                        refine O.call Tryz.call25 (args2 rfl rfl) (csign_spec _) ?_
                        rintro v_145 w18 ⟨rfl, hw_⟩
                        replace hw_ := hw_.symm
                        subst hw_
                        refine O.fieldAd Tryz.underlying24 rfl Tryz.sizeOf22 (by decide) rfl ?_
                        refine O.store Tryz.sizeOf22 rfl rfl rfl hs17 (by simp) (fun w18 hs18 e18 z18 => ?_)
                        try simp only [Int.toNat_natCast, Nat.zero_add, Nat.mul_one] at hs18
                        refine O.nil ?_
                        refine hK26 _ _ ?_
                        refine C.region ?_
                        refine O.mv ?_
                        refine O.loadOA Tryz.isAgg24 Tryz.sizeOf24 rfl hs18 (Nat.le_of_ble_eq_true rfl) ?_
                        refine O.cast (v' := Ds.rv r9) (by rw [hr9]; rfl) ?_
                        refine O.litG (G := Ds.ruleF) [r9] Tryz.underlying32 ti24 ts24 tz24 rfl (by decide) (by decide) rfl (fun b149 w19 hb149 hz149 e19 => ?_)
                        have z19 := e19.size
                        have h149 := hz149.own
                        have hq149 := Sl.litG (n := 1) h149 rfl (by unfold maxLen; omega)
                        refine O.appF (G := Ds.ruleF) Tryz.underlying32 ti24 tz24 ts24 rfl s22_3 rfl ((((r0_3.keep e16).keepM e17 (fun k hk h => by have := r0_3.bk_ge k hk; (try dsimp only at h); omega)).keepM e18 (fun k hk h => by have := r0_3.bk_ge k hk; (try dsimp only at h); omega)).keep e19) hq149 (by rw [tb24]; simp; omega) (by unfold maxLen; simp; omega) (by omega) (fun v150 w20 h150 e20 => ?_)
                        have z20 := e20.size
                        have h150s := h150.sl
                        refine O.asg ?_
                        refine O.nil ?_
                        refine hK24 _ _ ?_
                        refine hK23 _ _ ?_
                        refine C.region ?_
                        refine O.mv ?_
                        refine O.addI s23_3 rfl (by unfold InI; omega) ?_
                        refine O.asg ?_
                        refine O.nil ?_
                        refine ⟨(i + 1, _), ⟨rfl, rfl, s0_3, s2_3, s5_3, s6_3, s7_3, s16_3, s21_3, (Ext.new (Ext.trans (Ext.new (Ext.new (Ext.trans e_3 e16) e17 (by rintro i hi rfl; omega)) e18 (by rintro i hi rfl; omega)) e19) e20 (by intro i hi h; have := ((((r0_3.keep e16).keepM e17 (fun k hk h => by have := r0_3.bk_ge k hk; (try dsimp only at h); omega)).keepM e18 (fun k hk h => by have := r0_3.bk_ge k hk; (try dsimp only at h); omega)).keep e19).bk_ge i h; omega)), (by rw [Ds.turn_take hi2, ← hr8, ← hfx]; exact h150), ?_⟩, by first | omega | (simp only []; omega)⟩
                        omega
                      ·
                        obtain ⟨r9, hr9⟩ : ∃ r9 : Ds.Rule, r9 = r8 := ⟨_, rfl⟩
                        have hfx : r9 = Ds.fixR r8 := by rw [hr9]; exact (if_neg c144).symm
                        refine C.skip ?_
                        refine hK26 _ _ ?_
                        refine C.region ?_
                        refine O.mv ?_
                        refine O.loadOA Tryz.isAgg24 Tryz.sizeOf24 rfl hs17 (Nat.le_of_ble_eq_true rfl) ?_
                        refine O.cast (v' := Ds.rv r9) (by rw [hr9]; rfl) ?_
                        refine O.litG (G := Ds.ruleF) [r9] Tryz.underlying32 ti24 ts24 tz24 rfl (by decide) (by decide) rfl (fun b149 w21 hb149 hz149 e21 => ?_)
                        have z21 := e21.size
                        have h149 := hz149.own
                        have hq149 := Sl.litG (n := 1) h149 rfl (by unfold maxLen; omega)
                        refine O.appF (G := Ds.ruleF) Tryz.underlying32 ti24 tz24 ts24 rfl s22_3 rfl (((r0_3.keep e16).keepM e17 (fun k hk h => by have := r0_3.bk_ge k hk; (try dsimp only at h); omega)).keep e21) hq149 (by rw [tb24]; simp; omega) (by unfold maxLen; simp; omega) (by omega) (fun v150 w22 h150 e22 => ?_)
                        have z22 := e22.size
                        have h150s := h150.sl
                        refine O.asg ?_
                        refine O.nil ?_
                        refine hK24 _ _ ?_
                        refine hK23 _ _ ?_
                        refine C.region ?_
                        refine O.mv ?_
                        refine O.addI s23_3 rfl (by unfold InI; omega) ?_
                        refine O.asg ?_
                        refine O.nil ?_
                        refine ⟨(i + 1, _), ⟨rfl, rfl, s0_3, s2_3, s5_3, s6_3, s7_3, s16_3, s21_3, (Ext.new (Ext.trans (Ext.new (Ext.trans e_3 e16) e17 (by rintro i hi rfl; omega)) e21) e22 (by intro i hi h; have := (((r0_3.keep e16).keepM e17 (fun k hk h => by have := r0_3.bk_ge k hk; (try dsimp only at h); omega)).keep e21).bk_ge i h; omega)), (by rw [Ds.turn_take hi2, ← hr8, ← hfx]; exact h150), ?_⟩, by first | omega | (simp only []; omega)⟩
                        omega
                    ·
                      obtain rfl : i = l.length := by omega
                      have h22x := r0_3
                      rw [show (Ds.turn l kk).take l.length = Ds.turn l kk from List.take_of_length_le (by rw [Ds.turn_length]; exact Nat.le_refl _)] at h22x
                      have h22s := h22x.sl
                      have htt9 := Ds.tog_turn (c := c) (q := q) hkl
                      have htP := htt9.1
                      have htF := htt9.2
                      have het := Ds.err_turn (c := c) (q := q) hkl
                      have hwu := Ds.whole_unit (q := q) hbad
                      have hF1 : Ds.togF c q l = Ds.whole q l := if_pos he
                      have hP1 : Ds.togP c q l = (Rnd.price (a * b) (Ds.whole q l) : Nat) := (if_pos he).trans (by rw [hca, hqb, Int.toNat_natCast, Int.toNat_natCast]; rfl)
                      have hB1 : Ds.bestP c q l = (Ds.least (a * b) q l l.length : Nat) := (if_pos he).trans (by rw [hca, hqb, Int.toNat_natCast, Int.toNat_natCast])
                      have hwl := Ds.whole_least (q := q) hab hbad
                      have hll := (Ds.least_le (q := q) hab hbad l.length (Nat.le_refl _)).1
                      have hcqn : c * q = ((a * b : Nat) : Int) := by rw [hca, hqb, Int.natCast_mul]
                      refine C.exit ?_
                      refine hK20 _ _ ?_
                      refine hK18 _ _ ?_
                      refine C.seqK fun K28 hK28 => ?_
                      refine C.region ?_
                      refine O.mv ?_
                      refine O.mv ?_
                      refine O.mv ?_
                      refine O.call Tryz.call26 (args3 (Eq.trans s0_3 (Eq.trans s0_2 s0_1)) (Eq.trans s2_3 (Eq.trans s2_2 s2_1)) (Eq.trans s5_3 (Eq.trans s5_2 s5_1))) (dtog_spec c q v5 l F _ (hl.keep e_3) (mx.keep e_3)) ?_
                      rintro v_155 w23 ⟨rfl, e23⟩
                      have z23 := e23.size
                      refine O.mv ?_
                      refine O.extract rfl rfl ?_
                      refine O.extract rfl rfl ?_
                      refine O.extract rfl rfl ?_
                      refine O.asg ?_
                      refine O.asg ?_
                      refine O.asg ?_
                      refine O.nil ?_
                      refine hK28 _ _ ?_
                      refine C.seqK fun K29 hK29 => ?_
                      refine C.region ?_
                      refine O.mv ?_
                      refine O.mv ?_
                      refine O.mv ?_
                      refine O.call Tryz.call26 (args3 (Eq.trans s0_3 (Eq.trans s0_2 s0_1)) (Eq.trans s2_3 (Eq.trans s2_2 s2_1)) s22_3) (dtog_spec c q o (Ds.turn l kk) _ _ (h22s.keep e23) ((mx.keep e_3).keep e23)) ?_
                      rintro v_163 w24 ⟨rfl, e24⟩
                      have z24 := e24.size
                      refine O.mv ?_
                      refine O.extract rfl rfl ?_
                      refine O.extract rfl rfl ?_
                      refine O.extract rfl rfl ?_
                      refine O.asg ?_
                      refine O.asg ?_
                      refine O.asg ?_
                      refine O.nil ?_
                      refine hK29 _ _ ?_
                      refine C.seqK fun K30 hK30 => ?_
                      refine C.region ?_
                      refine O.mv ?_
                      refine O.mv ?_
                      refine O.mv ?_
                      refine O.call Tryz.call27 (args3 (Eq.trans s0_3 (Eq.trans s0_2 s0_1)) (Eq.trans s2_3 (Eq.trans s2_2 s2_1)) (Eq.trans s5_3 (Eq.trans s5_2 s5_1))) (dbest_spec c q v5 l F _ (((hl.keep e_3).keep e23).keep e24) (((mx.keep e_3).keep e23).keep e24)) ?_
                      rintro v_171 w25 ⟨rfl, e25⟩
                      have z25 := e25.size
                      refine O.mv ?_
                      refine O.extract rfl rfl ?_
                      refine O.extract rfl rfl ?_
                      refine O.extract rfl rfl ?_
                      refine O.asg ?_
                      refine O.asg ?_
                      refine O.asg ?_
                      refine O.nil ?_
                      refine hK30 _ _ ?_
                      refine C.seqK fun K31 hK31 => ?_
                      refine C.seqK fun K32 hK32 => ?_
                      refine C.region ?_
                      refine O.mv ?_
                      refine O.neqI rfl rfl ?_
                      refine O.cast (v' := .bool false) (congrArg Value.bool (by rw [he]; rfl)) ?_
                      refine O.mv ?_
                      refine O.yes rfl rfl ?_
                      refine O.mv ?_
                      refine O.yes rfl rfl ?_
                      refine O.neqI rfl rfl ?_
                      refine O.cast (v' := .bool false) (congrArg Value.bool (by rw [het, he]; rfl)) ?_
                      refine O.pickF rfl ?_
                      refine O.mv ?_
                      refine O.yes rfl rfl ?_
                      refine O.mv ?_
                      refine O.yes rfl rfl ?_
                      refine O.neqI rfl rfl ?_
                      refine O.cast (v' := .bool false) (congrArg Value.bool (by rw [he]; rfl)) ?_
                      refine O.pickF rfl ?_
                      refine O.mv ?_
                      refine O.yes rfl rfl ?_
                      refine O.mv ?_
                      refine O.yes rfl rfl ?_
                      refine O.mv ?_
                      refine O.yes rfl rfl ?_
                      refine O.neqI rfl rfl ?_
                      refine O.cast (v' := .bool false) (congrArg Value.bool (by rw [htP]; exact decide_eq_false (fun h => h rfl))) ?_
                      refine O.pickF rfl ?_
                      refine O.mv ?_
                      refine O.yes rfl rfl ?_
                      refine O.mv ?_
                      refine O.yes rfl rfl ?_
                      refine O.mv ?_
                      refine O.yes rfl rfl ?_
                      refine O.neqF rfl rfl ?_
                      refine O.cast (v' := .bool false) (congrArg Value.bool (by rw [htF, hF1]; exact decide_eq_false (fun h => h ((Rnd.feq_unit hwu hwu).2 rfl)))) ?_
                      refine O.pickF rfl ?_
                      refine O.mv ?_
                      refine O.yes rfl rfl ?_
                      refine O.mv ?_
                      refine O.yes rfl rfl ?_
                      refine O.mv ?_
                      refine O.yes rfl rfl ?_
                      refine O.gtrI rfl rfl ?_
                      refine O.cast (v' := .bool false) (congrArg Value.bool (by rw [hP1, hB1]; exact decide_eq_false (by omega))) ?_
                      refine O.pickF rfl ?_
                      refine O.mv ?_
                      refine O.yes rfl rfl ?_
                      refine O.mv ?_
                      refine O.yes rfl rfl ?_
                      refine O.mv ?_
                      refine O.yes rfl rfl ?_
                      refine O.mv ?_
                      refine O.yes rfl rfl ?_
                      refine O.mulI (Eq.trans s0_3 (Eq.trans s0_2 s0_1)) (Eq.trans s2_3 (Eq.trans s2_2 s2_1)) (by unfold InI; omega) ?_
                      refine O.yes rfl rfl ?_
                      refine O.gtrI rfl rfl ?_
                      refine O.cast (v' := .bool false) (congrArg Value.bool (by rw [hB1, hcqn]; exact decide_eq_false (by omega))) ?_
                      refine O.pickF rfl ?_
                      refine O.nil ?_
                      refine hK32 _ _ ?_
                      refine C.condF rfl ?_
                      refine C.skip ?_
                      refine hK31 _ _ ?_
                      refine C.seqK fun K33 hK33 => ?_
                      refine C.region ?_
                      refine O.asg ?_
                      refine O.nil ?_
                      refine hK33 _ _ ?_
                      refine C.seqK fun K34 hK34 => ?_
                      refine C.seqK fun K35 hK35 => ?_
                      refine C.region ?_
                      refine O.mv ?_
                      refine O.len Tryz.underlying37 (Eq.trans s6_3 (Eq.trans s6_2 s6_1)) ((((hx.keep e_3).keep e23).keep e24).keep e25) ?_
                      refine O.subI rfl rfl (by unfold InI; omega) ?_
                      refine O.asg ?_
                      refine O.nil ?_
                      refine hK35 _ _ ?_
                      refine C.block fun K36 hK36 => ?_
                      refine C.loop0 (σ := Nat × Value) (fun f0 w0 ⟨i, o2⟩ f wz => f 35 = .int .i64 ((xs.length : Int) - 1 - i) ∧ f 34 = o2 ∧ f 6 = f0 6 ∧ f 7 = f0 7 ∧ f 16 = f0 16 ∧ Le w wz ∧ OwnF flF 22 w.heap.size wz o2 ((Ds.bk2 at7 xs).take i) ∧ i ≤ xs.length) (fun ⟨i, o2⟩ => xs.length - i) (0, .slice none 0 0) ?_ ?_
                      ·
                        refine ⟨(Eq.trans rfl (congrArg (Value.int .i64) (by omega))), rfl, rfl, rfl, rfl, (Ext.trans (Ext.trans (Ext.trans e_3 e23) e24) e25), (OwnF.nil _ _ _ _), ?_⟩
                        exact Nat.zero_le _
                      ·
                        rintro ⟨i, o2⟩ f_4 w26 ⟨s35_4, s34_4, s6_4, s7_4, s16_4, e_4, r0_4, hi⟩
                        have z_4 := e_4.size
                        have r0_4s := r0_4.sl
                        refine C.seqK fun K37 hK37 => ?_
                        refine C.seqK fun K38 hK38 => ?_
                        refine C.region ?_
                        refine O.mv ?_
                        refine O.geqI s35_4 rfl ?_
                        refine O.nil ?_
                        refine hK38 _ _ ?_
                        refine C.condD rfl (fun c211 => ?_) (fun c211 => ?_)
                        ·
                          have hi2 : i < xs.length := by omega
                          have hxi : ((xs.length : Int) - 1 - (i : Int)).toNat = xs.length - 1 - i := by omega
                          refine C.skip ?_
                          refine hK37 _ _ ?_
                          refine C.seqK fun K39 hK39 => ?_
                          refine C.block fun K40 hK40 => ?_
                          refine C.seqK fun K41 hK41 => ?_
                          refine C.region ?_
                          refine O.mv ?_
                          refine O.mv ?_
                          refine O.idx Tryz.underlying37 Tryz.sizeOf22 rfl (Eq.trans s6_4 (Eq.trans s6_3 (Eq.trans s6_2 s6_1))) (hx.keep e_4) s35_4 (by omega) (fun a216 h216 => ?_)
                          refine O.loadF Tryz.isAgg22 rfl h216 ?_
                          obtain ⟨y, hy⟩ : ∃ y, y = (xs[xs.length - 1 - i]'(by omega)) := ⟨_, rfl⟩
                          refine O.cast (v' := fl y) (congrArg fl (by rw [hy]; simp only [hxi])) ?_
                          refine O.asg ?_
                          refine O.nil ?_
                          refine hK41 _ _ ?_
                          refine C.seqK fun K42 hK42 => ?_
                          refine C.seqK fun K43 hK43 => ?_
                          refine C.region ?_
                          refine O.mv ?_
                          refine O.eqlF (b := 0#64) rfl rfl ?_
                          refine O.nil ?_
                          refine hK43 _ _ ?_
                          refine C.condD rfl (fun c219 => ?_) (fun c219 => ?_)
                          ·
                            refine C.region ?_
                            refine O.mv ?_
                            refine O.negF rfl ?_
                            refine O.asg ?_
                            refine O.nil ?_
                            refine hK42 _ _ ?_
                            refine C.seqK fun K44 hK44 => ?_
                            refine C.seqK fun K45 hK45 => ?_
                            refine C.region ?_
                            refine O.mv ?_
                            refine O.mv ?_
                            refine O.neqF rfl rfl ?_
                            refine O.nil ?_
                            refine hK45 _ _ ?_
                            refine C.condD rfl (fun c224 => ?_) (fun c224 => ?_)
                            ·
                              refine C.region ?_
                              refine O.mv ?_
                              refine O.convUU (m := 8) (m' := 64) Tryz.underlying5 Tryz.underlying55 rfl rfl (Eq.trans s7_4 (Eq.trans s7_3 (Eq.trans s7_2 s7_1))) ?_
                              refine O.addU (m := 64) (a := 18444492273895866369#64) rfl rfl rfl rfl ?_
                              refine O.ext ext28 (args1 rfl) (run_fromBits _) ?_
                              refine O.asg ?_
                              refine O.nil ?_
                              refine hK44 _ _ ?_
                              refine C.region ?_
                              refine O.mv ?_
                              refine O.mv ?_
                              refine O.cast (v' := fl (Ds.fixf at7 y)) (congrArg fl (by first | exact (Ds.fixf1 c219 c224).symm | exact (Ds.fixf2 c219 c224).symm | exact (Ds.fixf3 c219 c224).symm | exact (Ds.fixf4 c219 c224).symm)) ?_
                              refine O.lit1 Tryz.underlying37 ti22 ts22 tz22 rfl rfl (fun b231 w27 hb231 hz231 e27 => ?_)
                              have z27 := e27.size
                              have h231 := hz231.own
                              have hl231 := h231.lt
                              have h1231 : Sl flF.enc w27 (fun k => k = b231) _ [Ds.fixf at7 y] := Sl.one h231 rfl rfl
                              refine O.appF (G := flF) Tryz.underlying37 ti22 tz22 ts22 rfl s34_4 rfl (r0_4.keep e27) h1231 (by rw [tb22]; simp; omega) (by unfold maxLen; simp; omega) (by omega) (fun v232 w28 h232 e28 => ?_)
                              have z28 := e28.size
                              have h232s := h232.sl
                              refine O.asg ?_
                              refine O.nil ?_
                              refine hK40 _ _ ?_
                              refine hK39 _ _ ?_
                              refine C.region ?_
                              refine O.mv ?_
                              refine O.subI s35_4 rfl (by unfold InI; omega) ?_
                              refine O.asg ?_
                              refine O.nil ?_
                              refine ⟨(i + 1, _), ⟨(Eq.trans rfl (congrArg (Value.int .i64) (by omega))), rfl, s6_4, s7_4, s16_4, (Ext.new (Ext.trans e_4 e27) e28 (by intro i hi h; have := (r0_4.keep e27).bk_ge i h; omega)), (by rw [Ds.bk2_take hi2, ← hy]; exact h232), ?_⟩, by first | omega | (simp only []; omega)⟩
                              omega
                            ·
                              refine C.skip ?_
                              refine hK44 _ _ ?_
                              refine C.region ?_
                              refine O.mv ?_
                              refine O.mv ?_
                              refine O.cast (v' := fl (Ds.fixf at7 y)) (congrArg fl (by first | exact (Ds.fixf1 c219 c224).symm | exact (Ds.fixf2 c219 c224).symm | exact (Ds.fixf3 c219 c224).symm | exact (Ds.fixf4 c219 c224).symm)) ?_
                              refine O.lit1 Tryz.underlying37 ti22 ts22 tz22 rfl rfl (fun b231 w29 hb231 hz231 e29 => ?_)
                              have z29 := e29.size
                              have h231 := hz231.own
                              have hl231 := h231.lt
                              have h1231 : Sl flF.enc w29 (fun k => k = b231) _ [Ds.fixf at7 y] := Sl.one h231 rfl rfl
                              refine O.appF (G := flF) Tryz.underlying37 ti22 tz22 ts22 rfl s34_4 rfl (r0_4.keep e29) h1231 (by rw [tb22]; simp; omega) (by unfold maxLen; simp; omega) (by omega) (fun v232 w30 h232 e30 => ?_)
                              have z30 := e30.size
                              have h232s := h232.sl
                              refine O.asg ?_
                              refine O.nil ?_
                              refine hK40 _ _ ?_
                              refine hK39 _ _ ?_
                              refine C.region ?_
                              refine O.mv ?_
                              refine O.subI s35_4 rfl (by unfold InI; omega) ?_
                              refine O.asg ?_
                              refine O.nil ?_
                              refine ⟨(i + 1, _), ⟨(Eq.trans rfl (congrArg (Value.int .i64) (by omega))), rfl, s6_4, s7_4, s16_4, (Ext.new (Ext.trans e_4 e29) e30 (by intro i hi h; have := (r0_4.keep e29).bk_ge i h; omega)), (by rw [Ds.bk2_take hi2, ← hy]; exact h232), ?_⟩, by first | omega | (simp only []; omega)⟩
                              omega
                          ·
                            refine C.skip ?_
                            refine hK42 _ _ ?_
                            refine C.seqK fun K46 hK46 => ?_
                            refine C.seqK fun K47 hK47 => ?_
                            refine C.region ?_
                            refine O.mv ?_
                            refine O.mv ?_
                            refine O.neqF rfl rfl ?_
                            refine O.nil ?_
                            refine hK47 _ _ ?_
                            refine C.condD rfl (fun c224 => ?_) (fun c224 => ?_)
                            ·
                              refine C.region ?_
                              refine O.mv ?_
                              refine O.convUU (m := 8) (m' := 64) Tryz.underlying5 Tryz.underlying55 rfl rfl (Eq.trans s7_4 (Eq.trans s7_3 (Eq.trans s7_2 s7_1))) ?_
                              refine O.addU (m := 64) (a := 18444492273895866369#64) rfl rfl rfl rfl ?_
                              refine O.ext ext28 (args1 rfl) (run_fromBits _) ?_
                              refine O.asg ?_
                              refine O.nil ?_
                              refine hK46 _ _ ?_
                              refine C.region ?_
                              refine O.mv ?_
                              refine O.mv ?_
                              refine O.cast (v' := fl (Ds.fixf at7 y)) (congrArg fl (by first | exact (Ds.fixf1 c219 c224).symm | exact (Ds.fixf2 c219 c224).symm | exact (Ds.fixf3 c219 c224).symm | exact (Ds.fixf4 c219 c224).symm)) ?_
                              refine O.lit1 Tryz.underlying37 ti22 ts22 tz22 rfl rfl (fun b231 w31 hb231 hz231 e31 => ?_)
                              have z31 := e31.size
                              have h231 := hz231.own
                              have hl231 := h231.lt
                              have h1231 : Sl flF.enc w31 (fun k => k = b231) _ [Ds.fixf at7 y] := Sl.one h231 rfl rfl
                              refine O.appF (G := flF) Tryz.underlying37 ti22 tz22 ts22 rfl s34_4 rfl (r0_4.keep e31) h1231 (by rw [tb22]; simp; omega) (by unfold maxLen; simp; omega) (by omega) (fun v232 w32 h232 e32 => ?_)
                              have z32 := e32.size
                              have h232s := h232.sl
                              refine O.asg ?_
                              refine O.nil ?_
                              refine hK40 _ _ ?_
                              refine hK39 _ _ ?_
                              refine C.region ?_
                              refine O.mv ?_
                              refine O.subI s35_4 rfl (by unfold InI; omega) ?_
                              refine O.asg ?_
                              refine O.nil ?_
                              refine ⟨(i + 1, _), ⟨(Eq.trans rfl (congrArg (Value.int .i64) (by omega))), rfl, s6_4, s7_4, s16_4, (Ext.new (Ext.trans e_4 e31) e32 (by intro i hi h; have := (r0_4.keep e31).bk_ge i h; omega)), (by rw [Ds.bk2_take hi2, ← hy]; exact h232), ?_⟩, by first | omega | (simp only []; omega)⟩
                              omega
                            ·
                              refine C.skip ?_
                              refine hK46 _ _ ?_
                              refine C.region ?_
                              refine O.mv ?_
                              refine O.mv ?_
                              refine O.cast (v' := fl (Ds.fixf at7 y)) (congrArg fl (by first | exact (Ds.fixf1 c219 c224).symm | exact (Ds.fixf2 c219 c224).symm | exact (Ds.fixf3 c219 c224).symm | exact (Ds.fixf4 c219 c224).symm)) ?_
                              refine O.lit1 Tryz.underlying37 ti22 ts22 tz22 rfl rfl (fun b231 w33 hb231 hz231 e33 => ?_)
                              have z33 := e33.size
                              have h231 := hz231.own
                              have hl231 := h231.lt
                              have h1231 : Sl flF.enc w33 (fun k => k = b231) _ [Ds.fixf at7 y] := Sl.one h231 rfl rfl
                              refine O.appF (G := flF) Tryz.underlying37 ti22 tz22 ts22 rfl s34_4 rfl (r0_4.keep e33) h1231 (by rw [tb22]; simp; omega) (by unfold maxLen; simp; omega) (by omega) (fun v232 w34 h232 e34 => ?_)
                              have z34 := e34.size
                              have h232s := h232.sl
                              refine O.asg ?_
                              refine O.nil ?_
                              refine hK40 _ _ ?_
                              refine hK39 _ _ ?_
                              refine C.region ?_
                              refine O.mv ?_
                              refine O.subI s35_4 rfl (by unfold InI; omega) ?_
                              refine O.asg ?_
                              refine O.nil ?_
                              refine ⟨(i + 1, _), ⟨(Eq.trans rfl (congrArg (Value.int .i64) (by omega))), rfl, s6_4, s7_4, s16_4, (Ext.new (Ext.trans e_4 e33) e34 (by intro i hi h; have := (r0_4.keep e33).bk_ge i h; omega)), (by rw [Ds.bk2_take hi2, ← hy]; exact h232), ?_⟩, by first | omega | (simp only []; omega)⟩
                              omega
                        ·
                          obtain rfl : i = xs.length := by omega
                          have h34x := r0_4
                          rw [show (Ds.bk2 at7 xs).take xs.length = Ds.bk2 at7 xs from List.take_of_length_le (by rw [Ds.bk2_length]; exact Nat.le_refl _)] at h34x
                          have h34s := h34x.sl
                          have hmv := Ds.mean_bk2 at7 xs
                          have hn1 : Ds.meanN xs = 0 := if_neg (by omega)
                          have hn2 : Ds.meanN (Ds.bk2 at7 xs) = 0 := if_neg (by rw [Ds.bk2_length]; omega)
                          refine C.exit ?_
                          refine hK36 _ _ ?_
                          refine hK34 _ _ ?_
                          refine C.seqK fun K48 hK48 => ?_
                          refine C.region ?_
                          refine O.mv ?_
                          refine O.call Tryz.call29 (args1 (Eq.trans s6_4 (Eq.trans s6_3 (Eq.trans s6_2 s6_1)))) (dmean_spec v6 xs _ _ (hx.keep e_4)) ?_
                          rintro v_235 w35 ⟨rfl, e35⟩
                          have z35 := e35.size
                          refine O.mv ?_
                          refine O.extract rfl rfl ?_
                          refine O.extract rfl rfl ?_
                          refine O.asg ?_
                          refine O.asg ?_
                          refine O.nil ?_
                          refine hK48 _ _ ?_
                          refine C.seqK fun K49 hK49 => ?_
                          refine C.region ?_
                          refine O.mv ?_
                          refine O.call Tryz.call29 (args1 s34_4) (dmean_spec o2 (Ds.bk2 at7 xs) _ _ (h34s.keep e35)) ?_
                          rintro v_240 w36 ⟨rfl, e36⟩
                          have z36 := e36.size
                          refine O.mv ?_
                          refine O.extract rfl rfl ?_
                          refine O.extract rfl rfl ?_
                          refine O.asg ?_
                          refine O.asg ?_
                          refine O.nil ?_
                          refine hK49 _ _ ?_
                          refine C.seqK fun K50 hK50 => ?_
                          refine C.region ?_
                          refine O.mv ?_
                          refine O.eqlI rfl rfl ?_
                          refine O.cast (v' := .bool true) (congrArg Value.bool (by rw [hn1]; rfl)) ?_
                          refine O.mv ?_
                          refine O.yes rfl rfl ?_
                          refine O.mv ?_
                          refine O.yes rfl rfl ?_
                          refine O.eqlI rfl rfl ?_
                          refine O.cast (v' := .bool true) (congrArg Value.bool (by rw [hn2]; rfl)) ?_
                          refine O.pickT rfl ?_
                          refine O.mv ?_
                          refine O.yes rfl rfl ?_
                          refine O.mv ?_
                          refine O.yes rfl rfl ?_
                          refine O.ext ext30 (args1 rfl) (run_bitsOf _) ?_
                          refine O.yes rfl rfl ?_
                          refine O.mv ?_
                          refine O.yes rfl rfl ?_
                          refine O.ext ext30 (args1 rfl) (run_bitsOf _) ?_
                          refine O.yes rfl rfl ?_
                          refine O.eqlU (m := 64) rfl rfl ?_
                          refine O.cast (v' := .bool true) (congrArg Value.bool (by rw [hmv]; exact decide_eq_true rfl)) ?_
                          refine O.pickT rfl ?_
                          refine O.mv ?_
                          refine O.yes rfl rfl ?_
                          refine O.call Tryz.call13 (argsN) (known_spec _ (((mx.keep e_4).keep e35).keep e36)) ?_
                          rintro v_257 w37 ⟨rfl, e37⟩
                          have z37 := e37.size
                          refine O.pickT rfl ?_
                          refine O.asg ?_
                          refine O.nil ?_
                          refine hK50 _ _ ?_
                          refine C.ret ?_
                          refine Outs.one rfl rfl ?_
                          exact ⟨rfl, (Ext.trans (Ext.trans (Ext.trans e_4 e35) e36) e37)⟩
            ·
              refine O.no rfl (noB (isF' rfl c69) rfl) ?_
              refine O.no rfl (noB (isF' rfl c69) rfl) ?_
              refine O.pickF (isF' rfl c69) ?_
              refine O.nil ?_
              refine hK10 _ _ ?_
              refine C.join (fun f w f' w' => Le w w' ∧ f' 0 = f 0 ∧ f' 2 = f 2 ∧ f' 5 = f 5 ∧ f' 6 = f 6 ∧ f' 7 = f 7) ?_ ?_
              ·
                refine C.condF rfl ?_
                refine C.skip ?_
                exact ⟨(Le.refl _), rfl, rfl, rfl, rfl, rfl⟩
              ·
                rintro f_5 w38 ⟨e_5, s0_5, s2_5, s5_5, s6_5, s7_5⟩
                have z_5 := e_5.size
                refine hK9 _ _ ?_
                refine C.seqK fun K51 hK51 => ?_
                refine C.region ?_
                refine O.asg ?_
                refine O.nil ?_
                refine hK51 _ _ ?_
                refine C.seqK fun K52 hK52 => ?_
                refine C.seqK fun K53 hK53 => ?_
                refine C.region ?_
                refine O.mv ?_
                refine O.len Tryz.underlying32 s5_5 (((((hl.keep e1).keep e3).keep e7).keep e9).keep e_5) ?_
                refine O.gtrI rfl rfl ?_
                refine O.nil ?_
                refine hK53 _ _ ?_
                refine C.join (fun f w f' w' => Le w w' ∧ f' 0 = f 0 ∧ f' 2 = f 2 ∧ f' 5 = f 5 ∧ f' 6 = f 6 ∧ f' 7 = f 7 ∧ f' 21 = .int .i64 ((kk : Int))) ?_ ?_
                ·
                  refine C.condD rfl (fun c121 => ?_) (fun c121 => ?_)
                  ·
                    refine C.region ?_
                    refine O.mv ?_
                    refine O.convUI (m := 8) Tryz.underlying5 Tryz.underlying3 s7_5 (by decide) ?_
                    refine O.mv ?_
                    refine O.len Tryz.underlying32 s5_5 (((((hl.keep e1).keep e3).keep e7).keep e9).keep e_5) ?_
                    refine O.remI rfl rfl (by omega) ?_
                    refine O.asg ?_
                    refine O.nil ?_
                    exact ⟨(Le.refl _), rfl, rfl, rfl, rfl, rfl, (Eq.trans rfl (congrArg (Value.int .i64) (by first | (rw [hkk, if_pos (by omega)]; exact (Int.natCast_emod _ _).symm) | (rw [hkk, if_neg (by omega)]; rfl))))⟩
                  ·
                    refine C.skip ?_
                    exact ⟨(Le.refl _), rfl, rfl, rfl, rfl, rfl, (Eq.trans rfl (congrArg (Value.int .i64) (by first | (rw [hkk, if_pos (by omega)]; exact (Int.natCast_emod _ _).symm) | (rw [hkk, if_neg (by omega)]; rfl))))⟩
                ·
                  rintro f_6 w39 ⟨e_6, s0_6, s2_6, s5_6, s6_6, s7_6, s21_6⟩
                  have z_6 := e_6.size
                  refine hK52 _ _ ?_
                  refine C.seqK fun K54 hK54 => ?_
                  refine C.region ?_
                  refine O.asg ?_
                  refine O.nil ?_
                  refine hK54 _ _ ?_
                  refine C.seqK fun K55 hK55 => ?_
                  refine C.seqK fun K56 hK56 => ?_
                  refine C.region ?_
                  refine O.asg ?_
                  refine O.nil ?_
                  refine hK56 _ _ ?_
                  refine C.block fun K57 hK57 => ?_
                  refine C.loop0 (σ := Nat × Value) (fun f0 w0 ⟨i, o⟩ f wz => f 23 = .int .i64 ((i : Int)) ∧ f 22 = o ∧ f 0 = f0 0 ∧ f 2 = f0 2 ∧ f 5 = f0 5 ∧ f 6 = f0 6 ∧ f 7 = f0 7 ∧ f 16 = f0 16 ∧ f 21 = f0 21 ∧ Le w wz ∧ OwnF Ds.ruleF 24 w.heap.size wz o ((Ds.turn l kk).take i) ∧ i ≤ l.length) (fun ⟨i, o⟩ => l.length - i) (0, .slice none 0 0) ?_ ?_
                  ·
                    refine ⟨rfl, rfl, rfl, rfl, rfl, rfl, rfl, rfl, rfl, (Ext.trans (Ext.trans (Ext.trans (Ext.trans (Ext.trans e1 e3) e7) e9) e_5) e_6), (OwnF.nil _ _ _ _), ?_⟩
                    exact Nat.zero_le _
                  ·
                    rintro ⟨i, o⟩ f_7 w40 ⟨s23_7, s22_7, s0_7, s2_7, s5_7, s6_7, s7_7, s16_7, s21_7, e_7, r0_7, hi⟩
                    have z_7 := e_7.size
                    have r0_7s := r0_7.sl
                    refine C.seqK fun K58 hK58 => ?_
                    refine C.seqK fun K59 hK59 => ?_
                    refine C.region ?_
                    refine O.mv ?_
                    refine O.mv ?_
                    refine O.len Tryz.underlying32 (Eq.trans s5_7 (Eq.trans s5_6 s5_5)) (hl.keep e_7) ?_
                    refine O.lssI s23_7 rfl ?_
                    refine O.nil ?_
                    refine hK59 _ _ ?_
                    refine C.condD rfl (fun c130 => ?_) (fun c130 => ?_)
                    ·
                      have hi2 : i < l.length := by omega
                      refine C.skip ?_
                      refine hK58 _ _ ?_
                      refine C.seqK fun K60 hK60 => ?_
                      refine C.block fun K61 hK61 => ?_
                      refine C.seqK fun K62 hK62 => ?_
                      refine C.region ?_
                      refine O.mv ?_
                      refine O.mv ?_
                      refine O.mv ?_
                      refine O.addI s23_7 (Eq.trans s21_7 s21_6) (by unfold InI; omega) ?_
                      refine O.mv ?_
                      refine O.len Tryz.underlying32 (Eq.trans s5_7 (Eq.trans s5_6 s5_5)) (hl.keep e_7) ?_
                      refine O.remI rfl rfl (by omega) ?_
                      refine O.cast (v' := .int .i64 (((i + kk) % l.length : Nat) : Int)) (congrArg (Value.int .i64) (by rw [Int.natCast_emod, Int.natCast_add])) ?_
                      refine O.idx Tryz.underlying32 Tryz.sizeOf24 rfl (Eq.trans s5_7 (Eq.trans s5_6 s5_5)) (hl.keep e_7) rfl (by have := Nat.mod_lt (i + kk) (show 0 < l.length by omega); omega) (fun a140 h140 => ?_)
                      refine O.loadG (G := Ds.ruleF) Tryz.isAgg24 Tryz.sizeOf24 rfl h140 ?_
                      obtain ⟨r8, hr8⟩ : ∃ r8 : Ds.Rule, r8 = (l[(i + kk) % l.length]'(Nat.mod_lt _ (by omega))) := ⟨_, rfl⟩
                      refine O.cast (v' := Ds.rv r8) (by rw [hr8]; rfl) ?_
                      refine O.alloc Tryz.zeroValue24 (fun b24 w41 hb24 hz24 e41 => ?_)
                      have z41 := e41.size
                      have h24 := hz24.own
                      have hl24 := h24.lt
                      refine O.storeA (vs := [str r8.name, .int .i64 r8.lo, fl r8.fac]) Tryz.sizeOf24 rfl rfl rfl (by simp [Value.oneCell', str, fl]) h24 (Nat.le_of_ble_eq_true rfl) (fun w42 hs42 e42 z42 => ?_)
                      refine O.nil ?_
                      refine hK62 _ _ ?_
                      refine C.seqK fun K63 hK63 => ?_
                      refine C.seqK fun K64 hK64 => ?_
                      refine C.region ?_
                      refine O.fieldAd Tryz.underlying24 rfl Tryz.sizeOf22 (by decide) rfl ?_
                      refine O.loadO Tryz.isAgg22 rfl hs42 rfl ?_
                      refine O.eqlF (b := 0#64) rfl rfl ?_
                      refine O.nil ?_
                      refine hK64 _ _ ?_
                      refine C.condD rfl (fun c144 => ?_) (fun c144 => ?_)
                      ·
                        obtain ⟨r9, hr9⟩ : ∃ r9 : Ds.Rule, r9 = Ds.zeroed r8 := ⟨_, rfl⟩
                        have hfx : r9 = Ds.fixR r8 := by rw [hr9]; exact (if_pos c144).symm
                        refine C.region ?_
                        refine O.call Tryz.call25 (args2 rfl rfl) (csign_spec _) ?_
                        rintro v_145 w43 ⟨rfl, hw_⟩
                        replace hw_ := hw_.symm
                        subst hw_
                        refine O.fieldAd Tryz.underlying24 rfl Tryz.sizeOf22 (by decide) rfl ?_
                        refine O.store Tryz.sizeOf22 rfl rfl rfl hs42 (by simp) (fun w43 hs43 e43 z43 => ?_)
                        try simp only [Int.toNat_natCast, Nat.zero_add, Nat.mul_one] at hs43
                        refine O.nil ?_
                        refine hK63 _ _ ?_
                        refine C.region ?_
                        refine O.mv ?_
                        refine O.loadOA Tryz.isAgg24 Tryz.sizeOf24 rfl hs43 (Nat.le_of_ble_eq_true rfl) ?_
                        refine O.cast (v' := Ds.rv r9) (by rw [hr9]; rfl) ?_
                        refine O.litG (G := Ds.ruleF) [r9] Tryz.underlying32 ti24 ts24 tz24 rfl (by decide) (by decide) rfl (fun b149 w44 hb149 hz149 e44 => ?_)
                        have z44 := e44.size
                        have h149 := hz149.own
                        have hq149 := Sl.litG (n := 1) h149 rfl (by unfold maxLen; omega)
                        refine O.appF (G := Ds.ruleF) Tryz.underlying32 ti24 tz24 ts24 rfl s22_7 rfl ((((r0_7.keep e41).keepM e42 (fun k hk h => by have := r0_7.bk_ge k hk; (try dsimp only at h); omega)).keepM e43 (fun k hk h => by have := r0_7.bk_ge k hk; (try dsimp only at h); omega)).keep e44) hq149 (by rw [tb24]; simp; omega) (by unfold maxLen; simp; omega) (by omega) (fun v150 w45 h150 e45 => ?_)
                        have z45 := e45.size
                        have h150s := h150.sl
                        refine O.asg ?_
                        refine O.nil ?_
                        refine hK61 _ _ ?_
                        refine hK60 _ _ ?_
                        refine C.region ?_
                        refine O.mv ?_
                        refine O.addI s23_7 rfl (by unfold InI; omega) ?_
                        refine O.asg ?_
                        refine O.nil ?_
                        refine ⟨(i + 1, _), ⟨rfl, rfl, s0_7, s2_7, s5_7, s6_7, s7_7, s16_7, s21_7, (Ext.new (Ext.trans (Ext.new (Ext.new (Ext.trans e_7 e41) e42 (by rintro i hi rfl; omega)) e43 (by rintro i hi rfl; omega)) e44) e45 (by intro i hi h; have := ((((r0_7.keep e41).keepM e42 (fun k hk h => by have := r0_7.bk_ge k hk; (try dsimp only at h); omega)).keepM e43 (fun k hk h => by have := r0_7.bk_ge k hk; (try dsimp only at h); omega)).keep e44).bk_ge i h; omega)), (by rw [Ds.turn_take hi2, ← hr8, ← hfx]; exact h150), ?_⟩, by first | omega | (simp only []; omega)⟩
                        omega
                      ·
                        obtain ⟨r9, hr9⟩ : ∃ r9 : Ds.Rule, r9 = r8 := ⟨_, rfl⟩
                        have hfx : r9 = Ds.fixR r8 := by rw [hr9]; exact (if_neg c144).symm
                        refine C.skip ?_
                        refine hK63 _ _ ?_
                        refine C.region ?_
                        refine O.mv ?_
                        refine O.loadOA Tryz.isAgg24 Tryz.sizeOf24 rfl hs42 (Nat.le_of_ble_eq_true rfl) ?_
                        refine O.cast (v' := Ds.rv r9) (by rw [hr9]; rfl) ?_
                        refine O.litG (G := Ds.ruleF) [r9] Tryz.underlying32 ti24 ts24 tz24 rfl (by decide) (by decide) rfl (fun b149 w46 hb149 hz149 e46 => ?_)
                        have z46 := e46.size
                        have h149 := hz149.own
                        have hq149 := Sl.litG (n := 1) h149 rfl (by unfold maxLen; omega)
                        refine O.appF (G := Ds.ruleF) Tryz.underlying32 ti24 tz24 ts24 rfl s22_7 rfl (((r0_7.keep e41).keepM e42 (fun k hk h => by have := r0_7.bk_ge k hk; (try dsimp only at h); omega)).keep e46) hq149 (by rw [tb24]; simp; omega) (by unfold maxLen; simp; omega) (by omega) (fun v150 w47 h150 e47 => ?_)
                        have z47 := e47.size
                        have h150s := h150.sl
                        refine O.asg ?_
                        refine O.nil ?_
                        refine hK61 _ _ ?_
                        refine hK60 _ _ ?_
                        refine C.region ?_
                        refine O.mv ?_
                        refine O.addI s23_7 rfl (by unfold InI; omega) ?_
                        refine O.asg ?_
                        refine O.nil ?_
                        refine ⟨(i + 1, _), ⟨rfl, rfl, s0_7, s2_7, s5_7, s6_7, s7_7, s16_7, s21_7, (Ext.new (Ext.trans (Ext.new (Ext.trans e_7 e41) e42 (by rintro i hi rfl; omega)) e46) e47 (by intro i hi h; have := (((r0_7.keep e41).keepM e42 (fun k hk h => by have := r0_7.bk_ge k hk; (try dsimp only at h); omega)).keep e46).bk_ge i h; omega)), (by rw [Ds.turn_take hi2, ← hr8, ← hfx]; exact h150), ?_⟩, by first | omega | (simp only []; omega)⟩
                        omega
                    ·
                      obtain rfl : i = l.length := by omega
                      have h22x := r0_7
                      rw [show (Ds.turn l kk).take l.length = Ds.turn l kk from List.take_of_length_le (by rw [Ds.turn_length]; exact Nat.le_refl _)] at h22x
                      have h22s := h22x.sl
                      have htt9 := Ds.tog_turn (c := c) (q := q) hkl
                      have htP := htt9.1
                      have htF := htt9.2
                      have het := Ds.err_turn (c := c) (q := q) hkl
                      have hwu := Ds.whole_unit (q := q) hbad
                      have hF1 : Ds.togF c q l = Ds.whole q l := if_pos he
                      have hP1 : Ds.togP c q l = (Rnd.price (a * b) (Ds.whole q l) : Nat) := (if_pos he).trans (by rw [hca, hqb, Int.toNat_natCast, Int.toNat_natCast]; rfl)
                      have hB1 : Ds.bestP c q l = (Ds.least (a * b) q l l.length : Nat) := (if_pos he).trans (by rw [hca, hqb, Int.toNat_natCast, Int.toNat_natCast])
                      have hwl := Ds.whole_least (q := q) hab hbad
                      have hll := (Ds.least_le (q := q) hab hbad l.length (Nat.le_refl _)).1
                      have hcqn : c * q = ((a * b : Nat) : Int) := by rw [hca, hqb, Int.natCast_mul]
                      refine C.exit ?_
                      refine hK57 _ _ ?_
                      refine hK55 _ _ ?_
                      refine C.seqK fun K65 hK65 => ?_
                      refine C.region ?_
                      refine O.mv ?_
                      refine O.mv ?_
                      refine O.mv ?_
                      refine O.call Tryz.call26 (args3 (Eq.trans s0_7 (Eq.trans s0_6 s0_5)) (Eq.trans s2_7 (Eq.trans s2_6 s2_5)) (Eq.trans s5_7 (Eq.trans s5_6 s5_5))) (dtog_spec c q v5 l F _ (hl.keep e_7) (mx.keep e_7)) ?_
                      rintro v_155 w48 ⟨rfl, e48⟩
                      have z48 := e48.size
                      refine O.mv ?_
                      refine O.extract rfl rfl ?_
                      refine O.extract rfl rfl ?_
                      refine O.extract rfl rfl ?_
                      refine O.asg ?_
                      refine O.asg ?_
                      refine O.asg ?_
                      refine O.nil ?_
                      refine hK65 _ _ ?_
                      refine C.seqK fun K66 hK66 => ?_
                      refine C.region ?_
                      refine O.mv ?_
                      refine O.mv ?_
                      refine O.mv ?_
                      refine O.call Tryz.call26 (args3 (Eq.trans s0_7 (Eq.trans s0_6 s0_5)) (Eq.trans s2_7 (Eq.trans s2_6 s2_5)) s22_7) (dtog_spec c q o (Ds.turn l kk) _ _ (h22s.keep e48) ((mx.keep e_7).keep e48)) ?_
                      rintro v_163 w49 ⟨rfl, e49⟩
                      have z49 := e49.size
                      refine O.mv ?_
                      refine O.extract rfl rfl ?_
                      refine O.extract rfl rfl ?_
                      refine O.extract rfl rfl ?_
                      refine O.asg ?_
                      refine O.asg ?_
                      refine O.asg ?_
                      refine O.nil ?_
                      refine hK66 _ _ ?_
                      refine C.seqK fun K67 hK67 => ?_
                      refine C.region ?_
                      refine O.mv ?_
                      refine O.mv ?_
                      refine O.mv ?_
                      refine O.call Tryz.call27 (args3 (Eq.trans s0_7 (Eq.trans s0_6 s0_5)) (Eq.trans s2_7 (Eq.trans s2_6 s2_5)) (Eq.trans s5_7 (Eq.trans s5_6 s5_5))) (dbest_spec c q v5 l F _ (((hl.keep e_7).keep e48).keep e49) (((mx.keep e_7).keep e48).keep e49)) ?_
                      rintro v_171 w50 ⟨rfl, e50⟩
                      have z50 := e50.size
                      refine O.mv ?_
                      refine O.extract rfl rfl ?_
                      refine O.extract rfl rfl ?_
                      refine O.extract rfl rfl ?_
                      refine O.asg ?_
                      refine O.asg ?_
                      refine O.asg ?_
                      refine O.nil ?_
                      refine hK67 _ _ ?_
                      refine C.seqK fun K68 hK68 => ?_
                      refine C.seqK fun K69 hK69 => ?_
                      refine C.region ?_
                      refine O.mv ?_
                      refine O.neqI rfl rfl ?_
                      refine O.cast (v' := .bool false) (congrArg Value.bool (by rw [he]; rfl)) ?_
                      refine O.mv ?_
                      refine O.yes rfl rfl ?_
                      refine O.mv ?_
                      refine O.yes rfl rfl ?_
                      refine O.neqI rfl rfl ?_
                      refine O.cast (v' := .bool false) (congrArg Value.bool (by rw [het, he]; rfl)) ?_
                      refine O.pickF rfl ?_
                      refine O.mv ?_
                      refine O.yes rfl rfl ?_
                      refine O.mv ?_
                      refine O.yes rfl rfl ?_
                      refine O.neqI rfl rfl ?_
                      refine O.cast (v' := .bool false) (congrArg Value.bool (by rw [he]; rfl)) ?_
                      refine O.pickF rfl ?_
                      refine O.mv ?_
                      refine O.yes rfl rfl ?_
                      refine O.mv ?_
                      refine O.yes rfl rfl ?_
                      refine O.mv ?_
                      refine O.yes rfl rfl ?_
                      refine O.neqI rfl rfl ?_
                      refine O.cast (v' := .bool false) (congrArg Value.bool (by rw [htP]; exact decide_eq_false (fun h => h rfl))) ?_
                      refine O.pickF rfl ?_
                      refine O.mv ?_
                      refine O.yes rfl rfl ?_
                      refine O.mv ?_
                      refine O.yes rfl rfl ?_
                      refine O.mv ?_
                      refine O.yes rfl rfl ?_
                      refine O.neqF rfl rfl ?_
                      refine O.cast (v' := .bool false) (congrArg Value.bool (by rw [htF, hF1]; exact decide_eq_false (fun h => h ((Rnd.feq_unit hwu hwu).2 rfl)))) ?_
                      refine O.pickF rfl ?_
                      refine O.mv ?_
                      refine O.yes rfl rfl ?_
                      refine O.mv ?_
                      refine O.yes rfl rfl ?_
                      refine O.mv ?_
                      refine O.yes rfl rfl ?_
                      refine O.gtrI rfl rfl ?_
                      refine O.cast (v' := .bool false) (congrArg Value.bool (by rw [hP1, hB1]; exact decide_eq_false (by omega))) ?_
                      refine O.pickF rfl ?_
                      refine O.mv ?_
                      refine O.yes rfl rfl ?_
                      refine O.mv ?_
                      refine O.yes rfl rfl ?_
                      refine O.mv ?_
                      refine O.yes rfl rfl ?_
                      refine O.mv ?_
                      refine O.yes rfl rfl ?_
                      refine O.mulI (Eq.trans s0_7 (Eq.trans s0_6 s0_5)) (Eq.trans s2_7 (Eq.trans s2_6 s2_5)) (by unfold InI; omega) ?_
                      refine O.yes rfl rfl ?_
                      refine O.gtrI rfl rfl ?_
                      refine O.cast (v' := .bool false) (congrArg Value.bool (by rw [hB1, hcqn]; exact decide_eq_false (by omega))) ?_
                      refine O.pickF rfl ?_
                      refine O.nil ?_
                      refine hK69 _ _ ?_
                      refine C.condF rfl ?_
                      refine C.skip ?_
                      refine hK68 _ _ ?_
                      refine C.seqK fun K70 hK70 => ?_
                      refine C.region ?_
                      refine O.asg ?_
                      refine O.nil ?_
                      refine hK70 _ _ ?_
                      refine C.seqK fun K71 hK71 => ?_
                      refine C.seqK fun K72 hK72 => ?_
                      refine C.region ?_
                      refine O.mv ?_
                      refine O.len Tryz.underlying37 (Eq.trans s6_7 (Eq.trans s6_6 s6_5)) ((((hx.keep e_7).keep e48).keep e49).keep e50) ?_
                      refine O.subI rfl rfl (by unfold InI; omega) ?_
                      refine O.asg ?_
                      refine O.nil ?_
                      refine hK72 _ _ ?_
                      refine C.block fun K73 hK73 => ?_
                      refine C.loop0 (σ := Nat × Value) (fun f0 w0 ⟨i, o2⟩ f wz => f 35 = .int .i64 ((xs.length : Int) - 1 - i) ∧ f 34 = o2 ∧ f 6 = f0 6 ∧ f 7 = f0 7 ∧ f 16 = f0 16 ∧ Le w wz ∧ OwnF flF 22 w.heap.size wz o2 ((Ds.bk2 at7 xs).take i) ∧ i ≤ xs.length) (fun ⟨i, o2⟩ => xs.length - i) (0, .slice none 0 0) ?_ ?_
                      ·
                        refine ⟨(Eq.trans rfl (congrArg (Value.int .i64) (by omega))), rfl, rfl, rfl, rfl, (Ext.trans (Ext.trans (Ext.trans e_7 e48) e49) e50), (OwnF.nil _ _ _ _), ?_⟩
                        exact Nat.zero_le _
                      ·
                        rintro ⟨i, o2⟩ f_8 w51 ⟨s35_8, s34_8, s6_8, s7_8, s16_8, e_8, r0_8, hi⟩
                        have z_8 := e_8.size
                        have r0_8s := r0_8.sl
                        refine C.seqK fun K74 hK74 => ?_
                        refine C.seqK fun K75 hK75 => ?_
                        refine C.region ?_
                        refine O.mv ?_
                        refine O.geqI s35_8 rfl ?_
                        refine O.nil ?_
                        refine hK75 _ _ ?_
                        refine C.condD rfl (fun c211 => ?_) (fun c211 => ?_)
                        ·
                          have hi2 : i < xs.length := by omega
                          have hxi : ((xs.length : Int) - 1 - (i : Int)).toNat = xs.length - 1 - i := by omega
                          refine C.skip ?_
                          refine hK74 _ _ ?_
                          refine C.seqK fun K76 hK76 => ?_
                          refine C.block fun K77 hK77 => ?_
                          refine C.seqK fun K78 hK78 => ?_
                          refine C.region ?_
                          refine O.mv ?_
                          refine O.mv ?_
                          refine O.idx Tryz.underlying37 Tryz.sizeOf22 rfl (Eq.trans s6_8 (Eq.trans s6_7 (Eq.trans s6_6 s6_5))) (hx.keep e_8) s35_8 (by omega) (fun a216 h216 => ?_)
                          refine O.loadF Tryz.isAgg22 rfl h216 ?_
                          obtain ⟨y, hy⟩ : ∃ y, y = (xs[xs.length - 1 - i]'(by omega)) := ⟨_, rfl⟩
                          refine O.cast (v' := fl y) (congrArg fl (by rw [hy]; simp only [hxi])) ?_
                          refine O.asg ?_
                          refine O.nil ?_
                          refine hK78 _ _ ?_
                          refine C.seqK fun K79 hK79 => ?_
                          refine C.seqK fun K80 hK80 => ?_
                          refine C.region ?_
                          refine O.mv ?_
                          refine O.eqlF (b := 0#64) rfl rfl ?_
                          refine O.nil ?_
                          refine hK80 _ _ ?_
                          refine C.condD rfl (fun c219 => ?_) (fun c219 => ?_)
                          ·
                            refine C.region ?_
                            refine O.mv ?_
                            refine O.negF rfl ?_
                            refine O.asg ?_
                            refine O.nil ?_
                            refine hK79 _ _ ?_
                            refine C.seqK fun K81 hK81 => ?_
                            refine C.seqK fun K82 hK82 => ?_
                            refine C.region ?_
                            refine O.mv ?_
                            refine O.mv ?_
                            refine O.neqF rfl rfl ?_
                            refine O.nil ?_
                            refine hK82 _ _ ?_
                            refine C.condD rfl (fun c224 => ?_) (fun c224 => ?_)
                            ·
                              refine C.region ?_
                              refine O.mv ?_
                              refine O.convUU (m := 8) (m' := 64) Tryz.underlying5 Tryz.underlying55 rfl rfl (Eq.trans s7_8 (Eq.trans s7_7 (Eq.trans s7_6 s7_5))) ?_
                              refine O.addU (m := 64) (a := 18444492273895866369#64) rfl rfl rfl rfl ?_
                              refine O.ext ext28 (args1 rfl) (run_fromBits _) ?_
                              refine O.asg ?_
                              refine O.nil ?_
                              refine hK81 _ _ ?_
                              refine C.region ?_
                              refine O.mv ?_
                              refine O.mv ?_
                              refine O.cast (v' := fl (Ds.fixf at7 y)) (congrArg fl (by first | exact (Ds.fixf1 c219 c224).symm | exact (Ds.fixf2 c219 c224).symm | exact (Ds.fixf3 c219 c224).symm | exact (Ds.fixf4 c219 c224).symm)) ?_
                              refine O.lit1 Tryz.underlying37 ti22 ts22 tz22 rfl rfl (fun b231 w52 hb231 hz231 e52 => ?_)
                              have z52 := e52.size
                              have h231 := hz231.own
                              have hl231 := h231.lt
                              have h1231 : Sl flF.enc w52 (fun k => k = b231) _ [Ds.fixf at7 y] := Sl.one h231 rfl rfl
                              refine O.appF (G := flF) Tryz.underlying37 ti22 tz22 ts22 rfl s34_8 rfl (r0_8.keep e52) h1231 (by rw [tb22]; simp; omega) (by unfold maxLen; simp; omega) (by omega) (fun v232 w53 h232 e53 => ?_)
                              have z53 := e53.size
                              have h232s := h232.sl
                              refine O.asg ?_
                              refine O.nil ?_
                              refine hK77 _ _ ?_
                              refine hK76 _ _ ?_
                              refine C.region ?_
                              refine O.mv ?_
                              refine O.subI s35_8 rfl (by unfold InI; omega) ?_
                              refine O.asg ?_
                              refine O.nil ?_
                              refine ⟨(i + 1, _), ⟨(Eq.trans rfl (congrArg (Value.int .i64) (by omega))), rfl, s6_8, s7_8, s16_8, (Ext.new (Ext.trans e_8 e52) e53 (by intro i hi h; have := (r0_8.keep e52).bk_ge i h; omega)), (by rw [Ds.bk2_take hi2, ← hy]; exact h232), ?_⟩, by first | omega | (simp only []; omega)⟩
                              omega
                            ·
                              refine C.skip ?_
                              refine hK81 _ _ ?_
                              refine C.region ?_
                              refine O.mv ?_
                              refine O.mv ?_
                              refine O.cast (v' := fl (Ds.fixf at7 y)) (congrArg fl (by first | exact (Ds.fixf1 c219 c224).symm | exact (Ds.fixf2 c219 c224).symm | exact (Ds.fixf3 c219 c224).symm | exact (Ds.fixf4 c219 c224).symm)) ?_
                              refine O.lit1 Tryz.underlying37 ti22 ts22 tz22 rfl rfl (fun b231 w54 hb231 hz231 e54 => ?_)
                              have z54 := e54.size
                              have h231 := hz231.own
                              have hl231 := h231.lt
                              have h1231 : Sl flF.enc w54 (fun k => k = b231) _ [Ds.fixf at7 y] := Sl.one h231 rfl rfl
                              refine O.appF (G := flF) Tryz.underlying37 ti22 tz22 ts22 rfl s34_8 rfl (r0_8.keep e54) h1231 (by rw [tb22]; simp; omega) (by unfold maxLen; simp; omega) (by omega) (fun v232 w55 h232 e55 => ?_)
                              have z55 := e55.size
                              have h232s := h232.sl
                              refine O.asg ?_
                              refine O.nil ?_
                              refine hK77 _ _ ?_
                              refine hK76 _ _ ?_
                              refine C.region ?_
                              refine O.mv ?_
                              refine O.subI s35_8 rfl (by unfold InI; omega) ?_
                              refine O.asg ?_
                              refine O.nil ?_
                              refine ⟨(i + 1, _), ⟨(Eq.trans rfl (congrArg (Value.int .i64) (by omega))), rfl, s6_8, s7_8, s16_8, (Ext.new (Ext.trans e_8 e54) e55 (by intro i hi h; have := (r0_8.keep e54).bk_ge i h; omega)), (by rw [Ds.bk2_take hi2, ← hy]; exact h232), ?_⟩, by first | omega | (simp only []; omega)⟩
                              omega
                          ·
                            refine C.skip ?_
                            refine hK79 _ _ ?_
                            refine C.seqK fun K83 hK83 => ?_
                            refine C.seqK fun K84 hK84 => ?_
                            refine C.region ?_
                            refine O.mv ?_
                            refine O.mv ?_
                            refine O.neqF rfl rfl ?_
                            refine O.nil ?_
                            refine hK84 _ _ ?_
                            refine C.condD rfl (fun c224 => ?_) (fun c224 => ?_)
                            ·
                              refine C.region ?_
                              refine O.mv ?_
                              refine O.convUU (m := 8) (m' := 64) Tryz.underlying5 Tryz.underlying55 rfl rfl (Eq.trans s7_8 (Eq.trans s7_7 (Eq.trans s7_6 s7_5))) ?_
                              refine O.addU (m := 64) (a := 18444492273895866369#64) rfl rfl rfl rfl ?_
                              refine O.ext ext28 (args1 rfl) (run_fromBits _) ?_
                              refine O.asg ?_
                              refine O.nil ?_
                              refine hK83 _ _ ?_
                              refine C.region ?_
                              refine O.mv ?_
                              refine O.mv ?_
                              refine O.cast (v' := fl (Ds.fixf at7 y)) (congrArg fl (by first | exact (Ds.fixf1 c219 c224).symm | exact (Ds.fixf2 c219 c224).symm | exact (Ds.fixf3 c219 c224).symm | exact (Ds.fixf4 c219 c224).symm)) ?_
                              refine O.lit1 Tryz.underlying37 ti22 ts22 tz22 rfl rfl (fun b231 w56 hb231 hz231 e56 => ?_)
                              have z56 := e56.size
                              have h231 := hz231.own
                              have hl231 := h231.lt
                              have h1231 : Sl flF.enc w56 (fun k => k = b231) _ [Ds.fixf at7 y] := Sl.one h231 rfl rfl
                              refine O.appF (G := flF) Tryz.underlying37 ti22 tz22 ts22 rfl s34_8 rfl (r0_8.keep e56) h1231 (by rw [tb22]; simp; omega) (by unfold maxLen; simp; omega) (by omega) (fun v232 w57 h232 e57 => ?_)
                              have z57 := e57.size
                              have h232s := h232.sl
                              refine O.asg ?_
                              refine O.nil ?_
                              refine hK77 _ _ ?_
                              refine hK76 _ _ ?_
                              refine C.region ?_
                              refine O.mv ?_
                              refine O.subI s35_8 rfl (by unfold InI; omega) ?_
                              refine O.asg ?_
                              refine O.nil ?_
                              refine ⟨(i + 1, _), ⟨(Eq.trans rfl (congrArg (Value.int .i64) (by omega))), rfl, s6_8, s7_8, s16_8, (Ext.new (Ext.trans e_8 e56) e57 (by intro i hi h; have := (r0_8.keep e56).bk_ge i h; omega)), (by rw [Ds.bk2_take hi2, ← hy]; exact h232), ?_⟩, by first | omega | (simp only []; omega)⟩
                              omega
                            ·
                              refine C.skip ?_
                              refine hK83 _ _ ?_
                              refine C.region ?_
                              refine O.mv ?_
                              refine O.mv ?_
                              refine O.cast (v' := fl (Ds.fixf at7 y)) (congrArg fl (by first | exact (Ds.fixf1 c219 c224).symm | exact (Ds.fixf2 c219 c224).symm | exact (Ds.fixf3 c219 c224).symm | exact (Ds.fixf4 c219 c224).symm)) ?_
                              refine O.lit1 Tryz.underlying37 ti22 ts22 tz22 rfl rfl (fun b231 w58 hb231 hz231 e58 => ?_)
                              have z58 := e58.size
                              have h231 := hz231.own
                              have hl231 := h231.lt
                              have h1231 : Sl flF.enc w58 (fun k => k = b231) _ [Ds.fixf at7 y] := Sl.one h231 rfl rfl
                              refine O.appF (G := flF) Tryz.underlying37 ti22 tz22 ts22 rfl s34_8 rfl (r0_8.keep e58) h1231 (by rw [tb22]; simp; omega) (by unfold maxLen; simp; omega) (by omega) (fun v232 w59 h232 e59 => ?_)
                              have z59 := e59.size
                              have h232s := h232.sl
                              refine O.asg ?_
                              refine O.nil ?_
                              refine hK77 _ _ ?_
                              refine hK76 _ _ ?_
                              refine C.region ?_
                              refine O.mv ?_
                              refine O.subI s35_8 rfl (by unfold InI; omega) ?_
                              refine O.asg ?_
                              refine O.nil ?_
                              refine ⟨(i + 1, _), ⟨(Eq.trans rfl (congrArg (Value.int .i64) (by omega))), rfl, s6_8, s7_8, s16_8, (Ext.new (Ext.trans e_8 e58) e59 (by intro i hi h; have := (r0_8.keep e58).bk_ge i h; omega)), (by rw [Ds.bk2_take hi2, ← hy]; exact h232), ?_⟩, by first | omega | (simp only []; omega)⟩
                              omega
                        ·
                          obtain rfl : i = xs.length := by omega
                          have h34x := r0_8
                          rw [show (Ds.bk2 at7 xs).take xs.length = Ds.bk2 at7 xs from List.take_of_length_le (by rw [Ds.bk2_length]; exact Nat.le_refl _)] at h34x
                          have h34s := h34x.sl
                          have hmv := Ds.mean_bk2 at7 xs
                          have hn1 : Ds.meanN xs = 0 := if_neg (by omega)
                          have hn2 : Ds.meanN (Ds.bk2 at7 xs) = 0 := if_neg (by rw [Ds.bk2_length]; omega)
                          refine C.exit ?_
                          refine hK73 _ _ ?_
                          refine hK71 _ _ ?_
                          refine C.seqK fun K85 hK85 => ?_
                          refine C.region ?_
                          refine O.mv ?_
                          refine O.call Tryz.call29 (args1 (Eq.trans s6_8 (Eq.trans s6_7 (Eq.trans s6_6 s6_5)))) (dmean_spec v6 xs _ _ (hx.keep e_8)) ?_
                          rintro v_235 w60 ⟨rfl, e60⟩
                          have z60 := e60.size
                          refine O.mv ?_
                          refine O.extract rfl rfl ?_
                          refine O.extract rfl rfl ?_
                          refine O.asg ?_
                          refine O.asg ?_
                          refine O.nil ?_
                          refine hK85 _ _ ?_
                          refine C.seqK fun K86 hK86 => ?_
                          refine C.region ?_
                          refine O.mv ?_
                          refine O.call Tryz.call29 (args1 s34_8) (dmean_spec o2 (Ds.bk2 at7 xs) _ _ (h34s.keep e60)) ?_
                          rintro v_240 w61 ⟨rfl, e61⟩
                          have z61 := e61.size
                          refine O.mv ?_
                          refine O.extract rfl rfl ?_
                          refine O.extract rfl rfl ?_
                          refine O.asg ?_
                          refine O.asg ?_
                          refine O.nil ?_
                          refine hK86 _ _ ?_
                          refine C.seqK fun K87 hK87 => ?_
                          refine C.region ?_
                          refine O.mv ?_
                          refine O.eqlI rfl rfl ?_
                          refine O.cast (v' := .bool true) (congrArg Value.bool (by rw [hn1]; rfl)) ?_
                          refine O.mv ?_
                          refine O.yes rfl rfl ?_
                          refine O.mv ?_
                          refine O.yes rfl rfl ?_
                          refine O.eqlI rfl rfl ?_
                          refine O.cast (v' := .bool true) (congrArg Value.bool (by rw [hn2]; rfl)) ?_
                          refine O.pickT rfl ?_
                          refine O.mv ?_
                          refine O.yes rfl rfl ?_
                          refine O.mv ?_
                          refine O.yes rfl rfl ?_
                          refine O.ext ext30 (args1 rfl) (run_bitsOf _) ?_
                          refine O.yes rfl rfl ?_
                          refine O.mv ?_
                          refine O.yes rfl rfl ?_
                          refine O.ext ext30 (args1 rfl) (run_bitsOf _) ?_
                          refine O.yes rfl rfl ?_
                          refine O.eqlU (m := 64) rfl rfl ?_
                          refine O.cast (v' := .bool true) (congrArg Value.bool (by rw [hmv]; exact decide_eq_true rfl)) ?_
                          refine O.pickT rfl ?_
                          refine O.mv ?_
                          refine O.yes rfl rfl ?_
                          refine O.call Tryz.call13 (argsN) (known_spec _ (((mx.keep e_8).keep e60).keep e61)) ?_
                          rintro v_257 w62 ⟨rfl, e62⟩
                          have z62 := e62.size
                          refine O.pickT rfl ?_
                          refine O.asg ?_
                          refine O.nil ?_
                          refine hK87 _ _ ?_
                          refine C.ret ?_
                          refine Outs.one rfl rfl ?_
                          exact ⟨rfl, (Ext.trans (Ext.trans (Ext.trans e_8 e60) e61) e62)⟩

end Go.Proofs.YtbadfphdniliaaaGreatDoor
