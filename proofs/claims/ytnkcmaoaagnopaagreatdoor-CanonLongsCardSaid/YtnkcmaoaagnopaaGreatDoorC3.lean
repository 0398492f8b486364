/-
  The walks of names and items. Conditions: slices as they lie in memory.
-/
import Derived.Test.YtnkcmaoaagnopaaGreatDoorC2
import Derived.Test.YtnkcmaoaagnopaaGreatDoorD4
namespace Go.Proofs.YtnkcmaoaagnopaaGreatDoor
open Go.Pn Go.RowKit Go.Proofs
attribute [local irreducible] O C D


/-- The library's variable that says up to which length a search is short. -/
structure Mx (w : World) : Prop where
  h : ∃ m : Int, CellIs w 0 (.int .i64 m)
theorem Mx.keep {w w' : World} (h : Mx w) (e : Le w w') : Mx w' := by obtain ⟨m, hm⟩ := h.h; exact ⟨m, hm.keep e⟩
theorem trim_spec (l : List UInt8) (w : World) (hl : l.length ≤ 281474976710656) : Ret Tryz.prog 113 #[str l, str [32]] w (fun v w' => v = str (Lib.trimB l 32) ∧ Le w w') := by
  refine Ret.of (Tryz.strings_Trim_one ⟨l.toArray⟩ 32 (by decide) w (by simp [ByteArray.size]; omega)) ?_
  rintro e w' ⟨rfl, rfl | rfl⟩
  · exact ⟨_, rfl, rfl, Le.refl _⟩
  · exact ⟨_, rfl, rfl, Le.drew w⟩
theorem has2_spec (l : List UInt8) (w : World) (hl : l.length ≤ 10000000) (mx : Mx w) : Ret Tryz.prog 114 #[str l, str [32, 32]] w (fun v w' => v = .bool (Lib.contains l [32, 32]) ∧ Le w w') := by
  obtain ⟨m, hm⟩ := mx.h
  refine Ret.of (Tryz.strings_Contains ⟨l.toArray⟩ ⟨[32, 32].toArray⟩ m w (by simp [ByteArray.size]; omega) hm) ?_
  rintro e w' ⟨rfl, rfl⟩
  exact ⟨_, rfl, rfl, Le.refl _⟩

theorem okName_spec (s : List UInt8) (w : World) (hl : s.length ≤ 1000000) (mx : Mx w) :
    Ret Tryz.prog 92 #[str (s)] w (fun v w' => v = .bool (Cn.okName s) ∧ Le w w') := by
  refine enter (args := [str (s)]) (n := 38) Tryz.func92 rfl rfl (Nat.le_of_ble_eq_true rfl) ?_
  refine C.seqK fun K1 hK1 => ?_
  refine C.region ?_
  refine O.asg ?_
  refine O.nil ?_
  refine hK1 _ _ ?_
  refine C.seqK fun K2 hK2 => ?_
  refine C.seqK fun K3 hK3 => ?_
  refine C.region ?_
  refine O.mv ?_
  refine O.strB Tryz.underlying9 Tryz.underlying32 Tryz.underlying5 rfl (by unfold maxLen; omega) (fun b6 cap6 w1 hb6 hc6 h6 hs6 e1 => ?_)
  have z1 := e1.size
  refine O.len Tryz.underlying32 rfl hs6 ?_
  refine O.mv ?_
  refine O.nil ?_
  refine hK3 _ _ ?_
  refine C.block fun K4 hK4 => ?_
  refine C.loop0 (σ := Nat) (fun f0 w0 k f w => f 8 = .int .i64 (k) ∧ f 0 = f0 0 ∧ f 6 = f0 6 ∧ f 7 = f0 7 ∧ Le w0 w ∧ k ≤ s.length ∧ ∀ i, ∀ h : i < s.length, i < k → Cn.okC s[i] = true) (fun k => s.length - k) 0 ?_ ?_
  ·
    refine ⟨rfl, rfl, rfl, rfl, Le.refl _, ?_⟩
    exact ⟨Nat.zero_le _, fun i h k => absurd k (Nat.not_lt_zero _)⟩
  ·
    rintro k f_1 w2 ⟨s8_1, s0_1, s6_1, s7_1, e_1, ⟨hk, hI⟩⟩
    have z_1 := e_1.size
    refine C.seqK fun K5 hK5 => ?_
    refine C.region ?_
    refine O.lssI s8_1 s7_1 ?_
    refine O.nil ?_
    refine hK5 _ _ ?_
    refine C.seqK fun K6 hK6 => ?_
    refine C.condD rfl (fun c9 => ?_) (fun c9 => ?_)
    ·
      have hk2 : k < s.length := by omega
      refine C.skip ?_
      refine hK6 _ _ ?_
      refine C.seqK fun K7 hK7 => ?_
      refine C.block fun K8 hK8 => ?_
      refine C.seqK fun K9 hK9 => ?_
      refine C.region ?_
      refine O.idx Tryz.underlying32 Tryz.sizeOf5 rfl s6_1 (hs6.keep e_1) s8_1 (by omega) (fun a10 h10 => ?_)
      refine O.loadB Tryz.isAgg5 rfl h10 ?_
      refine O.asg ?_
      refine O.nil ?_
      refine hK9 _ _ ?_
      refine C.seqK fun K10 hK10 => ?_
      refine C.region ?_
      refine O.mv ?_
      refine O.lssU (m := 8) (b := 32#8) rfl rfl ?_
      refine O.mv ?_
      refine O.splitD (x := .tmp 14) rfl (fun c14 => ?_) (fun c14 => ?_)
      ·
        simp only [Int.toNat_natCast] at c14
        refine O.no rfl (noB (isT rfl c14) rfl) ?_
        refine O.no rfl (noB (isT rfl c14) rfl) ?_
        refine O.pickT (isT rfl c14) ?_
        refine O.nil ?_
        refine hK10 _ _ ?_
        refine C.condT rfl ?_
        refine C.seqK fun K11 hK11 => ?_
        refine C.region ?_
        refine O.asg ?_
        refine O.nil ?_
        refine hK11 _ _ ?_
        refine C.ret ?_
        refine Outs.one rfl rfl ?_
        first
        | exact ⟨congrArg Value.bool (Cn.okName_all hk2 (Cn.okC_lo c14)).symm, (Ext.trans e1 e_1)⟩
        | exact ⟨congrArg Value.bool (Cn.okName_all hk2 (Cn.okC_hi c17)).symm, (Ext.trans e1 e_1)⟩
        | (refine ⟨congrArg Value.bool ?_, (Ext.trans e1 e_1)⟩
           unfold Cn.okName
           rw [hall]
           first
           | (rw [decide_eq_false (p := 1 ≤ s.length ∧ s.length ≤ 64) (by omega)]; rfl)
           | (rw [decide_eq_true (p := 1 ≤ s.length ∧ s.length ≤ 64) (by omega), decide_eq_false c33]; rfl)
           | (rw [decide_eq_true (p := 1 ≤ s.length ∧ s.length ≤ 64) (by omega), decide_eq_true c33]; rfl))
      ·
        simp only [Int.toNat_natCast] at c14
        refine O.yes rfl (isF rfl c14) ?_
        refine O.mv ?_
        refine O.yes rfl (isF rfl c14) ?_
        refine O.gtrU (m := 8) (b := 126#8) rfl rfl ?_
        refine O.pickF (isF rfl c14) ?_
        refine O.nil ?_
        refine hK10 _ _ ?_
        refine C.condD rfl (fun c17 => ?_) (fun c17 => ?_)
        ·
          simp only [Int.toNat_natCast] at c17
          refine C.seqK fun K12 hK12 => ?_
          refine C.region ?_
          refine O.asg ?_
          refine O.nil ?_
          refine hK12 _ _ ?_
          refine C.ret ?_
          refine Outs.one rfl rfl ?_
          first
          | exact ⟨congrArg Value.bool (Cn.okName_all hk2 (Cn.okC_lo c14)).symm, (Ext.trans e1 e_1)⟩
          | exact ⟨congrArg Value.bool (Cn.okName_all hk2 (Cn.okC_hi c17)).symm, (Ext.trans e1 e_1)⟩
          | (refine ⟨congrArg Value.bool ?_, (Ext.trans e1 e_1)⟩
             unfold Cn.okName
             rw [hall]
             first
             | (rw [decide_eq_false (p := 1 ≤ s.length ∧ s.length ≤ 64) (by omega)]; rfl)
             | (rw [decide_eq_true (p := 1 ≤ s.length ∧ s.length ≤ 64) (by omega), decide_eq_false c33]; rfl)
             | (rw [decide_eq_true (p := 1 ≤ s.length ∧ s.length ≤ 64) (by omega), decide_eq_true c33]; rfl))
        ·
          simp only [Int.toNat_natCast] at c17
          refine C.skip ?_
          refine hK8 _ _ ?_
          refine hK7 _ _ ?_
          refine C.region ?_
          refine O.addI s8_1 rfl (by unfold InI; omega) ?_
          refine O.mv ?_
          refine O.nil ?_
          refine ⟨k + 1, ⟨rfl, s0_1, s6_1, s7_1, e_1, ?_⟩, by first | omega | (simp only []; omega)⟩
          refine ⟨by omega, fun i hi hik => ?_⟩
          rcases Nat.lt_or_eq_of_le (Nat.le_of_lt_succ hik) with h | rfl
          · exact hI i hi h
          · exact Cn.okC_ok c14 c17
    ·
      have hall : s.all Cn.okC = true := Cn.all_yes fun i hi => hI i hi (by omega)
      refine C.exit ?_
      refine hK4 _ _ ?_
      refine hK2 _ _ ?_
      refine C.seqK fun K13 hK13 => ?_
      refine C.region ?_
      refine O.mv ?_
      refine O.lenS Tryz.underlying9 s0_1 ?_
      refine O.geqI rfl rfl ?_
      refine O.mv ?_
      refine O.cut 4 (fun f f' => f' 26 = .bool (decide ((s.length : Int) ≥ 1 ∧ (s.length : Int) ≤ 64)) ∧ f' 0 = f 0) ?_ ?_
      ·
        refine O.splitD (x := .tmp 22) rfl (fun c22 => ?_) (fun c22 => ?_)
        ·
          refine O.yes rfl (isT rfl c22) ?_
          refine O.mv ?_
          refine O.yes rfl (isT rfl c22) ?_
          refine O.lenS Tryz.underlying9 s0_1 ?_
          refine O.yes rfl (isT rfl c22) ?_
          refine O.leqI rfl rfl ?_
          refine O.pickT (isT rfl c22) ?_
          refine O.nil ?_
          refine ⟨⟨?_, rfl⟩, rfl⟩
          first | exact rfl | exact Eq.trans rfl (congrArg Value.bool (dAnd (by assumption))) | exact Eq.trans rfl (congrArg Value.bool (dAndF (by assumption))) | exact Eq.trans rfl (congrArg Value.bool (dOr (by assumption))) | exact Eq.trans rfl (congrArg Value.bool (dOrT (by assumption)))
        ·
          refine O.no rfl (noB (isF rfl c22) rfl) ?_
          refine O.no rfl (noB (isF rfl c22) rfl) ?_
          refine O.no rfl (noB (isF rfl c22) rfl) ?_
          refine O.pickF (isF rfl c22) ?_
          refine O.nil ?_
          refine ⟨⟨?_, rfl⟩, rfl⟩
          first | exact rfl | exact Eq.trans rfl (congrArg Value.bool (dAnd (by assumption))) | exact Eq.trans rfl (congrArg Value.bool (dAndF (by assumption))) | exact Eq.trans rfl (congrArg Value.bool (dOr (by assumption))) | exact Eq.trans rfl (congrArg Value.bool (dOrT (by assumption)))
      ·
        rintro f_2 ⟨s26_2, s0_2⟩
        refine O.mv ?_
        refine O.splitD (x := .tmp 27) s26_2 (fun c27 => ?_) (fun c27 => ?_)
        ·
          refine O.yes rfl (isT s26_2 c27) ?_
          refine O.mv ?_
          refine O.yes rfl (isT s26_2 c27) ?_
          refine O.call Tryz.call113 (args2 (Eq.trans s0_2 s0_1) rfl) (trim_spec s _ (by omega)) ?_
          rintro v_29 w3 ⟨rfl, e3⟩
          have z3 := e3.size
          refine O.yes rfl (isT s26_2 c27) ?_
          refine O.mv ?_
          refine O.yes rfl (isT s26_2 c27) ?_
          refine O.eqlS rfl (Eq.trans s0_2 s0_1) ?_
          refine O.pickT (isT s26_2 c27) ?_
          refine O.mv ?_
          refine O.splitD (x := .tmp 33) rfl (fun c33 => ?_) (fun c33 => ?_)
          ·
            refine O.yes rfl (isT rfl c33) ?_
            refine O.mv ?_
            refine O.yes rfl (isT rfl c33) ?_
            refine O.call Tryz.call114 (args2 (Eq.trans s0_2 s0_1) rfl) (has2_spec s _ (by omega) (((mx.keep e1).keep e_1).keep e3)) ?_
            rintro v_35 w4 ⟨rfl, e4⟩
            have z4 := e4.size
            refine O.yes rfl (isT rfl c33) ?_
            refine O.not rfl ?_
            refine O.pickT (isT rfl c33) ?_
            refine O.asg ?_
            refine O.nil ?_
            refine hK13 _ _ ?_
            refine C.ret ?_
            refine Outs.one rfl rfl ?_
            first
            | exact ⟨congrArg Value.bool (Cn.okName_all hk2 (Cn.okC_lo c14)).symm, (Ext.trans (Ext.trans (Ext.trans e1 e_1) e3) e4)⟩
            | exact ⟨congrArg Value.bool (Cn.okName_all hk2 (Cn.okC_hi c17)).symm, (Ext.trans (Ext.trans (Ext.trans e1 e_1) e3) e4)⟩
            | (refine ⟨congrArg Value.bool ?_, (Ext.trans (Ext.trans (Ext.trans e1 e_1) e3) e4)⟩
               unfold Cn.okName
               rw [hall]
               first
               | (rw [decide_eq_false (p := 1 ≤ s.length ∧ s.length ≤ 64) (by omega)]; rfl)
               | (rw [decide_eq_true (p := 1 ≤ s.length ∧ s.length ≤ 64) (by omega), decide_eq_false c33]; rfl)
               | (rw [decide_eq_true (p := 1 ≤ s.length ∧ s.length ≤ 64) (by omega), decide_eq_true c33]; rfl))
          ·
            refine O.no rfl (noB (isF rfl c33) rfl) ?_
            refine O.no rfl (noB (isF rfl c33) rfl) ?_
            refine O.no rfl (noB (isF rfl c33) rfl) ?_
            refine O.pickF (isF rfl c33) ?_
            refine O.asg ?_
            refine O.nil ?_
            refine hK13 _ _ ?_
            refine C.ret ?_
            refine Outs.one rfl rfl ?_
            first
            | exact ⟨congrArg Value.bool (Cn.okName_all hk2 (Cn.okC_lo c14)).symm, (Ext.trans (Ext.trans e1 e_1) e3)⟩
            | exact ⟨congrArg Value.bool (Cn.okName_all hk2 (Cn.okC_hi c17)).symm, (Ext.trans (Ext.trans e1 e_1) e3)⟩
            | (refine ⟨congrArg Value.bool ?_, (Ext.trans (Ext.trans e1 e_1) e3)⟩
               unfold Cn.okName
               rw [hall]
               first
               | (rw [decide_eq_false (p := 1 ≤ s.length ∧ s.length ≤ 64) (by omega)]; rfl)
               | (rw [decide_eq_true (p := 1 ≤ s.length ∧ s.length ≤ 64) (by omega), decide_eq_false c33]; rfl)
               | (rw [decide_eq_true (p := 1 ≤ s.length ∧ s.length ≤ 64) (by omega), decide_eq_true c33]; rfl))
        ·
          refine O.no rfl (noB (isF s26_2 c27) rfl) ?_
          refine O.no rfl (noB (isF s26_2 c27) rfl) ?_
          refine O.no rfl (noB (isF s26_2 c27) rfl) ?_
          refine O.no rfl (noB (isF s26_2 c27) rfl) ?_
          refine O.pickF (isF s26_2 c27) ?_
          refine O.mv ?_
          refine O.no rfl (noB rfl rfl) ?_
          refine O.no rfl (noB rfl rfl) ?_
          refine O.no rfl (noB rfl rfl) ?_
          refine O.pickF rfl ?_
          refine O.asg ?_
          refine O.nil ?_
          refine hK13 _ _ ?_
          refine C.ret ?_
          refine Outs.one rfl rfl ?_
          first
          | exact ⟨congrArg Value.bool (Cn.okName_all hk2 (Cn.okC_lo c14)).symm, (Ext.trans e1 e_1)⟩
          | exact ⟨congrArg Value.bool (Cn.okName_all hk2 (Cn.okC_hi c17)).symm, (Ext.trans e1 e_1)⟩
          | (refine ⟨congrArg Value.bool ?_, (Ext.trans e1 e_1)⟩
             unfold Cn.okName
             rw [hall]
             first
             | (rw [decide_eq_false (p := 1 ≤ s.length ∧ s.length ≤ 64) (by omega)]; rfl)
             | (rw [decide_eq_true (p := 1 ≤ s.length ∧ s.length ≤ 64) (by omega), decide_eq_false c33]; rfl)
             | (rw [decide_eq_true (p := 1 ≤ s.length ∧ s.length ≤ 64) (by omega), decide_eq_true c33]; rfl))

theorem badI_spec (x : ItemT) (vm : Value) (F : Nat → Prop) (w : World) (hm : Sl markF.enc w F vm x.2) (q1 : x.1.length ≤ 1000000) (q2 : x.2.length ≤ 1000000) (mx : Mx w) :
    Ret Tryz.prog 68 #[.agg #[str x.1, vm]] w (fun v w' => v = .bool (Cn.badI x) ∧ Le w w') := by
  refine enter (args := [.agg #[str x.1, vm]]) (n := 24) Tryz.func68 rfl rfl (Nat.le_of_ble_eq_true rfl) ?_
  refine C.seqK fun K1 hK1 => ?_
  refine C.region ?_
  refine O.box (v := .agg #[str x.1, vm]) rfl (fun b1 w1 hb1 hz1 e1 => ?_)
  have z1 := e1.size
  have h1 := hz1.own
  have hl1 := h1.lt
  refine O.asg ?_
  refine O.nil ?_
  refine hK1 _ _ ?_
  refine C.seqK fun K2 hK2 => ?_
  refine C.region ?_
  refine O.fieldAd Tryz.underlying56 rfl Tryz.sizeOf9 (by decide) rfl ?_
  refine O.loadO Tryz.isAgg9 rfl h1 rfl ?_
  refine O.call Tryz.call92 (args1 rfl) (okName_spec x.1 _ q1 (mx.keep e1)) ?_
  rintro v_5 w2 ⟨rfl, e2⟩
  have z2 := e2.size
  refine O.not rfl ?_
  refine O.mv ?_
  refine O.split (x := .tmp 7) rfl (fun c7 => ?_) (fun c7 => ?_)
  ·
    refine O.no rfl (noB (isT' rfl c7) rfl) ?_
    refine O.no rfl (noB (isT' rfl c7) rfl) ?_
    refine O.no rfl (noB (isT' rfl c7) rfl) ?_
    refine O.no rfl (noB (isT' rfl c7) rfl) ?_
    refine O.pickT (isT' rfl c7) ?_
    refine O.mv ?_
    refine O.no rfl (noB rfl rfl) ?_
    refine O.no rfl (noB rfl rfl) ?_
    refine O.no rfl (noB rfl rfl) ?_
    refine O.no rfl (noB rfl rfl) ?_
    refine O.pickT rfl ?_
    refine O.mv ?_
    refine O.no rfl (noB rfl rfl) ?_
    refine O.no rfl (noB rfl rfl) ?_
    refine O.no rfl (noB rfl rfl) ?_
    refine O.pickT rfl ?_
    refine O.asg ?_
    refine O.nil ?_
    refine hK2 _ _ ?_
    refine C.ret ?_
    refine Outs.one rfl rfl ?_
    refine ⟨congrArg Value.bool ?_, (Ext.trans e1 e2)⟩
    unfold Cn.badI
    first
    | (rw [c7]; rfl)
    | (rw [c7, decide_eq_true (p := x.2.length = 0) (by omega)]; rfl)
    | (rw [c7, decide_eq_false (p := x.2.length = 0) (by omega), c19]; rfl)
  ·
    refine O.yes rfl (isF' rfl c7) ?_
    refine O.fieldAd Tryz.underlying56 rfl Tryz.sizeOf54 (by decide) rfl ?_
    refine O.yes rfl (isF' rfl c7) ?_
    refine O.loadO Tryz.isAgg54 rfl (h1.keep e2) rfl ?_
    refine O.yes rfl (isF' rfl c7) ?_
    refine O.len Tryz.underlying54 rfl ((hm.keep e1).keep e2) ?_
    refine O.yes rfl (isF' rfl c7) ?_
    refine O.eqlI rfl rfl ?_
    refine O.pickF (isF' rfl c7) ?_
    refine O.mv ?_
    refine O.splitD (x := .tmp 13) rfl (fun c13 => ?_) (fun c13 => ?_)
    ·
      refine O.no rfl (noB (isT rfl c13) rfl) ?_
      refine O.no rfl (noB (isT rfl c13) rfl) ?_
      refine O.no rfl (noB (isT rfl c13) rfl) ?_
      refine O.no rfl (noB (isT rfl c13) rfl) ?_
      refine O.pickT (isT rfl c13) ?_
      refine O.mv ?_
      refine O.no rfl (noB rfl rfl) ?_
      refine O.no rfl (noB rfl rfl) ?_
      refine O.no rfl (noB rfl rfl) ?_
      refine O.pickT rfl ?_
      refine O.asg ?_
      refine O.nil ?_
      refine hK2 _ _ ?_
      refine C.ret ?_
      refine Outs.one rfl rfl ?_
      refine ⟨congrArg Value.bool ?_, (Ext.trans e1 e2)⟩
      unfold Cn.badI
      first
      | (rw [c7]; rfl)
      | (rw [c7, decide_eq_true (p := x.2.length = 0) (by omega)]; rfl)
      | (rw [c7, decide_eq_false (p := x.2.length = 0) (by omega), c19]; rfl)
    ·
      refine O.yes rfl (isF rfl c13) ?_
      refine O.fieldAd Tryz.underlying56 rfl Tryz.sizeOf54 (by decide) rfl ?_
      refine O.yes rfl (isF rfl c13) ?_
      refine O.loadO Tryz.isAgg54 rfl (h1.keep e2) rfl ?_
      refine O.yes rfl (isF rfl c13) ?_
      refine O.call Tryz.call93 (args1 rfl) (isList_spec _ x.2 _ _ ((hm.keep e1).keep e2) q2) ?_
      rintro v_16 w3 ⟨rfl, e3⟩
      have z3 := e3.size
      refine O.yes rfl (isF rfl c13) ?_
      refine O.not rfl ?_
      refine O.pickF (isF rfl c13) ?_
      refine O.mv ?_
      refine O.split (x := .tmp 19) rfl (fun c19 => ?_) (fun c19 => ?_)
      ·
        refine O.no rfl (noB (isT' rfl c19) rfl) ?_
        refine O.no rfl (noB (isT' rfl c19) rfl) ?_
        refine O.no rfl (noB (isT' rfl c19) rfl) ?_
        refine O.pickT (isT' rfl c19) ?_
        refine O.asg ?_
        refine O.nil ?_
        refine hK2 _ _ ?_
        refine C.ret ?_
        refine Outs.one rfl rfl ?_
        refine ⟨congrArg Value.bool ?_, (Ext.trans (Ext.trans e1 e2) e3)⟩
        unfold Cn.badI
        first
        | (rw [c7]; rfl)
        | (rw [c7, decide_eq_true (p := x.2.length = 0) (by omega)]; rfl)
        | (rw [c7, decide_eq_false (p := x.2.length = 0) (by omega), c19]; rfl)
      ·
        refine O.yes rfl (isF' rfl c19) ?_
        refine O.fieldAd Tryz.underlying56 rfl Tryz.sizeOf54 (by decide) rfl ?_
        refine O.yes rfl (isF' rfl c19) ?_
        refine O.loadO Tryz.isAgg54 rfl ((h1.keep e2).keep e3) rfl ?_
        refine O.yes rfl (isF' rfl c19) ?_
        refine O.call Tryz.call94 (args2 rfl rfl) (containsM_spec _ _ _ _ (fun _ => False) Cn.badM _ (((hm.keep e1).keep e2).keep e3) (pred_mbad _ _)) ?_
        rintro v_22 w4 ⟨rfl, e4⟩
        have z4 := e4.size
        refine O.pickF (isF' rfl c19) ?_
        refine O.asg ?_
        refine O.nil ?_
        refine hK2 _ _ ?_
        refine C.ret ?_
        refine Outs.one rfl rfl ?_
        refine ⟨congrArg Value.bool ?_, (Ext.trans (Ext.trans (Ext.trans e1 e2) e3) e4)⟩
        unfold Cn.badI
        first
        | (rw [c7]; rfl)
        | (rw [c7, decide_eq_true (p := x.2.length = 0) (by omega)]; rfl)
        | (rw [c7, decide_eq_false (p := x.2.length = 0) (by omega), c19]; rfl)

set_option maxHeartbeats 1000000 in
theorem idots_spec (v0 : Value) (l : List ItemT) (F : Nat → Prop) (w : World) (hl : Sl itemE w F v0 l) (hF : ∀ k, F k → k < w.heap.size) (hn : l.length ≤ 1000000) (hS : ∀ x ∈ l, x.1.length ≤ 1000000 ∧ x.2.length ≤ 1000000) :
    Ret Tryz.prog 47 #[v0] w (fun v w' => Le w w' ∧ OwnF Dt.dotF 51 w.heap.size w' v (Cn.dotsOf l)) := by
  have hle := hl.le
  obtain ⟨ie51, ti51, ts51, tb51, tz51⟩ := inf51
  refine enter (args := [v0]) (n := 20) Tryz.func47 rfl rfl (Nat.le_of_ble_eq_true rfl) ?_
  refine C.seqK fun K1 hK1 => ?_
  refine C.region ?_
  refine O.asg ?_
  refine O.nil ?_
  refine hK1 _ _ ?_
  refine C.seqK fun K2 hK2 => ?_
  refine C.region ?_
  refine O.asg ?_
  refine O.nil ?_
  refine hK2 _ _ ?_
  refine C.seqK fun K3 hK3 => ?_
  refine C.seqK fun K4 hK4 => ?_
  refine C.region ?_
  refine O.mv ?_
  refine O.len Tryz.underlying26 rfl hl ?_
  refine O.mv ?_
  refine O.nil ?_
  refine hK4 _ _ ?_
  refine C.block fun K5 hK5 => ?_
  refine C.loop0 (σ := Nat × Value) (fun f0 w0 ⟨k, o⟩ f wz => f 3 = o ∧ f 8 = .int .i64 (k) ∧ f 2 = f0 2 ∧ f 6 = f0 6 ∧ f 7 = f0 7 ∧ Le w wz ∧ OwnF Dt.dotF 51 w.heap.size wz o ((l.take k).flatMap fun x => Cn.mdots x.2) ∧ k ≤ l.length) (fun ⟨k, o⟩ => l.length - k) (0, .slice none 0 0) ?_ ?_
  ·
    refine ⟨rfl, rfl, rfl, rfl, rfl, (Le.refl _), (OwnF.nil _ _ _ _), ?_⟩
    exact Nat.zero_le _
  ·
    rintro ⟨k, o⟩ f_1 w1 ⟨s3_1, s8_1, s2_1, s6_1, s7_1, e_1, r0_1, hk⟩
    have z_1 := e_1.size
    have r0_1s := r0_1.sl
    have hlk : ((l.take k).flatMap fun x => Cn.mdots x.2).length ≤ k * 1000000 := Cn.flat_take (b := 1000000) (fun x hx => (hS x hx).2) hk
    refine C.seqK fun K6 hK6 => ?_
    refine C.region ?_
    refine O.lssI s8_1 s7_1 ?_
    refine O.nil ?_
    refine hK6 _ _ ?_
    refine C.seqK fun K7 hK7 => ?_
    refine C.condD rfl (fun c9 => ?_) (fun c9 => ?_)
    ·
      have hk2 : k < l.length := by omega
      refine C.skip ?_
      refine hK7 _ _ ?_
      refine C.seqK fun K8 hK8 => ?_
      refine C.block fun K9 hK9 => ?_
      refine C.seqK fun K10 hK10 => ?_
      refine C.region ?_
      refine O.idx Tryz.underlying26 Tryz.sizeOf56 rfl s6_1 (hl.keep e_1) s8_1 (by omega) (fun a10 h10 => ?_)
      refine O.loadE (E := itemE) Tryz.isAgg56 Tryz.sizeOf56 rfl rfl h10 (fun cs11 hcs11 => ?_)
      obtain ⟨vm11, rfl, hm11⟩ := hcs11
      obtain ⟨u, hu⟩ : ∃ u : ItemT, u = l[k] := ⟨_, rfl⟩
      have hSu := hS u (by rw [hu]; exact List.getElem_mem _)
      refine O.cast (v' := .agg #[str u.1, vm11]) (by rw [hu]; rfl) ?_
      have hm11 : Sl markF.enc w1 F vm11 u.2 := by rw [hu]; exact hm11
      refine O.alloc Tryz.zeroValue56 (fun b5 w2 hb5 hz5 e2 => ?_)
      have z2 := e2.size
      have h5 := hz5.own
      have hl5 := h5.lt
      refine O.storeA (vs := [str u.1, vm11]) Tryz.sizeOf56 rfl rfl rfl (ones2 hm11.oneC) h5 (Nat.le_of_ble_eq_true rfl) (fun w3 hs3 e3 z3 => ?_)
      refine O.nil ?_
      refine hK10 _ _ ?_
      refine C.region ?_
      refine O.mv ?_
      refine O.fieldAd Tryz.underlying56 rfl Tryz.sizeOf54 (by decide) rfl ?_
      refine O.loadO Tryz.isAgg54 rfl hs3 rfl ?_
      refine O.call Tryz.call73 (args1 rfl) (qdots_spec _ u.2 _ _ ((hm11.keep e2).keepM e3 (by intro k hk h; first | (have q1 := hF k hk; (try dsimp only at h); omega) | (have q1 := hF2 k hk; (try dsimp only at h); omega) | (have q1 := hFb k hk; (try dsimp only at h); omega) | ((try dsimp only at hk); (try dsimp only at h); omega))) (by omega)) ?_
      rintro v_15 w4 ⟨e4, h15⟩
      have z4 := e4.size
      have h15s := h15.sl
      have hlu : (Cn.mdots u.2).length = u.2.length := by unfold Cn.mdots; simp
      refine O.appF (G := Dt.dotF) Tryz.underlying22 ti51 tz51 ts51 rfl s3_1 rfl (((r0_1.keep e2).keepM e3 (fun k hk h => by have := r0_1.bk_ge k hk; (try dsimp only at h); omega)).keep e4) h15s (by rw [tb51]; omega) (by unfold maxLen; omega) (by omega) (fun v16 w5 h16 e5 => ?_)
      have z5 := e5.size
      have h16s := h16.sl
      refine O.asg ?_
      refine O.nil ?_
      refine hK9 _ _ ?_
      refine hK8 _ _ ?_
      refine C.region ?_
      refine O.addI s8_1 rfl (by unfold InI; omega) ?_
      refine O.mv ?_
      refine O.nil ?_
      refine ⟨(k + 1, _), ⟨rfl, rfl, s2_1, s6_1, s7_1, (Ext.new (Ext.trans (Ext.new (Ext.trans e_1 e2) e3 (by rintro i hi rfl; omega)) e4) e5 (by intro i hi h; have := (((r0_1.keep e2).keepM e3 (fun k hk h => by have := r0_1.bk_ge k hk; (try dsimp only at h); omega)).keep e4).bk_ge i h; omega)), (by rw [show (l.take (k + 1)).flatMap (fun x => Cn.mdots x.2) = (l.take k).flatMap (fun x => Cn.mdots x.2) ++ Cn.mdots u.2 from by rw [hu]; exact Cn.flatMap_take _ hk2]; exact h16), ?_⟩, by first | omega | (simp only []; omega)⟩
      omega
    ·
      refine C.exit ?_
      refine hK5 _ _ ?_
      refine hK3 _ _ ?_
      refine C.seqK fun K11 hK11 => ?_
      refine C.region ?_
      refine O.mv ?_
      refine O.call Tryz.call70 (args1 s3_1) (set_spec _ ((l.take k).flatMap fun x => Cn.mdots x.2) _ _ r0_1s (by omega)) ?_
      rintro v_19 w6 ⟨e6, h19⟩
      have z6 := e6.size
      refine O.asg ?_
      refine O.nil ?_
      refine hK11 _ _ ?_
      refine C.ret ?_
      refine Outs.one rfl rfl ?_
      obtain rfl : k = l.length := by omega
      rw [List.take_length] at h19
      exact ⟨(Ext.trans e_1 e6), h19.low (by omega)⟩

set_option maxHeartbeats 1000000 in
theorem itemsValid_spec (v0 : Value) (l : List ItemT) (F : Nat → Prop) (w : World) (hl : Sl itemE w F v0 l) (hF : ∀ k, F k → k < w.heap.size) (hn : l.length ≤ 1000000) (hS : ∀ x ∈ l, x.1.length ≤ 1000000 ∧ x.2.length ≤ 1000000) (mx : Mx w) :
    Ret Tryz.prog 45 #[v0] w (fun v w' => v = .bool (Cn.itemsValid l) ∧ Le w w') := by
  have hle := hl.le
  refine enter (args := [v0]) (n := 41) Tryz.func45 rfl rfl (Nat.le_of_ble_eq_true rfl) ?_
  refine C.seqK fun K1 hK1 => ?_
  refine C.region ?_
  refine O.asg ?_
  refine O.nil ?_
  refine hK1 _ _ ?_
  refine C.seqK fun K2 hK2 => ?_
  refine C.region ?_
  refine O.asg ?_
  refine O.nil ?_
  refine hK2 _ _ ?_
  refine C.seqK fun K3 hK3 => ?_
  refine C.seqK fun K4 hK4 => ?_
  refine C.region ?_
  refine O.mv ?_
  refine O.len Tryz.underlying26 rfl hl ?_
  refine O.mv ?_
  refine O.nil ?_
  refine hK4 _ _ ?_
  refine C.block fun K5 hK5 => ?_
  refine C.loop0 (σ := Nat) (fun f0 w0 k f wz => f 3 = .int .i64 ((Cn.count (l.take k) : Nat)) ∧ f 8 = .int .i64 (k) ∧ f 0 = f0 0 ∧ f 6 = f0 6 ∧ f 7 = f0 7 ∧ Le w wz ∧ k ≤ l.length ∧ (∀ i, ∀ h : i < l.length, i < k → Cn.badI l[i] = false) ∧ ∀ i, ∀ h : i + 1 < l.length, i + 1 < k → Op.bytesLess l[i].1 l[i + 1].1 = true) (fun k => l.length - k) 0 ?_ ?_
  ·
    refine ⟨(Eq.trans rfl rfl), rfl, rfl, rfl, rfl, (Le.refl _), ?_⟩
    exact ⟨Nat.zero_le _, fun i h k => absurd k (Nat.not_lt_zero _), fun i h k => absurd k (Nat.not_lt_zero _)⟩
  ·
    rintro k f_1 w1 ⟨s3_1, s8_1, s0_1, s6_1, s7_1, e_1, ⟨hk, hI, hJ⟩⟩
    have z_1 := e_1.size
    have hck : Cn.count (l.take k) ≤ k * 1000000 := Cn.count_take_le (b := 1000000) (fun x hx => (hS x hx).2) hk
    refine C.seqK fun K6 hK6 => ?_
    refine C.region ?_
    refine O.lssI s8_1 s7_1 ?_
    refine O.nil ?_
    refine hK6 _ _ ?_
    refine C.seqK fun K7 hK7 => ?_
    refine C.condD rfl (fun c9 => ?_) (fun c9 => ?_)
    ·
      have hk2 : k < l.length := by omega
      refine C.skip ?_
      refine hK7 _ _ ?_
      refine C.seqK fun K8 hK8 => ?_
      refine C.block fun K9 hK9 => ?_
      refine C.seqK fun K10 hK10 => ?_
      refine C.region ?_
      refine O.mv ?_
      refine O.idx Tryz.underlying26 Tryz.sizeOf56 rfl s6_1 (hl.keep e_1) s8_1 (by omega) (fun a11 h11 => ?_)
      refine O.loadE (E := itemE) Tryz.isAgg56 Tryz.sizeOf56 rfl rfl h11 (fun cs12 hcs12 => ?_)
      obtain ⟨vm12, rfl, hm12⟩ := hcs12
      obtain ⟨u, hu⟩ : ∃ u : ItemT, u = l[k] := ⟨_, rfl⟩
      have hSu := hS u (by rw [hu]; exact List.getElem_mem _)
      refine O.cast (v' := .agg #[str u.1, vm12]) (by rw [hu]; rfl) ?_
      have hm12 : Sl markF.enc w1 F vm12 u.2 := by rw [hu]; exact hm12
      refine O.alloc Tryz.zeroValue56 (fun b5 w2 hb5 hz5 e2 => ?_)
      have z2 := e2.size
      have h5 := hz5.own
      have hl5 := h5.lt
      refine O.asg ?_
      refine O.storeA (vs := [str u.1, vm12]) Tryz.sizeOf56 rfl rfl rfl (ones2 hm12.oneC) h5 (Nat.le_of_ble_eq_true rfl) (fun w3 hs3 e3 z3 => ?_)
      refine O.nil ?_
      refine hK10 _ _ ?_
      refine C.seqK fun K11 hK11 => ?_
      refine C.seqK fun K12 hK12 => ?_
      refine C.draw (by kernel_rfl) fun w4 e4 => ?_
      have z4 := e4.size
      refine D.take (i := 0) rfl rfl rfl rfl (by kernel_rfl) (Le.refl _) ⟨_, rfl⟩ (fun w_ hw_ N_ hN => (O.loadOA Tryz.isAgg56 Tryz.sizeOf56 rfl ((hs3.keep e4).keep hw_) (Nat.le_of_ble_eq_true rfl) (O.nil hN))) ?_
      refine D.one (i := 1) rfl rfl (by kernel_rfl) ?_
      refine O.call Tryz.call68 (args1 rfl) (badI_spec u vm12 F _ (((hm12.keep e2).keepM e3 (by intro k hk h; first | (have q1 := hF k hk; (try dsimp only at h); omega) | (have q1 := hF2 k hk; (try dsimp only at h); omega) | (have q1 := hFb k hk; (try dsimp only at h); omega) | ((try dsimp only at hk); (try dsimp only at h); omega))).keep e4) hSu.1 (by omega) (mx.keep (Ext.trans (Ext.new (Ext.trans e_1 e2) e3 (by rintro i hi rfl; omega)) e4))) ?_
      rintro v_14 w5 ⟨rfl, e5⟩
      have z5 := e5.size
      refine O.nil ⟨e5, ?_⟩
      refine D.take (i := 2) rfl rfl rfl rfl (by kernel_rfl) e5 ⟨pure _, rfl⟩ (fun w_ hw_ N_ hN => (O.mv (O.nil hN))) ?_
      refine D.split (x := .tmp 15) rfl (fun c15 => ?_) (fun c15 => ?_)
      ·
        refine D.takeNo (i := 3) rfl rfl (by kernel_rfl) e5 rfl (noB (isT' rfl c15) rfl) ?_
        refine D.takeNo (i := 4) rfl rfl (by kernel_rfl) e5 rfl (noB (isT' rfl c15) rfl) ?_
        refine D.takeNo (i := 5) rfl rfl (by kernel_rfl) e5 rfl (noB (isT' rfl c15) rfl) ?_
        refine D.takeNo (i := 6) rfl rfl (by kernel_rfl) e5 rfl (noU rfl) ?_
        refine D.takeNo (i := 7) rfl rfl (by kernel_rfl) e5 rfl (noU rfl) ?_
        refine D.takeNo (i := 8) rfl rfl (by kernel_rfl) e5 rfl (noU rfl) ?_
        refine D.takeNo (i := 9) rfl rfl (by kernel_rfl) e5 rfl (noU rfl) ?_
        refine D.takeNo (i := 10) rfl rfl (by kernel_rfl) e5 rfl (noU rfl) ?_
        refine D.takeNo (i := 11) rfl rfl (by kernel_rfl) e5 rfl (noU rfl) ?_
        refine D.takeNo (i := 12) rfl rfl (by kernel_rfl) e5 rfl (noU rfl) ?_
        refine D.takeNo (i := 13) rfl rfl (by kernel_rfl) e5 rfl (noU rfl) ?_
        refine D.takeNo (i := 14) rfl rfl (by kernel_rfl) e5 rfl (noU rfl) ?_
        refine D.takeNo (i := 15) rfl rfl (by kernel_rfl) e5 rfl (noB (isT' rfl c15) rfl) ?_
        refine D.take (i := 16) rfl rfl rfl rfl (by kernel_rfl) e5 pick_form (fun w_ hw_ N_ hN => (O.pickT (isT' rfl c15) (O.nil hN))) ?_
        refine D.done (by kernel_rfl) ?_
        refine hK12 _ _ ?_
        refine C.condT rfl ?_
        refine C.seqK fun K13 hK13 => ?_
        refine C.region ?_
        refine O.asg ?_
        refine O.nil ?_
        refine hK13 _ _ ?_
        refine C.ret ?_
        refine Outs.one rfl rfl ?_
        first
        | (refine ⟨congrArg Value.bool ?_, (Ext.trans (Ext.trans (Ext.new (Ext.trans e_1 e2) e3 (by rintro i hi rfl; omega)) e4) e5)⟩
           have q : l.any Cn.badI = true := Cn.any_yes hk2 (by rw [← hu]; exact c15)
           unfold Cn.itemsValid
           rw [q]
           rfl)
        | (refine ⟨congrArg Value.bool ?_, (Ext.trans (Ext.trans (Ext.new (Ext.trans e_1 e2) e3 (by rintro i hi rfl; omega)) e4) e5)⟩
           have q : Cn.names l = false := Cn.adj_no (j := k - 1) hk2 (by omega) (by omega) (by rw [← hu]; simpa using c29)
           unfold Cn.itemsValid
           rw [q, Bool.false_and, Bool.and_false])
        | (refine ⟨congrArg Value.bool ?_, (Ext.trans (Ext.trans (Ext.new (Ext.trans e_1 e2) e3 (by rintro i hi rfl; omega)) e4) e5)⟩
           obtain rfl : k = l.length := by omega
           have q1 : l.any Cn.badI = false := Cn.any_no fun i hi => hI i hi hi
           have q2 : Cn.names l = true := Cn.adj_yes fun i hi => hJ i hi hi
           unfold Cn.itemsValid
           rw [q1, q2, List.take_length]
           exact decide_eq_decide.2 Int.ofNat_inj)
      ·
        refine D.takeYes (i := 3) rfl rfl rfl (by kernel_rfl) rfl (isF' rfl c15) e5 ⟨pure _, rfl⟩ (fun w_ hw_ N_ hN => (O.mv (O.nil hN))) ?_
        refine D.takeYes (i := 4) rfl rfl rfl (by kernel_rfl) rfl (isF' rfl c15) e5 ⟨_, rfl⟩ (fun w_ hw_ N_ hN => (O.gtrI s8_1 rfl (O.nil hN))) ?_
        refine D.takeYes (i := 5) rfl rfl rfl (by kernel_rfl) rfl (isF' rfl c15) e5 ⟨pure _, rfl⟩ (fun w_ hw_ N_ hN => (O.mv (O.nil hN))) ?_
        refine D.splitD (x := .tmp 18) rfl (fun c18 => ?_) (fun c18 => ?_)
        ·
          have x1 : ((k : Int) - 1).toNat = k - 1 := by omega
          have hk3 : k - 1 + 1 = k := by omega
          refine D.takeYes (i := 6) rfl rfl rfl (by kernel_rfl) rfl (isT rfl c18) e5 ⟨pure _, rfl⟩ (fun w_ hw_ N_ hN => (O.mv (O.nil hN))) ?_
          refine D.takeYes (i := 7) rfl rfl rfl (by kernel_rfl) rfl (isT rfl c18) e5 ⟨pure _, rfl⟩ (fun w_ hw_ N_ hN => (O.mv (O.nil hN))) ?_
          refine D.takeYes (i := 8) rfl rfl rfl (by kernel_rfl) rfl (isT rfl c18) e5 ⟨_, rfl⟩ (fun w_ hw_ N_ hN => (O.subI s8_1 rfl (by unfold InI; omega) (O.nil hN))) ?_
          obtain ⟨a22, h22, hr22⟩ := Sl.at (i := (k : Int) - 1) (P := Tryz.prog) Tryz.underlying26 Tryz.sizeOf56 rfl (hl.keep (Ext.trans (Ext.new (Ext.trans e_1 e2) e3 (by rintro i hi rfl; omega)) e4)) (by omega)
          refine D.takeYes (i := 9) rfl rfl rfl (by kernel_rfl) rfl (isT rfl c18) e5 ⟨_, rfl⟩ (fun w_ hw_ N_ hN => (O.idxR s0_1 rfl hr22 (O.nil hN))) ?_
          refine D.takeYes (i := 10) rfl rfl rfl (by kernel_rfl) rfl (isT rfl c18) e5 ⟨_, rfl⟩ (fun w_ hw_ N_ hN => (O.fieldAt Tryz.underlying56 rfl Tryz.sizeOf9 (by decide) rfl (O.nil hN))) ?_
          refine D.takeYes (i := 11) rfl rfl rfl (by kernel_rfl) rfl (isT rfl c18) e5 ⟨_, rfl⟩ (fun w_ hw_ N_ hN => (O.loadName Tryz.isAgg9 rfl (h22.keep hw_) (O.nil hN))) ?_
          refine D.takeYes (i := 12) rfl rfl rfl (by kernel_rfl) rfl (isT rfl c18) e5 ⟨_, rfl⟩ (fun w_ hw_ N_ hN => (O.fieldAd Tryz.underlying56 rfl Tryz.sizeOf9 (by decide) rfl (O.nil hN))) ?_
          refine D.takeYes (i := 13) rfl rfl rfl (by kernel_rfl) rfl (isT rfl c18) e5 ⟨_, rfl⟩ (fun w_ hw_ N_ hN => (O.loadO Tryz.isAgg9 rfl ((hs3.keep e4).keep hw_) rfl (O.nil hN))) ?_
          refine D.takeYes (i := 14) rfl rfl rfl (by kernel_rfl) rfl (isT rfl c18) e5 ⟨_, rfl⟩ (fun w_ hw_ N_ hN => (O.geqS rfl rfl (O.nil hN))) ?_
          refine D.takeYes (i := 15) rfl rfl rfl (by kernel_rfl) rfl (isF' rfl c15) e5 pick_form (fun w_ hw_ N_ hN => (O.pickT (isT rfl c18) (O.nil hN))) ?_
          refine D.take (i := 16) rfl rfl rfl rfl (by kernel_rfl) e5 pick_form (fun w_ hw_ N_ hN => (O.pickF (isF' rfl c15) (O.nil hN))) ?_
          refine D.done (by kernel_rfl) ?_
          refine hK12 _ _ ?_
          refine C.cond rfl (fun c29 => ?_) (fun c29 => ?_)
          ·
            try simp only [x1] at c29
            refine C.seqK fun K14 hK14 => ?_
            refine C.region ?_
            refine O.asg ?_
            refine O.nil ?_
            refine hK14 _ _ ?_
            refine C.ret ?_
            refine Outs.one rfl rfl ?_
            first
            | (refine ⟨congrArg Value.bool ?_, (Ext.trans (Ext.trans (Ext.new (Ext.trans e_1 e2) e3 (by rintro i hi rfl; omega)) e4) e5)⟩
               have q : l.any Cn.badI = true := Cn.any_yes hk2 (by rw [← hu]; exact c15)
               unfold Cn.itemsValid
               rw [q]
               rfl)
            | (refine ⟨congrArg Value.bool ?_, (Ext.trans (Ext.trans (Ext.new (Ext.trans e_1 e2) e3 (by rintro i hi rfl; omega)) e4) e5)⟩
               have q : Cn.names l = false := Cn.adj_no (j := k - 1) hk2 (by omega) (by omega) (by rw [← hu]; simpa using c29)
               unfold Cn.itemsValid
               rw [q, Bool.false_and, Bool.and_false])
            | (refine ⟨congrArg Value.bool ?_, (Ext.trans (Ext.trans (Ext.new (Ext.trans e_1 e2) e3 (by rintro i hi rfl; omega)) e4) e5)⟩
               obtain rfl : k = l.length := by omega
               have q1 : l.any Cn.badI = false := Cn.any_no fun i hi => hI i hi hi
               have q2 : Cn.names l = true := Cn.adj_yes fun i hi => hJ i hi hi
               unfold Cn.itemsValid
               rw [q1, q2, List.take_length]
               exact decide_eq_decide.2 Int.ofNat_inj)
          ·
            try simp only [x1] at c29
            refine C.skip ?_
            refine hK11 _ _ ?_
            refine C.region ?_
            refine O.mv ?_
            refine O.fieldAd Tryz.underlying56 rfl Tryz.sizeOf54 (by decide) rfl ?_
            refine O.loadO Tryz.isAgg54 rfl ((hs3.keep e4).keep e5) rfl ?_
            refine O.len Tryz.underlying54 rfl ((((hm12.keep e2).keepM e3 (by intro k hk h; first | (have q1 := hF k hk; (try dsimp only at h); omega) | (have q1 := hF2 k hk; (try dsimp only at h); omega) | (have q1 := hFb k hk; (try dsimp only at h); omega) | ((try dsimp only at hk); (try dsimp only at h); omega))).keep e4).keep e5) ?_
            refine O.addI s3_1 rfl (by unfold InI; omega) ?_
            refine O.asg ?_
            refine O.nil ?_
            refine hK9 _ _ ?_
            refine hK8 _ _ ?_
            refine C.region ?_
            refine O.addI s8_1 rfl (by unfold InI; omega) ?_
            refine O.mv ?_
            refine O.nil ?_
            refine ⟨k + 1, ⟨(Eq.trans rfl (congrArg (Value.int .i64) (by rw [Cn.count_take hk2, hu]; simp))), rfl, s0_1, s6_1, s7_1, (Ext.trans (Ext.trans (Ext.new (Ext.trans e_1 e2) e3 (by rintro i hi rfl; omega)) e4) e5), ?_⟩, by first | omega | (simp only []; omega)⟩
            refine ⟨by omega, fun i hi hik => ?_, fun i hi hik => ?_⟩
            · rcases Nat.lt_or_eq_of_le (Nat.le_of_lt_succ hik) with h | rfl
              · exact hI i hi h
              · rw [← hu]; exact c15
            · rcases Nat.lt_or_eq_of_le (Nat.le_of_lt_succ hik) with h | h
              · exact hJ i hi h
              · first
                | (exfalso; omega)
                | (obtain rfl : k = i + 1 := h.symm
                   simp only [Nat.add_sub_cancel] at c29
                   rw [hu] at c29
                   simpa using c29)
        ·
          refine D.takeNo (i := 6) rfl rfl (by kernel_rfl) e5 rfl (noB (isF rfl c18) rfl) ?_
          refine D.takeNo (i := 7) rfl rfl (by kernel_rfl) e5 rfl (noB (isF rfl c18) rfl) ?_
          refine D.takeNo (i := 8) rfl rfl (by kernel_rfl) e5 rfl (noB (isF rfl c18) rfl) ?_
          refine D.takeNo (i := 9) rfl rfl (by kernel_rfl) e5 rfl (noB (isF rfl c18) rfl) ?_
          refine D.takeNo (i := 10) rfl rfl (by kernel_rfl) e5 rfl (noB (isF rfl c18) rfl) ?_
          refine D.takeNo (i := 11) rfl rfl (by kernel_rfl) e5 rfl (noB (isF rfl c18) rfl) ?_
          refine D.takeNo (i := 12) rfl rfl (by kernel_rfl) e5 rfl (noB (isF rfl c18) rfl) ?_
          refine D.takeNo (i := 13) rfl rfl (by kernel_rfl) e5 rfl (noB (isF rfl c18) rfl) ?_
          refine D.takeNo (i := 14) rfl rfl (by kernel_rfl) e5 rfl (noB (isF rfl c18) rfl) ?_
          refine D.takeYes (i := 15) rfl rfl rfl (by kernel_rfl) rfl (isF' rfl c15) e5 pick_form (fun w_ hw_ N_ hN => (O.pickF (isF rfl c18) (O.nil hN))) ?_
          refine D.take (i := 16) rfl rfl rfl rfl (by kernel_rfl) e5 pick_form (fun w_ hw_ N_ hN => (O.pickF (isF' rfl c15) (O.nil hN))) ?_
          refine D.done (by kernel_rfl) ?_
          refine hK12 _ _ ?_
          refine C.condF rfl ?_
          refine C.skip ?_
          refine hK11 _ _ ?_
          refine C.region ?_
          refine O.mv ?_
          refine O.fieldAd Tryz.underlying56 rfl Tryz.sizeOf54 (by decide) rfl ?_
          refine O.loadO Tryz.isAgg54 rfl ((hs3.keep e4).keep e5) rfl ?_
          refine O.len Tryz.underlying54 rfl ((((hm12.keep e2).keepM e3 (by intro k hk h; first | (have q1 := hF k hk; (try dsimp only at h); omega) | (have q1 := hF2 k hk; (try dsimp only at h); omega) | (have q1 := hFb k hk; (try dsimp only at h); omega) | ((try dsimp only at hk); (try dsimp only at h); omega))).keep e4).keep e5) ?_
          refine O.addI s3_1 rfl (by unfold InI; omega) ?_
          refine O.asg ?_
          refine O.nil ?_
          refine hK9 _ _ ?_
          refine hK8 _ _ ?_
          refine C.region ?_
          refine O.addI s8_1 rfl (by unfold InI; omega) ?_
          refine O.mv ?_
          refine O.nil ?_
          refine ⟨k + 1, ⟨(Eq.trans rfl (congrArg (Value.int .i64) (by rw [Cn.count_take hk2, hu]; simp))), rfl, s0_1, s6_1, s7_1, (Ext.trans (Ext.trans (Ext.new (Ext.trans e_1 e2) e3 (by rintro i hi rfl; omega)) e4) e5), ?_⟩, by first | omega | (simp only []; omega)⟩
          refine ⟨by omega, fun i hi hik => ?_, fun i hi hik => ?_⟩
          · rcases Nat.lt_or_eq_of_le (Nat.le_of_lt_succ hik) with h | rfl
            · exact hI i hi h
            · rw [← hu]; exact c15
          · rcases Nat.lt_or_eq_of_le (Nat.le_of_lt_succ hik) with h | h
            · exact hJ i hi h
            · first
              | (exfalso; omega)
              | (obtain rfl : k = i + 1 := h.symm
                 simp only [Nat.add_sub_cancel] at c29
                 rw [hu] at c29
                 simpa using c29)
    ·
      refine C.exit ?_
      refine hK5 _ _ ?_
      refine hK3 _ _ ?_
      refine C.seqK fun K15 hK15 => ?_
      refine C.region ?_
      refine O.mv ?_
      refine O.call Tryz.call47 (args1 s0_1) (idots_spec _ l _ _ (hl.keep e_1) (fun k hk => by have := hF k hk; omega) hn hS) ?_
      rintro v_37 w6 ⟨e6, h37⟩
      have z6 := e6.size
      have h37s := h37.sl
      refine O.len Tryz.underlying22 rfl h37s ?_
      refine O.mv ?_
      refine O.eqlI rfl s3_1 ?_
      refine O.asg ?_
      refine O.nil ?_
      refine hK15 _ _ ?_
      refine C.ret ?_
      refine Outs.one rfl rfl ?_
      first
      | (refine ⟨congrArg Value.bool ?_, (Ext.trans e_1 e6)⟩
         have q : l.any Cn.badI = true := Cn.any_yes hk2 (by rw [← hu]; exact c15)
         unfold Cn.itemsValid
         rw [q]
         rfl)
      | (refine ⟨congrArg Value.bool ?_, (Ext.trans e_1 e6)⟩
         have q : Cn.names l = false := Cn.adj_no (j := k - 1) hk2 (by omega) (by omega) (by rw [← hu]; simpa using c29)
         unfold Cn.itemsValid
         rw [q, Bool.false_and, Bool.and_false])
      | (refine ⟨congrArg Value.bool ?_, (Ext.trans e_1 e6)⟩
         obtain rfl : k = l.length := by omega
         have q1 : l.any Cn.badI = false := Cn.any_no fun i hi => hI i hi hi
         have q2 : Cn.names l = true := Cn.adj_yes fun i hi => hJ i hi hi
         unfold Cn.itemsValid
         rw [q1, q2, List.take_length]
         exact decide_eq_decide.2 Int.ofNat_inj)

end Go.Proofs.YtnkcmaoaagnopaaGreatDoor
