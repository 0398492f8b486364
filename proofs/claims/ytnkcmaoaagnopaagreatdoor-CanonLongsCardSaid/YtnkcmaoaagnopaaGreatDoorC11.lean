/-
  The walks of the reference: order of bytes, small carts, carts compared and copied. Conditions: slices as they lie in memory.
-/
import Derived.Test.YtnkcmaoaagnopaaGreatDoorC10
namespace Go.Proofs.YtnkcmaoaagnopaaGreatDoor
open Go.Pn Go.RowKit Go.Proofs
attribute [local irreducible] O C D

theorem rcmp_spec (v0 : Value) (x : List UInt8) (v1 : Value) (y : List UInt8) (F F2 : Nat → Prop) (w : World) (ha : Sl byteE w F v0 x) (hb : Sl byteE w F2 v1 y) :
    Ret Tryz.prog 26 #[v0, v1] w (fun v w' => v = .int .i64 (Cn.cmpB x y) ∧ Le w w') := by
  have hale := ha.le
  have hble := hb.le
  refine enter (args := [v0, v1]) (n := 48) Tryz.func26 rfl rfl (Nat.le_of_ble_eq_true rfl) ?_
  refine C.seqK fun K1 hK1 => ?_
  refine C.region ?_
  refine O.asg ?_
  refine O.nil ?_
  refine hK1 _ _ ?_
  refine C.seqK fun K2 hK2 => ?_
  refine C.seqK fun K3 hK3 => ?_
  refine C.region ?_
  refine O.asg ?_
  refine O.nil ?_
  refine hK3 _ _ ?_
  refine C.block fun K4 hK4 => ?_
  refine C.loop0 (σ := Nat) (fun f0 w0 k f wz => f 5 = .int .i64 (k) ∧ f 0 = f0 0 ∧ f 1 = f0 1 ∧ Le w wz ∧ k ≤ x.length ∧ k ≤ y.length ∧ Cn.cmpB (x.drop k) (y.drop k) = Cn.cmpB x y) (fun k => x.length - k) 0 ?_ ?_
  ·
    refine ⟨rfl, rfl, rfl, (Le.refl _), ?_⟩
    exact ⟨Nat.zero_le _, Nat.zero_le _, rfl⟩
  ·
    rintro k f_1 w1 ⟨s5_1, s0_1, s1_1, e_1, ⟨hk, hky, hI⟩⟩
    have z_1 := e_1.size
    refine C.seqK fun K5 hK5 => ?_
    refine C.seqK fun K6 hK6 => ?_
    refine C.region ?_
    refine O.mv ?_
    refine O.mv ?_
    refine O.len Tryz.underlying32 s0_1 (ha.keep e_1) ?_
    refine O.lssI s5_1 rfl ?_
    refine O.mv ?_
    refine O.cut 5 (fun f f' => f' 15 = .bool (decide ((k : Int) < (x.length : Int) ∧ (k : Int) < (y.length : Int))) ∧ f' 0 = f 0 ∧ f' 1 = f 1 ∧ f' 5 = f 5) ?_ ?_
    ·
      refine O.splitD (x := .tmp 10) rfl (fun c10 => ?_) (fun c10 => ?_)
      ·
        refine O.yes rfl (isT rfl c10) ?_
        refine O.mv ?_
        refine O.yes rfl (isT rfl c10) ?_
        refine O.mv ?_
        refine O.yes rfl (isT rfl c10) ?_
        refine O.len Tryz.underlying32 s1_1 (hb.keep e_1) ?_
        refine O.yes rfl (isT rfl c10) ?_
        refine O.lssI s5_1 rfl ?_
        refine O.pickT (isT rfl c10) ?_
        refine O.nil ?_
        refine ⟨⟨?_, rfl, rfl, rfl⟩, rfl⟩
        first | exact rfl | exact Eq.trans rfl (congrArg Value.bool (dAnd (by assumption))) | exact Eq.trans rfl (congrArg Value.bool (dAndF (by assumption))) | exact Eq.trans rfl (congrArg Value.bool (dOr (by assumption))) | exact Eq.trans rfl (congrArg Value.bool (dOrT (by assumption)))
      ·
        refine O.no rfl (noB (isF rfl c10) rfl) ?_
        refine O.no rfl (noB (isF rfl c10) rfl) ?_
        refine O.no rfl (noB (isF rfl c10) rfl) ?_
        refine O.no rfl (noB (isF rfl c10) rfl) ?_
        refine O.pickF (isF rfl c10) ?_
        refine O.nil ?_
        refine ⟨⟨?_, rfl, rfl, rfl⟩, rfl⟩
        first | exact rfl | exact Eq.trans rfl (congrArg Value.bool (dAnd (by assumption))) | exact Eq.trans rfl (congrArg Value.bool (dAndF (by assumption))) | exact Eq.trans rfl (congrArg Value.bool (dOr (by assumption))) | exact Eq.trans rfl (congrArg Value.bool (dOrT (by assumption)))
    ·
      rintro f_2 ⟨s15_2, s0_2, s1_2, s5_2⟩
      refine O.nil ?_
      refine hK6 _ _ ?_
      refine C.condD s15_2 (fun c15 => ?_) (fun c15 => ?_)
      ·
        have hk2 : k < x.length := by omega
        have hk3 : k < y.length := by omega
        refine C.skip ?_
        refine hK5 _ _ ?_
        refine C.seqK fun K7 hK7 => ?_
        refine C.block fun K8 hK8 => ?_
        refine C.seqK fun K9 hK9 => ?_
        refine C.draw (by kernel_rfl) fun w2 e2 => ?_
        have z2 := e2.size
        refine D.take (i := 0) rfl rfl rfl rfl (by kernel_rfl) (Le.refl _) ⟨pure _, rfl⟩ (fun w_ hw_ N_ hN => (O.mv (O.nil hN))) ?_
        refine D.take (i := 1) rfl rfl rfl rfl (by kernel_rfl) (Le.refl _) ⟨pure _, rfl⟩ (fun w_ hw_ N_ hN => (O.mv (O.nil hN))) ?_
        obtain ⟨a20, h20, hr20⟩ := Sl.at (i := (k : Int)) (P := Tryz.prog) Tryz.underlying32 Tryz.sizeOf5 rfl ((ha.keep e_1).keep e2) (by omega)
        refine D.take (i := 2) rfl rfl rfl rfl (by kernel_rfl) (Le.refl _) ⟨_, rfl⟩ (fun w_ hw_ N_ hN => (O.idxR (Eq.trans s0_2 s0_1) (Eq.trans s5_2 s5_1) hr20 (O.nil hN))) ?_
        refine D.take (i := 3) rfl rfl rfl rfl (by kernel_rfl) (Le.refl _) ⟨_, rfl⟩ (fun w_ hw_ N_ hN => (O.loadB Tryz.isAgg5 rfl (h20.keep hw_) (O.nil hN))) ?_
        refine D.take (i := 4) rfl rfl rfl rfl (by kernel_rfl) (Le.refl _) ⟨pure _, rfl⟩ (fun w_ hw_ N_ hN => (O.mv (O.nil hN))) ?_
        refine D.take (i := 5) rfl rfl rfl rfl (by kernel_rfl) (Le.refl _) ⟨pure _, rfl⟩ (fun w_ hw_ N_ hN => (O.mv (O.nil hN))) ?_
        obtain ⟨a24, h24, hr24⟩ := Sl.at (i := (k : Int)) (P := Tryz.prog) Tryz.underlying32 Tryz.sizeOf5 rfl ((hb.keep e_1).keep e2) (by omega)
        refine D.take (i := 6) rfl rfl rfl rfl (by kernel_rfl) (Le.refl _) ⟨_, rfl⟩ (fun w_ hw_ N_ hN => (O.idxR (Eq.trans s1_2 s1_1) (Eq.trans s5_2 s5_1) hr24 (O.nil hN))) ?_
        refine D.take (i := 7) rfl rfl rfl rfl (by kernel_rfl) (Le.refl _) ⟨_, rfl⟩ (fun w_ hw_ N_ hN => (O.loadB Tryz.isAgg5 rfl (h24.keep hw_) (O.nil hN))) ?_
        refine D.take (i := 8) rfl rfl rfl rfl (by kernel_rfl) (Le.refl _) ⟨_, rfl⟩ (fun w_ hw_ N_ hN => (O.neqU (m := 8) rfl rfl (O.nil hN))) ?_
        refine D.done (by kernel_rfl) ?_
        refine hK9 _ _ ?_
        refine C.condD rfl (fun c26 => ?_) (fun c26 => ?_)
        ·
          simp only [Int.toNat_natCast] at c26
          refine C.seqK fun K10 hK10 => ?_
          refine C.seqK fun K11 hK11 => ?_
          refine C.draw (by kernel_rfl) fun w3 e3 => ?_
          have z3 := e3.size
          refine D.take (i := 0) rfl rfl rfl rfl (by kernel_rfl) (Le.refl _) ⟨pure _, rfl⟩ (fun w_ hw_ N_ hN => (O.mv (O.nil hN))) ?_
          refine D.take (i := 1) rfl rfl rfl rfl (by kernel_rfl) (Le.refl _) ⟨pure _, rfl⟩ (fun w_ hw_ N_ hN => (O.mv (O.nil hN))) ?_
          obtain ⟨a29, h29, hr29⟩ := Sl.at (i := (k : Int)) (P := Tryz.prog) Tryz.underlying32 Tryz.sizeOf5 rfl (((ha.keep e_1).keep e2).keep e3) (by omega)
          refine D.take (i := 2) rfl rfl rfl rfl (by kernel_rfl) (Le.refl _) ⟨_, rfl⟩ (fun w_ hw_ N_ hN => (O.idxR (Eq.trans s0_2 s0_1) (Eq.trans s5_2 s5_1) hr29 (O.nil hN))) ?_
          refine D.take (i := 3) rfl rfl rfl rfl (by kernel_rfl) (Le.refl _) ⟨_, rfl⟩ (fun w_ hw_ N_ hN => (O.loadB Tryz.isAgg5 rfl (h29.keep hw_) (O.nil hN))) ?_
          refine D.take (i := 4) rfl rfl rfl rfl (by kernel_rfl) (Le.refl _) ⟨pure _, rfl⟩ (fun w_ hw_ N_ hN => (O.mv (O.nil hN))) ?_
          refine D.take (i := 5) rfl rfl rfl rfl (by kernel_rfl) (Le.refl _) ⟨pure _, rfl⟩ (fun w_ hw_ N_ hN => (O.mv (O.nil hN))) ?_
          obtain ⟨a33, h33, hr33⟩ := Sl.at (i := (k : Int)) (P := Tryz.prog) Tryz.underlying32 Tryz.sizeOf5 rfl (((hb.keep e_1).keep e2).keep e3) (by omega)
          refine D.take (i := 6) rfl rfl rfl rfl (by kernel_rfl) (Le.refl _) ⟨_, rfl⟩ (fun w_ hw_ N_ hN => (O.idxR (Eq.trans s1_2 s1_1) (Eq.trans s5_2 s5_1) hr33 (O.nil hN))) ?_
          refine D.take (i := 7) rfl rfl rfl rfl (by kernel_rfl) (Le.refl _) ⟨_, rfl⟩ (fun w_ hw_ N_ hN => (O.loadB Tryz.isAgg5 rfl (h33.keep hw_) (O.nil hN))) ?_
          refine D.take (i := 8) rfl rfl rfl rfl (by kernel_rfl) (Le.refl _) ⟨_, rfl⟩ (fun w_ hw_ N_ hN => (O.lssU (m := 8) rfl rfl (O.nil hN))) ?_
          refine D.done (by kernel_rfl) ?_
          refine hK11 _ _ ?_
          refine C.condD rfl (fun c35 => ?_) (fun c35 => ?_)
          ·
            simp only [Int.toNat_natCast] at c35
            refine C.seqK fun K12 hK12 => ?_
            refine C.region ?_
            refine O.asg ?_
            refine O.nil ?_
            refine hK12 _ _ ?_
            refine C.ret ?_
            refine Outs.one rfl rfl ?_
            refine ⟨congrArg (Value.int .i64) ?_, (Ext.trans (Ext.trans e_1 e2) e3)⟩
            rw [← hI]
            first
            | (rw [Cn.cmpB_differ hk2 hk3 (fun e => c26 (congrArg UInt8.toBitVec e)), if_pos (Cn.u8_lt.2 (by simpa [BitVec.lt_def] using c35))])
            | (rw [Cn.cmpB_differ hk2 hk3 (fun e => c26 (congrArg UInt8.toBitVec e)), if_neg (fun h => c35 (by simpa [BitVec.lt_def] using Cn.u8_lt.1 h))])
            | (rw [Cn.cmpB_end hk hky hk4, if_pos (by omega)])
            | (rw [Cn.cmpB_end hk hky hk4, if_neg (by omega), if_pos (by omega)])
            | (rw [Cn.cmpB_end hk hky hk4, if_neg (by omega), if_neg (by omega)])
          ·
            simp only [Int.toNat_natCast] at c35
            refine C.skip ?_
            refine hK10 _ _ ?_
            refine C.seqK fun K13 hK13 => ?_
            refine C.region ?_
            refine O.asg ?_
            refine O.nil ?_
            refine hK13 _ _ ?_
            refine C.ret ?_
            refine Outs.one rfl rfl ?_
            refine ⟨congrArg (Value.int .i64) ?_, (Ext.trans (Ext.trans e_1 e2) e3)⟩
            rw [← hI]
            first
            | (rw [Cn.cmpB_differ hk2 hk3 (fun e => c26 (congrArg UInt8.toBitVec e)), if_pos (Cn.u8_lt.2 (by simpa [BitVec.lt_def] using c35))])
            | (rw [Cn.cmpB_differ hk2 hk3 (fun e => c26 (congrArg UInt8.toBitVec e)), if_neg (fun h => c35 (by simpa [BitVec.lt_def] using Cn.u8_lt.1 h))])
            | (rw [Cn.cmpB_end hk hky hk4, if_pos (by omega)])
            | (rw [Cn.cmpB_end hk hky hk4, if_neg (by omega), if_pos (by omega)])
            | (rw [Cn.cmpB_end hk hky hk4, if_neg (by omega), if_neg (by omega)])
        ·
          simp only [Int.toNat_natCast] at c26
          refine C.skip ?_
          refine hK8 _ _ ?_
          refine hK7 _ _ ?_
          refine C.region ?_
          refine O.mv ?_
          refine O.addI (Eq.trans s5_2 s5_1) rfl (by unfold InI; omega) ?_
          refine O.asg ?_
          refine O.nil ?_
          refine ⟨k + 1, ⟨rfl, (Eq.trans s0_2 s0_1), (Eq.trans s1_2 s1_1), (Ext.trans e_1 e2), ?_⟩, by first | omega | (simp only []; omega)⟩
          refine ⟨by omega, by omega, ?_⟩
          rw [Cn.cmpB_next hk2 hk3 (eq_of_bv c26)]
          exact hI
      ·
        have hk4 : k = x.length ∨ k = y.length := by omega
        refine C.exit ?_
        refine hK4 _ _ ?_
        refine hK2 _ _ ?_
        refine C.seqK fun K14 hK14 => ?_
        refine C.block fun K15 hK15 => ?_
        refine C.seqK fun K16 hK16 => ?_
        refine C.region ?_
        refine O.mv ?_
        refine O.len Tryz.underlying32 (Eq.trans s0_2 s0_1) (ha.keep e_1) ?_
        refine O.mv ?_
        refine O.len Tryz.underlying32 (Eq.trans s1_2 s1_1) (hb.keep e_1) ?_
        refine O.lssI rfl rfl ?_
        refine O.asg ?_
        refine O.nil ?_
        refine hK16 _ _ ?_
        refine C.condD rfl (fun c36 => ?_) (fun c36 => ?_)
        ·
          refine C.seqK fun K17 hK17 => ?_
          refine C.region ?_
          refine O.asg ?_
          refine O.nil ?_
          refine hK17 _ _ ?_
          refine C.ret ?_
          refine Outs.one rfl rfl ?_
          refine ⟨congrArg (Value.int .i64) ?_, e_1⟩
          rw [← hI]
          first
          | (rw [Cn.cmpB_differ hk2 hk3 (fun e => c26 (congrArg UInt8.toBitVec e)), if_pos (Cn.u8_lt.2 (by simpa [BitVec.lt_def] using c35))])
          | (rw [Cn.cmpB_differ hk2 hk3 (fun e => c26 (congrArg UInt8.toBitVec e)), if_neg (fun h => c35 (by simpa [BitVec.lt_def] using Cn.u8_lt.1 h))])
          | (rw [Cn.cmpB_end hk hky hk4, if_pos (by omega)])
          | (rw [Cn.cmpB_end hk hky hk4, if_neg (by omega), if_pos (by omega)])
          | (rw [Cn.cmpB_end hk hky hk4, if_neg (by omega), if_neg (by omega)])
        ·
          refine C.seqK fun K18 hK18 => ?_
          refine C.region ?_
          refine O.mv ?_
          refine O.len Tryz.underlying32 (Eq.trans s0_2 s0_1) (ha.keep e_1) ?_
          refine O.mv ?_
          refine O.len Tryz.underlying32 (Eq.trans s1_2 s1_1) (hb.keep e_1) ?_
          refine O.gtrI rfl rfl ?_
          refine O.asg ?_
          refine O.nil ?_
          refine hK18 _ _ ?_
          refine C.condD rfl (fun c42 => ?_) (fun c42 => ?_)
          ·
            refine C.seqK fun K19 hK19 => ?_
            refine C.region ?_
            refine O.asg ?_
            refine O.nil ?_
            refine hK19 _ _ ?_
            refine C.ret ?_
            refine Outs.one rfl rfl ?_
            refine ⟨congrArg (Value.int .i64) ?_, e_1⟩
            rw [← hI]
            first
            | (rw [Cn.cmpB_differ hk2 hk3 (fun e => c26 (congrArg UInt8.toBitVec e)), if_pos (Cn.u8_lt.2 (by simpa [BitVec.lt_def] using c35))])
            | (rw [Cn.cmpB_differ hk2 hk3 (fun e => c26 (congrArg UInt8.toBitVec e)), if_neg (fun h => c35 (by simpa [BitVec.lt_def] using Cn.u8_lt.1 h))])
            | (rw [Cn.cmpB_end hk hky hk4, if_pos (by omega)])
            | (rw [Cn.cmpB_end hk hky hk4, if_neg (by omega), if_pos (by omega)])
            | (rw [Cn.cmpB_end hk hky hk4, if_neg (by omega), if_neg (by omega)])
          ·
            refine C.skip ?_
            refine hK15 _ _ ?_
            refine hK14 _ _ ?_
            refine C.seqK fun K20 hK20 => ?_
            refine C.region ?_
            refine O.asg ?_
            refine O.nil ?_
            refine hK20 _ _ ?_
            refine C.ret ?_
            refine Outs.one rfl rfl ?_
            refine ⟨congrArg (Value.int .i64) ?_, e_1⟩
            rw [← hI]
            first
            | (rw [Cn.cmpB_differ hk2 hk3 (fun e => c26 (congrArg UInt8.toBitVec e)), if_pos (Cn.u8_lt.2 (by simpa [BitVec.lt_def] using c35))])
            | (rw [Cn.cmpB_differ hk2 hk3 (fun e => c26 (congrArg UInt8.toBitVec e)), if_neg (fun h => c35 (by simpa [BitVec.lt_def] using Cn.u8_lt.1 h))])
            | (rw [Cn.cmpB_end hk hky hk4, if_pos (by omega)])
            | (rw [Cn.cmpB_end hk hky hk4, if_neg (by omega), if_pos (by omega)])
            | (rw [Cn.cmpB_end hk hky hk4, if_neg (by omega), if_neg (by omega)])

theorem small_spec (va1 va2 va3 : Value) (a : Cn.Cart) (F : Nat → Prop) (w : World) (hav : Sl Dt.dotF.enc w F va1 a.1.1) (hac : Sl Dt.dotF.enc w F va2 a.1.2) (hai : Sl itemE w F va3 a.2) :
    Ret Tryz.prog 13 #[.agg #[va1, va2, va3]] w (fun v w' => v = .bool (Cn.small a) ∧ Le w w') := by
  have hle := hai.le
  have hle1 := hav.le
  have hle2 := hac.le
  refine enter (args := [.agg #[va1, va2, va3]]) (n := 51) Tryz.func13 rfl rfl (Nat.le_of_ble_eq_true rfl) ?_
  refine C.seqK fun K1 hK1 => ?_
  refine C.region ?_
  refine O.box (v := .agg #[va1, va2, va3]) rfl (fun b1 w1 hb1 hz1 e1 => ?_)
  have z1 := e1.size
  have h1 := hz1.own
  have hl1 := h1.lt
  refine O.asg ?_
  refine O.nil ?_
  refine hK1 _ _ ?_
  refine C.seqK fun K2 hK2 => ?_
  refine C.seqK fun K3 hK3 => ?_
  refine C.region ?_
  refine O.asg ?_
  refine O.nil ?_
  refine hK3 _ _ ?_
  refine C.block fun K4 hK4 => ?_
  refine C.loop0 (σ := Nat) (fun f0 w0 k f w => f 3 = .int .i64 (k) ∧ f 1 = f0 1 ∧ Le w0 w ∧ k ≤ a.2.length ∧ ∀ i, ∀ h : i < a.2.length, i < k → Cn.smallI a.2[i] = true) (fun k => a.2.length - k) 0 ?_ ?_
  ·
    refine ⟨rfl, rfl, Le.refl _, ?_⟩
    exact ⟨Nat.zero_le _, fun i h k => absurd k (Nat.not_lt_zero _)⟩
  ·
    rintro k f_1 w2 ⟨s3_1, s1_1, e_1, ⟨hk, hI⟩⟩
    have z_1 := e_1.size
    refine C.seqK fun K5 hK5 => ?_
    refine C.seqK fun K6 hK6 => ?_
    refine C.region ?_
    refine O.mv ?_
    refine O.fieldAd Tryz.underlying28 rfl Tryz.sizeOf26 (by decide) s1_1 ?_
    refine O.loadO Tryz.isAgg26 rfl (h1.keep e_1) rfl ?_
    refine O.len Tryz.underlying26 rfl ((hai.keep e1).keep e_1) ?_
    refine O.lssI s3_1 rfl ?_
    refine O.mv ?_
    refine O.cut 3 (fun f f' => f' 12 = .bool (decide ((k : Int) < (a.2.length : Int) ∧ (k : Int) < 21)) ∧ f' 1 = f 1 ∧ f' 3 = f 3) ?_ ?_
    ·
      refine O.splitD (x := .tmp 9) rfl (fun c9 => ?_) (fun c9 => ?_)
      ·
        refine O.yes rfl (isT rfl c9) ?_
        refine O.mv ?_
        refine O.yes rfl (isT rfl c9) ?_
        refine O.lssI s3_1 rfl ?_
        refine O.pickT (isT rfl c9) ?_
        refine O.nil ?_
        refine ⟨⟨?_, rfl, rfl⟩, rfl⟩
        first | exact rfl | exact Eq.trans rfl (congrArg Value.bool (dAnd (by assumption))) | exact Eq.trans rfl (congrArg Value.bool (dAndF (by assumption))) | exact Eq.trans rfl (congrArg Value.bool (dOr (by assumption))) | exact Eq.trans rfl (congrArg Value.bool (dOrT (by assumption)))
      ·
        refine O.no rfl (noB (isF rfl c9) rfl) ?_
        refine O.no rfl (noB (isF rfl c9) rfl) ?_
        refine O.pickF (isF rfl c9) ?_
        refine O.nil ?_
        refine ⟨⟨?_, rfl, rfl⟩, rfl⟩
        first | exact rfl | exact Eq.trans rfl (congrArg Value.bool (dAnd (by assumption))) | exact Eq.trans rfl (congrArg Value.bool (dAndF (by assumption))) | exact Eq.trans rfl (congrArg Value.bool (dOr (by assumption))) | exact Eq.trans rfl (congrArg Value.bool (dOrT (by assumption)))
    ·
      rintro f_2 ⟨s12_2, s1_2, s3_2⟩
      refine O.nil ?_
      refine hK6 _ _ ?_
      refine C.condD s12_2 (fun c12 => ?_) (fun c12 => ?_)
      ·
        have hk2 : k < a.2.length := by omega
        refine C.skip ?_
        refine hK5 _ _ ?_
        refine C.seqK fun K7 hK7 => ?_
        refine C.block fun K8 hK8 => ?_
        refine C.seqK fun K9 hK9 => ?_
        refine C.region ?_
        refine O.fieldAd Tryz.underlying28 rfl Tryz.sizeOf26 (by decide) (Eq.trans s1_2 s1_1) ?_
        refine O.loadO Tryz.isAgg26 rfl (h1.keep e_1) rfl ?_
        refine O.mv ?_
        refine O.idx Tryz.underlying26 Tryz.sizeOf56 rfl rfl ((hai.keep e1).keep e_1) (Eq.trans s3_2 s3_1) (by omega) (fun a18 h18 => ?_)
        refine O.fieldAt Tryz.underlying56 rfl Tryz.sizeOf54 (by decide) rfl ?_
        refine O.loadMarks Tryz.isAgg54 rfl h18 (fun vm20 hm20 => ?_)
        refine O.len Tryz.underlying54 rfl hm20 ?_
        refine O.gtrI rfl rfl ?_
        refine O.mv ?_
        refine O.splitD (x := .tmp 23) rfl (fun c23 => ?_) (fun c23 => ?_)
        ·
          simp only [Int.toNat_natCast] at c23
          refine O.no rfl (noB (isT rfl c23) rfl) ?_
          refine O.no rfl (noB (isT rfl c23) rfl) ?_
          refine O.no rfl (noB (isT rfl c23) rfl) ?_
          refine O.no rfl (noB (isT rfl c23) rfl) ?_
          refine O.no rfl (noB (isT rfl c23) rfl) ?_
          refine O.no rfl (noB (isT rfl c23) rfl) ?_
          refine O.no rfl (noB (isT rfl c23) rfl) ?_
          refine O.no rfl (noB (isT rfl c23) rfl) ?_
          refine O.pickT (isT rfl c23) ?_
          refine O.nil ?_
          refine hK9 _ _ ?_
          refine C.condT rfl ?_
          refine C.seqK fun K10 hK10 => ?_
          refine C.region ?_
          refine O.asg ?_
          refine O.nil ?_
          refine hK10 _ _ ?_
          refine C.ret ?_
          refine Outs.one rfl rfl ?_
          first
          | (refine ⟨congrArg Value.bool ?_, (Ext.trans e1 e_1)⟩
             have q : a.2.all Cn.smallI = false := Cn.all_no hk2 (Cn.smallI_no (by omega))
             unfold Cn.small
             rw [q, Bool.and_false])
          | (refine ⟨congrArg Value.bool ?_, (Ext.trans e1 e_1)⟩
             exact Cn.small_of (fun h i hi => hI i hi (by omega)))
        ·
          simp only [Int.toNat_natCast] at c23
          refine O.yes rfl (isF rfl c23) ?_
          refine O.fieldAd Tryz.underlying28 rfl Tryz.sizeOf26 (by decide) (Eq.trans s1_2 s1_1) ?_
          refine O.yes rfl (isF rfl c23) ?_
          refine O.loadO Tryz.isAgg26 rfl (h1.keep e_1) rfl ?_
          refine O.yes rfl (isF rfl c23) ?_
          refine O.mv ?_
          refine O.yes rfl (isF rfl c23) ?_
          refine O.idx Tryz.underlying26 Tryz.sizeOf56 rfl rfl ((hai.keep e1).keep e_1) (Eq.trans s3_2 s3_1) (by omega) (fun a27 h27 => ?_)
          refine O.yes rfl (isF rfl c23) ?_
          refine O.fieldAt Tryz.underlying56 rfl Tryz.sizeOf9 (by decide) rfl ?_
          refine O.yes rfl (isF rfl c23) ?_
          refine O.loadName Tryz.isAgg9 rfl h27 ?_
          refine O.yes rfl (isF rfl c23) ?_
          refine O.lenS Tryz.underlying9 rfl ?_
          refine O.yes rfl (isF rfl c23) ?_
          refine O.gtrI rfl rfl ?_
          refine O.pickF (isF rfl c23) ?_
          refine O.nil ?_
          refine hK9 _ _ ?_
          refine C.condD rfl (fun c32 => ?_) (fun c32 => ?_)
          ·
            simp only [Int.toNat_natCast] at c32
            refine C.seqK fun K11 hK11 => ?_
            refine C.region ?_
            refine O.asg ?_
            refine O.nil ?_
            refine hK11 _ _ ?_
            refine C.ret ?_
            refine Outs.one rfl rfl ?_
            first
            | (refine ⟨congrArg Value.bool ?_, (Ext.trans e1 e_1)⟩
               have q : a.2.all Cn.smallI = false := Cn.all_no hk2 (Cn.smallI_no (by omega))
               unfold Cn.small
               rw [q, Bool.and_false])
            | (refine ⟨congrArg Value.bool ?_, (Ext.trans e1 e_1)⟩
               exact Cn.small_of (fun h i hi => hI i hi (by omega)))
          ·
            simp only [Int.toNat_natCast] at c32
            refine C.skip ?_
            refine hK8 _ _ ?_
            refine hK7 _ _ ?_
            refine C.region ?_
            refine O.mv ?_
            refine O.addI (Eq.trans s3_2 s3_1) rfl (by unfold InI; omega) ?_
            refine O.asg ?_
            refine O.nil ?_
            refine ⟨k + 1, ⟨rfl, (Eq.trans s1_2 s1_1), e_1, ?_⟩, by first | omega | (simp only []; omega)⟩
            refine ⟨by omega, fun i hi hik => ?_⟩
            rcases Nat.lt_or_eq_of_le (Nat.le_of_lt_succ hik) with h | rfl
            · exact hI i hi h
            · exact Cn.smallI_yes (by omega) (by omega)
      ·
        refine C.exit ?_
        refine hK4 _ _ ?_
        refine hK2 _ _ ?_
        refine C.seqK fun K12 hK12 => ?_
        refine C.region ?_
        refine O.fieldAd Tryz.underlying28 rfl Tryz.sizeOf25 (by decide) (Eq.trans s1_2 s1_1) ?_
        refine O.fieldAd Tryz.underlying25 rfl Tryz.sizeOf23 (by decide) rfl ?_
        refine O.loadO Tryz.isAgg23 rfl (h1.keep e_1) rfl ?_
        refine O.len Tryz.underlying23 rfl ((hav.keep e1).keep e_1) ?_
        refine O.leqI rfl rfl ?_
        refine O.mv ?_
        refine O.cut 6 (fun f f' => f' 44 = .bool (decide ((a.1.1.length : Int) ≤ 40 ∧ (a.1.2.length : Int) ≤ 40)) ∧ f' 1 = f 1) ?_ ?_
        ·
          refine O.splitD (x := .tmp 38) rfl (fun c38 => ?_) (fun c38 => ?_)
          ·
            refine O.yes rfl (isT rfl c38) ?_
            refine O.fieldAd Tryz.underlying28 rfl Tryz.sizeOf25 (by decide) (Eq.trans s1_2 s1_1) ?_
            refine O.yes rfl (isT rfl c38) ?_
            refine O.fieldAd Tryz.underlying25 rfl Tryz.sizeOf22 (by decide) rfl ?_
            refine O.yes rfl (isT rfl c38) ?_
            refine O.loadO Tryz.isAgg22 rfl (h1.keep e_1) rfl ?_
            refine O.yes rfl (isT rfl c38) ?_
            refine O.len Tryz.underlying22 rfl ((hac.keep e1).keep e_1) ?_
            refine O.yes rfl (isT rfl c38) ?_
            refine O.leqI rfl rfl ?_
            refine O.pickT (isT rfl c38) ?_
            refine O.nil ?_
            refine ⟨⟨?_, rfl⟩, rfl⟩
            first | exact rfl | exact Eq.trans rfl (congrArg Value.bool (dAnd (by assumption))) | exact Eq.trans rfl (congrArg Value.bool (dAndF (by assumption))) | exact Eq.trans rfl (congrArg Value.bool (dOr (by assumption))) | exact Eq.trans rfl (congrArg Value.bool (dOrT (by assumption)))
          ·
            refine O.no rfl (noB (isF rfl c38) rfl) ?_
            refine O.no rfl (noB (isF rfl c38) rfl) ?_
            refine O.no rfl (noB (isF rfl c38) rfl) ?_
            refine O.no rfl (noB (isF rfl c38) rfl) ?_
            refine O.no rfl (noB (isF rfl c38) rfl) ?_
            refine O.pickF (isF rfl c38) ?_
            refine O.nil ?_
            refine ⟨⟨?_, rfl⟩, rfl⟩
            first | exact rfl | exact Eq.trans rfl (congrArg Value.bool (dAnd (by assumption))) | exact Eq.trans rfl (congrArg Value.bool (dAndF (by assumption))) | exact Eq.trans rfl (congrArg Value.bool (dOr (by assumption))) | exact Eq.trans rfl (congrArg Value.bool (dOrT (by assumption)))
        ·
          rintro f_3 ⟨s44_3, s1_3⟩
          refine O.mv ?_
          refine O.cut 5 (fun f f' => f' 50 = .bool (decide (((a.1.1.length : Int) ≤ 40 ∧ (a.1.2.length : Int) ≤ 40) ∧ (a.2.length : Int) ≤ 20))) ?_ ?_
          ·
            refine O.splitD (x := .tmp 45) s44_3 (fun c45 => ?_) (fun c45 => ?_)
            ·
              refine O.yes rfl (isT s44_3 c45) ?_
              refine O.fieldAd Tryz.underlying28 rfl Tryz.sizeOf26 (by decide) (Eq.trans s1_3 (Eq.trans s1_2 s1_1)) ?_
              refine O.yes rfl (isT s44_3 c45) ?_
              refine O.loadO Tryz.isAgg26 rfl (h1.keep e_1) rfl ?_
              refine O.yes rfl (isT s44_3 c45) ?_
              refine O.len Tryz.underlying26 rfl ((hai.keep e1).keep e_1) ?_
              refine O.yes rfl (isT s44_3 c45) ?_
              refine O.leqI rfl rfl ?_
              refine O.pickT (isT s44_3 c45) ?_
              refine O.nil ?_
              refine ⟨?_, rfl⟩
              first | exact rfl | exact Eq.trans rfl (congrArg Value.bool (dAnd (by assumption))) | exact Eq.trans rfl (congrArg Value.bool (dAndF (by assumption))) | exact Eq.trans rfl (congrArg Value.bool (dOr (by assumption))) | exact Eq.trans rfl (congrArg Value.bool (dOrT (by assumption)))
            ·
              refine O.no rfl (noB (isF s44_3 c45) rfl) ?_
              refine O.no rfl (noB (isF s44_3 c45) rfl) ?_
              refine O.no rfl (noB (isF s44_3 c45) rfl) ?_
              refine O.no rfl (noB (isF s44_3 c45) rfl) ?_
              refine O.pickF (isF s44_3 c45) ?_
              refine O.nil ?_
              refine ⟨?_, rfl⟩
              first | exact rfl | exact Eq.trans rfl (congrArg Value.bool (dAnd (by assumption))) | exact Eq.trans rfl (congrArg Value.bool (dAndF (by assumption))) | exact Eq.trans rfl (congrArg Value.bool (dOr (by assumption))) | exact Eq.trans rfl (congrArg Value.bool (dOrT (by assumption)))
          ·
            intro f_4 s50_4
            refine O.asg ?_
            refine O.nil ?_
            refine hK12 _ _ ?_
            refine C.ret ?_
            refine Outs.one rfl s50_4 ?_
            first
            | (refine ⟨congrArg Value.bool ?_, (Ext.trans e1 e_1)⟩
               have q : a.2.all Cn.smallI = false := Cn.all_no hk2 (Cn.smallI_no (by omega))
               unfold Cn.small
               rw [q, Bool.and_false])
            | (refine ⟨congrArg Value.bool ?_, (Ext.trans e1 e_1)⟩
               exact Cn.small_of (fun h i hi => hI i hi (by omega)))

set_option maxHeartbeats 4000000 in
theorem same_spec (va1 va2 va3 : Value) (a : Cn.Cart) (F : Nat → Prop) (vb1 vb2 vb3 : Value) (b : Cn.Cart) (F2 : Nat → Prop) (w : World) (hav : Sl Dt.dotF.enc w F va1 a.1.1) (hac : Sl Dt.dotF.enc w F va2 a.1.2) (hai : Sl itemE w F va3 a.2) (hbv : Sl Dt.dotF.enc w F2 vb1 b.1.1) (hbc : Sl Dt.dotF.enc w F2 vb2 b.1.2) (hbi : Sl itemE w F2 vb3 b.2) (hF : ∀ k, F k → k < w.heap.size) (hF2 : ∀ k, F2 k → k < w.heap.size) :
    Ret Tryz.prog 21 #[.agg #[va1, va2, va3], .agg #[vb1, vb2, vb3]] w (fun v w' => v = .bool (decide (a = b)) ∧ Le w w') := by
  have hle := hai.le
  have hle2 := hbi.le
  refine enter (args := [.agg #[va1, va2, va3], .agg #[vb1, vb2, vb3]]) (n := 85) Tryz.func21 rfl rfl (Nat.le_of_ble_eq_true rfl) ?_
  refine C.seqK fun K1 hK1 => ?_
  refine C.region ?_
  refine O.box (v := .agg #[va1, va2, va3]) rfl (fun b2 w1 hb2 hz2 e1 => ?_)
  have z1 := e1.size
  have h2 := hz2.own
  have hl2 := h2.lt
  refine O.box (v := .agg #[vb1, vb2, vb3]) rfl (fun b3 w2 hb3 hz3 e2 => ?_)
  have z2 := e2.size
  have h3 := hz3.own
  have hl3 := h3.lt
  refine O.asg ?_
  refine O.nil ?_
  refine hK1 _ _ ?_
  refine C.seqK fun K2 hK2 => ?_
  refine C.seqK fun K3 hK3 => ?_
  refine C.region ?_
  refine O.fieldAd Tryz.underlying28 rfl Tryz.sizeOf25 (by decide) rfl ?_
  refine O.fieldAd Tryz.underlying25 rfl Tryz.sizeOf23 (by decide) rfl ?_
  refine O.loadO Tryz.isAgg23 rfl (h2.keep e2) rfl ?_
  refine O.fieldAd Tryz.underlying28 rfl Tryz.sizeOf25 (by decide) rfl ?_
  refine O.fieldAd Tryz.underlying25 rfl Tryz.sizeOf23 (by decide) rfl ?_
  refine O.loadO Tryz.isAgg23 rfl h3 rfl ?_
  refine O.call Tryz.call48 (args2 rfl rfl) (sameD_spec va1 a.1.1 vb1 b.1.1 F F2 _ ((hav.keep e1).keep e2) ((hbv.keep e1).keep e2)) ?_
  rintro v_15 w3 ⟨rfl, e3⟩
  have z3 := e3.size
  refine O.not rfl ?_
  refine O.mv ?_
  refine O.split (x := .tmp 17) rfl (fun c17 => ?_) (fun c17 => ?_)
  ·
    refine O.no rfl (noB (isT' rfl c17) rfl) ?_
    refine O.no rfl (noB (isT' rfl c17) rfl) ?_
    refine O.no rfl (noB (isT' rfl c17) rfl) ?_
    refine O.no rfl (noB (isT' rfl c17) rfl) ?_
    refine O.no rfl (noB (isT' rfl c17) rfl) ?_
    refine O.no rfl (noB (isT' rfl c17) rfl) ?_
    refine O.no rfl (noB (isT' rfl c17) rfl) ?_
    refine O.no rfl (noB (isT' rfl c17) rfl) ?_
    refine O.pickT (isT' rfl c17) ?_
    refine O.mv ?_
    refine O.no rfl (noB rfl rfl) ?_
    refine O.no rfl (noB rfl rfl) ?_
    refine O.no rfl (noB rfl rfl) ?_
    refine O.no rfl (noB rfl rfl) ?_
    refine O.no rfl (noB rfl rfl) ?_
    refine O.no rfl (noB rfl rfl) ?_
    refine O.no rfl (noB rfl rfl) ?_
    refine O.pickT rfl ?_
    refine O.nil ?_
    refine hK3 _ _ ?_
    refine C.condT rfl ?_
    refine C.seqK fun K4 hK4 => ?_
    refine C.region ?_
    refine O.asg ?_
    refine O.nil ?_
    refine hK4 _ _ ?_
    refine C.ret ?_
    refine Outs.one rfl rfl ?_
    first
    | exact ⟨congrArg Value.bool (decide_eq_false (fun h => Cn.ne_of c17 (congrArg (fun x : Cn.Cart => x.1.1) h))).symm, (Ext.trans (Ext.trans e1 e2) e3)⟩
    | exact ⟨congrArg Value.bool (decide_eq_false (fun h => Cn.ne_of c27 (congrArg (fun x : Cn.Cart => x.1.2) h))).symm, (Ext.trans (Ext.trans e1 e2) e3)⟩
    | exact ⟨congrArg Value.bool (decide_eq_false (fun h => c35 (congrArg (fun x : Cn.Cart => (x.2.length : Int)) h))).symm, (Ext.trans (Ext.trans e1 e2) e3)⟩
    | exact ⟨congrArg Value.bool (decide_eq_false (fun h => c58 (congrArg Prod.fst (Cn.item_of h hi2 hi3)))).symm, (Ext.trans (Ext.trans e1 e2) e3)⟩
    | exact ⟨congrArg Value.bool (decide_eq_false (fun h => c66 (congrArg (fun x : ItemT => (x.2.length : Int)) (Cn.item_of h hi2 hi3)))).symm, (Ext.trans (Ext.trans e1 e2) e3)⟩
    | exact ⟨congrArg Value.bool (decide_eq_false (fun h => c84 (Cn.mark_of (Cn.item_of h hi2 hi3) hj2 hj3))).symm, (Ext.trans (Ext.trans e1 e2) e3)⟩
    | (obtain rfl : i = a.2.length := by omega
       rw [List.take_length, List.take_of_length_le (by omega)] at hI
       exact ⟨congrArg Value.bool (decide_eq_true (Prod.ext (Prod.ext q1 q2) hI)).symm, (Ext.trans (Ext.trans e1 e2) e3)⟩)
  ·
    refine O.yes rfl (isF' rfl c17) ?_
    refine O.fieldAd Tryz.underlying28 rfl Tryz.sizeOf25 (by decide) rfl ?_
    refine O.yes rfl (isF' rfl c17) ?_
    refine O.fieldAd Tryz.underlying25 rfl Tryz.sizeOf22 (by decide) rfl ?_
    refine O.yes rfl (isF' rfl c17) ?_
    refine O.loadO Tryz.isAgg22 rfl ((h2.keep e2).keep e3) rfl ?_
    refine O.yes rfl (isF' rfl c17) ?_
    refine O.fieldAd Tryz.underlying28 rfl Tryz.sizeOf25 (by decide) rfl ?_
    refine O.yes rfl (isF' rfl c17) ?_
    refine O.fieldAd Tryz.underlying25 rfl Tryz.sizeOf22 (by decide) rfl ?_
    refine O.yes rfl (isF' rfl c17) ?_
    refine O.loadO Tryz.isAgg22 rfl (h3.keep e3) rfl ?_
    refine O.yes rfl (isF' rfl c17) ?_
    refine O.call Tryz.call48 (args2 rfl rfl) (sameD_spec va2 a.1.2 vb2 b.1.2 F F2 _ (((hac.keep e1).keep e2).keep e3) (((hbc.keep e1).keep e2).keep e3)) ?_
    rintro v_24 w4 ⟨rfl, e4⟩
    have z4 := e4.size
    refine O.yes rfl (isF' rfl c17) ?_
    refine O.not rfl ?_
    refine O.pickF (isF' rfl c17) ?_
    refine O.mv ?_
    refine O.split (x := .tmp 27) rfl (fun c27 => ?_) (fun c27 => ?_)
    ·
      refine O.no rfl (noB (isT' rfl c27) rfl) ?_
      refine O.no rfl (noB (isT' rfl c27) rfl) ?_
      refine O.no rfl (noB (isT' rfl c27) rfl) ?_
      refine O.no rfl (noB (isT' rfl c27) rfl) ?_
      refine O.no rfl (noB (isT' rfl c27) rfl) ?_
      refine O.no rfl (noB (isT' rfl c27) rfl) ?_
      refine O.no rfl (noB (isT' rfl c27) rfl) ?_
      refine O.pickT (isT' rfl c27) ?_
      refine O.nil ?_
      refine hK3 _ _ ?_
      refine C.condT rfl ?_
      refine C.seqK fun K5 hK5 => ?_
      refine C.region ?_
      refine O.asg ?_
      refine O.nil ?_
      refine hK5 _ _ ?_
      refine C.ret ?_
      refine Outs.one rfl rfl ?_
      first
      | exact ⟨congrArg Value.bool (decide_eq_false (fun h => Cn.ne_of c17 (congrArg (fun x : Cn.Cart => x.1.1) h))).symm, (Ext.trans (Ext.trans (Ext.trans e1 e2) e3) e4)⟩
      | exact ⟨congrArg Value.bool (decide_eq_false (fun h => Cn.ne_of c27 (congrArg (fun x : Cn.Cart => x.1.2) h))).symm, (Ext.trans (Ext.trans (Ext.trans e1 e2) e3) e4)⟩
      | exact ⟨congrArg Value.bool (decide_eq_false (fun h => c35 (congrArg (fun x : Cn.Cart => (x.2.length : Int)) h))).symm, (Ext.trans (Ext.trans (Ext.trans e1 e2) e3) e4)⟩
      | exact ⟨congrArg Value.bool (decide_eq_false (fun h => c58 (congrArg Prod.fst (Cn.item_of h hi2 hi3)))).symm, (Ext.trans (Ext.trans (Ext.trans e1 e2) e3) e4)⟩
      | exact ⟨congrArg Value.bool (decide_eq_false (fun h => c66 (congrArg (fun x : ItemT => (x.2.length : Int)) (Cn.item_of h hi2 hi3)))).symm, (Ext.trans (Ext.trans (Ext.trans e1 e2) e3) e4)⟩
      | exact ⟨congrArg Value.bool (decide_eq_false (fun h => c84 (Cn.mark_of (Cn.item_of h hi2 hi3) hj2 hj3))).symm, (Ext.trans (Ext.trans (Ext.trans e1 e2) e3) e4)⟩
      | (obtain rfl : i = a.2.length := by omega
         rw [List.take_length, List.take_of_length_le (by omega)] at hI
         exact ⟨congrArg Value.bool (decide_eq_true (Prod.ext (Prod.ext q1 q2) hI)).symm, (Ext.trans (Ext.trans (Ext.trans e1 e2) e3) e4)⟩)
    ·
      refine O.yes rfl (isF' rfl c27) ?_
      refine O.fieldAd Tryz.underlying28 rfl Tryz.sizeOf26 (by decide) rfl ?_
      refine O.yes rfl (isF' rfl c27) ?_
      refine O.loadO Tryz.isAgg26 rfl (((h2.keep e2).keep e3).keep e4) rfl ?_
      refine O.yes rfl (isF' rfl c27) ?_
      refine O.len Tryz.underlying26 rfl ((((hai.keep e1).keep e2).keep e3).keep e4) ?_
      refine O.yes rfl (isF' rfl c27) ?_
      refine O.fieldAd Tryz.underlying28 rfl Tryz.sizeOf26 (by decide) rfl ?_
      refine O.yes rfl (isF' rfl c27) ?_
      refine O.loadO Tryz.isAgg26 rfl ((h3.keep e3).keep e4) rfl ?_
      refine O.yes rfl (isF' rfl c27) ?_
      refine O.len Tryz.underlying26 rfl ((((hbi.keep e1).keep e2).keep e3).keep e4) ?_
      refine O.yes rfl (isF' rfl c27) ?_
      refine O.neqI rfl rfl ?_
      refine O.pickF (isF' rfl c27) ?_
      refine O.nil ?_
      refine hK3 _ _ ?_
      refine C.condD rfl (fun c35 => ?_) (fun c35 => ?_)
      ·
        refine C.seqK fun K6 hK6 => ?_
        refine C.region ?_
        refine O.asg ?_
        refine O.nil ?_
        refine hK6 _ _ ?_
        refine C.ret ?_
        refine Outs.one rfl rfl ?_
        first
        | exact ⟨congrArg Value.bool (decide_eq_false (fun h => Cn.ne_of c17 (congrArg (fun x : Cn.Cart => x.1.1) h))).symm, (Ext.trans (Ext.trans (Ext.trans e1 e2) e3) e4)⟩
        | exact ⟨congrArg Value.bool (decide_eq_false (fun h => Cn.ne_of c27 (congrArg (fun x : Cn.Cart => x.1.2) h))).symm, (Ext.trans (Ext.trans (Ext.trans e1 e2) e3) e4)⟩
        | exact ⟨congrArg Value.bool (decide_eq_false (fun h => c35 (congrArg (fun x : Cn.Cart => (x.2.length : Int)) h))).symm, (Ext.trans (Ext.trans (Ext.trans e1 e2) e3) e4)⟩
        | exact ⟨congrArg Value.bool (decide_eq_false (fun h => c58 (congrArg Prod.fst (Cn.item_of h hi2 hi3)))).symm, (Ext.trans (Ext.trans (Ext.trans e1 e2) e3) e4)⟩
        | exact ⟨congrArg Value.bool (decide_eq_false (fun h => c66 (congrArg (fun x : ItemT => (x.2.length : Int)) (Cn.item_of h hi2 hi3)))).symm, (Ext.trans (Ext.trans (Ext.trans e1 e2) e3) e4)⟩
        | exact ⟨congrArg Value.bool (decide_eq_false (fun h => c84 (Cn.mark_of (Cn.item_of h hi2 hi3) hj2 hj3))).symm, (Ext.trans (Ext.trans (Ext.trans e1 e2) e3) e4)⟩
        | (obtain rfl : i = a.2.length := by omega
           rw [List.take_length, List.take_of_length_le (by omega)] at hI
           exact ⟨congrArg Value.bool (decide_eq_true (Prod.ext (Prod.ext q1 q2) hI)).symm, (Ext.trans (Ext.trans (Ext.trans e1 e2) e3) e4)⟩)
      ·
        have q1 : a.1.1 = b.1.1 := by simpa using c17
        have q2 : a.1.2 = b.1.2 := by simpa using c27
        have q3 : a.2.length = b.2.length := by omega
        refine C.skip ?_
        refine hK2 _ _ ?_
        refine C.seqK fun K7 hK7 => ?_
        refine C.seqK fun K8 hK8 => ?_
        refine C.region ?_
        refine O.asg ?_
        refine O.nil ?_
        refine hK8 _ _ ?_
        refine C.block fun K9 hK9 => ?_
        refine C.loop0 (σ := Nat) (fun f0 w0 i f w => f 5 = .int .i64 (i) ∧ f 2 = f0 2 ∧ f 3 = f0 3 ∧ Le w0 w ∧ i ≤ a.2.length ∧ a.2.take i = b.2.take i) (fun i => a.2.length - i) 0 ?_ ?_
        ·
          refine ⟨rfl, rfl, rfl, Le.refl _, ?_⟩
          exact ⟨Nat.zero_le _, rfl⟩
        ·
          rintro i f_1 w5 ⟨s5_1, s2_1, s3_1, e_1, ⟨hi, hI⟩⟩
          have z_1 := e_1.size
          refine C.seqK fun K10 hK10 => ?_
          refine C.seqK fun K11 hK11 => ?_
          refine C.region ?_
          refine O.mv ?_
          refine O.fieldAd Tryz.underlying28 rfl Tryz.sizeOf26 (by decide) s2_1 ?_
          refine O.loadO Tryz.isAgg26 rfl ((((h2.keep e2).keep e3).keep e4).keep e_1) rfl ?_
          refine O.len Tryz.underlying26 rfl (((((hai.keep e1).keep e2).keep e3).keep e4).keep e_1) ?_
          refine O.lssI s5_1 rfl ?_
          refine O.nil ?_
          refine hK11 _ _ ?_
          refine C.condD rfl (fun c40 => ?_) (fun c40 => ?_)
          ·
            have hi2 : i < a.2.length := by omega
            have hi3 : i < b.2.length := by omega
            refine C.skip ?_
            refine hK10 _ _ ?_
            refine C.seqK fun K12 hK12 => ?_
            refine C.block fun K13 hK13 => ?_
            refine C.seqK fun K14 hK14 => ?_
            refine C.join (fun f w f' w' => Le w w' ∧ f' 2 = f 2 ∧ f' 3 = f 3 ∧ f' 5 = f 5 ∧ ∃ (b6 : Nat) (b7 : Nat) (vx : Value) (vy : Value), f' 6 = .pointer (some ⟨b6, 0, none⟩) ∧ f' 7 = .pointer (some ⟨b7, 0, none⟩) ∧ Own w' b6 56 [str (a.2[i]'hi2).1, vx] ∧ Own w' b7 56 [str (b.2[i]'hi3).1, vy] ∧ Sl markF.enc w' F vx (a.2[i]'hi2).2 ∧ Sl markF.enc w' F2 vy (b.2[i]'hi3).2) ?_ ?_
            ·
              refine C.draw (by kernel_rfl) fun w6 e6 => ?_
              have z6 := e6.size
              refine D.take (i := 0) rfl rfl rfl rfl (by kernel_rfl) (Le.refl _) ⟨_, rfl⟩ (fun w_ hw_ N_ hN => (O.fieldAd Tryz.underlying28 rfl Tryz.sizeOf26 (by decide) s2_1 (O.nil hN))) ?_
              refine D.take (i := 1) rfl rfl rfl rfl (by kernel_rfl) (Le.refl _) ⟨_, rfl⟩ (fun w_ hw_ N_ hN => (O.loadO Tryz.isAgg26 rfl ((((((h2.keep e2).keep e3).keep e4).keep e_1).keep e6).keep hw_) rfl (O.nil hN))) ?_
              refine D.take (i := 2) rfl rfl rfl rfl (by kernel_rfl) (Le.refl _) ⟨pure _, rfl⟩ (fun w_ hw_ N_ hN => (O.mv (O.nil hN))) ?_
              obtain ⟨a46, h46, hr46⟩ := Sl.at (i := (i : Int)) (P := Tryz.prog) Tryz.underlying26 Tryz.sizeOf56 rfl ((((((hai.keep e1).keep e2).keep e3).keep e4).keep e_1).keep e6) (by omega)
              refine D.take (i := 3) rfl rfl rfl rfl (by kernel_rfl) (Le.refl _) ⟨_, rfl⟩ (fun w_ hw_ N_ hN => (O.idxR rfl s5_1 hr46 (O.nil hN))) ?_
              obtain ⟨s47, ha47, hm47⟩ := At.raw h46
              refine D.take (i := 4) rfl rfl rfl rfl (by kernel_rfl) (Le.refl _) ⟨_, rfl⟩ (fun w_ hw_ N_ hN => (O.loadG (G := itemF) Tryz.isAgg56 Tryz.sizeOf56 rfl (ha47.keep hw_) (O.nil hN))) ?_
              refine D.take (i := 5) rfl rfl rfl rfl (by kernel_rfl) (Le.refl _) ⟨_, rfl⟩ (fun w_ hw_ N_ hN => (O.fieldAd Tryz.underlying28 rfl Tryz.sizeOf26 (by decide) s3_1 (O.nil hN))) ?_
              refine D.take (i := 6) rfl rfl rfl rfl (by kernel_rfl) (Le.refl _) ⟨_, rfl⟩ (fun w_ hw_ N_ hN => (O.loadO Tryz.isAgg26 rfl (((((h3.keep e3).keep e4).keep e_1).keep e6).keep hw_) rfl (O.nil hN))) ?_
              refine D.take (i := 7) rfl rfl rfl rfl (by kernel_rfl) (Le.refl _) ⟨pure _, rfl⟩ (fun w_ hw_ N_ hN => (O.mv (O.nil hN))) ?_
              obtain ⟨a51, h51, hr51⟩ := Sl.at (i := (i : Int)) (P := Tryz.prog) Tryz.underlying26 Tryz.sizeOf56 rfl ((((((hbi.keep e1).keep e2).keep e3).keep e4).keep e_1).keep e6) (by omega)
              refine D.take (i := 8) rfl rfl rfl rfl (by kernel_rfl) (Le.refl _) ⟨_, rfl⟩ (fun w_ hw_ N_ hN => (O.idxR rfl s5_1 hr51 (O.nil hN))) ?_
              obtain ⟨s52, ha52, hm52⟩ := At.raw h51
              refine D.take (i := 9) rfl rfl rfl rfl (by kernel_rfl) (Le.refl _) ⟨_, rfl⟩ (fun w_ hw_ N_ hN => (O.loadG (G := itemF) Tryz.isAgg56 Tryz.sizeOf56 rfl (ha52.keep hw_) (O.nil hN))) ?_
              refine D.many [10, 11] (by kernel_rfl) (by decide) ⟨?_, ?_, trivial⟩
              ·
                refine D.stepU rfl rfl ?_
                refine O.alloc Tryz.zeroValue56 (fun b6 w7 hb6 hz6 e7 => ?_)
                have z7 := e7.size
                have h6 := hz6.own
                have hl6 := h6.lt
                refine O.nil ⟨e7, ?_⟩
                refine D.one (i := 11) rfl rfl (by kernel_rfl) ?_
                refine O.alloc Tryz.zeroValue56 (fun b7 w8 hb7 hz7 e8 => ?_)
                have z8 := e8.size
                have h7 := hz7.own
                have hl7 := h7.lt
                refine O.nil ⟨(Ext.trans e7 e8), ?_⟩
                refine D.one (i := 12) rfl rfl (by kernel_rfl) ?_
                refine O.storeA (vs := [str (a.2[i]'hi2).1, slv s47]) Tryz.sizeOf56 rfl rfl rfl (ones2 rfl) (h6.keep e8) (Nat.le_of_ble_eq_true rfl) (fun w9 hs9 e9 z9 => ?_)
                refine O.nil ⟨(Ext.new (Ext.trans e7 e8) e9 (by rintro i hi rfl; omega)), ?_⟩
                refine D.one (i := 13) rfl rfl (by kernel_rfl) ?_
                refine O.storeA (vs := [str (b.2[i]'hi3).1, slv s52]) Tryz.sizeOf56 rfl rfl rfl (ones2 rfl) (h7.keepM e9 (by intro h; (try dsimp only at h); omega)) (Nat.le_of_ble_eq_true rfl) (fun w10 hs10 e10 z10 => ?_)
                refine O.nil ⟨(Ext.new (Ext.new (Ext.trans e7 e8) e9 (by rintro i hi rfl; omega)) e10 (by rintro i hi rfl; omega)), ?_⟩
                refine D.done (by kernel_rfl) ?_
                exact ⟨(Ext.new (Ext.new (Ext.trans (Ext.trans e6 e7) e8) e9 (by rintro i hi rfl; omega)) e10 (by rintro i hi rfl; omega)), rfl, rfl, rfl, ⟨_, _, _, _, rfl, rfl, (hs9.keepM e10 (by intro h; (try dsimp only at h); omega)), hs10, ((((hm47.keep e7).keep e8).keepM e9 (by intro k hk h; first | (have q1 := hF k hk; (try dsimp only at h); omega) | (have q1 := hF2 k hk; (try dsimp only at h); omega) | (have q1 := hFb k hk; (try dsimp only at h); omega) | ((try dsimp only at hk); (try dsimp only at h); omega))).keepM e10 (by intro k hk h; first | (have q1 := hF k hk; (try dsimp only at h); omega) | (have q1 := hF2 k hk; (try dsimp only at h); omega) | (have q1 := hFb k hk; (try dsimp only at h); omega) | ((try dsimp only at hk); (try dsimp only at h); omega))), ((((hm52.keep e7).keep e8).keepM e9 (by intro k hk h; first | (have q1 := hF k hk; (try dsimp only at h); omega) | (have q1 := hF2 k hk; (try dsimp only at h); omega) | (have q1 := hFb k hk; (try dsimp only at h); omega) | ((try dsimp only at hk); (try dsimp only at h); omega))).keepM e10 (by intro k hk h; first | (have q1 := hF k hk; (try dsimp only at h); omega) | (have q1 := hF2 k hk; (try dsimp only at h); omega) | (have q1 := hFb k hk; (try dsimp only at h); omega) | ((try dsimp only at hk); (try dsimp only at h); omega)))⟩⟩
              ·
                refine D.stepU rfl rfl ?_
                refine O.alloc Tryz.zeroValue56 (fun b7 w11 hb7 hz7 e11 => ?_)
                have z11 := e11.size
                have h7 := hz7.own
                have hl7 := h7.lt
                refine O.nil ⟨e11, ?_⟩
                refine D.one (i := 10) rfl rfl (by kernel_rfl) ?_
                refine O.alloc Tryz.zeroValue56 (fun b6 w12 hb6 hz6 e12 => ?_)
                have z12 := e12.size
                have h6 := hz6.own
                have hl6 := h6.lt
                refine O.nil ⟨(Ext.trans e11 e12), ?_⟩
                refine D.one (i := 12) rfl rfl (by kernel_rfl) ?_
                refine O.storeA (vs := [str (a.2[i]'hi2).1, slv s47]) Tryz.sizeOf56 rfl rfl rfl (ones2 rfl) h6 (Nat.le_of_ble_eq_true rfl) (fun w13 hs13 e13 z13 => ?_)
                refine O.nil ⟨(Ext.new (Ext.trans e11 e12) e13 (by rintro i hi rfl; omega)), ?_⟩
                refine D.one (i := 13) rfl rfl (by kernel_rfl) ?_
                refine O.storeA (vs := [str (b.2[i]'hi3).1, slv s52]) Tryz.sizeOf56 rfl rfl rfl (ones2 rfl) ((h7.keep e12).keepM e13 (by intro h; (try dsimp only at h); omega)) (Nat.le_of_ble_eq_true rfl) (fun w14 hs14 e14 z14 => ?_)
                refine O.nil ⟨(Ext.new (Ext.new (Ext.trans e11 e12) e13 (by rintro i hi rfl; omega)) e14 (by rintro i hi rfl; omega)), ?_⟩
                refine D.done (by kernel_rfl) ?_
                exact ⟨(Ext.new (Ext.new (Ext.trans (Ext.trans e6 e11) e12) e13 (by rintro i hi rfl; omega)) e14 (by rintro i hi rfl; omega)), rfl, rfl, rfl, ⟨_, _, _, _, rfl, rfl, (hs13.keepM e14 (by intro h; (try dsimp only at h); omega)), hs14, ((((hm47.keep e11).keep e12).keepM e13 (by intro k hk h; first | (have q1 := hF k hk; (try dsimp only at h); omega) | (have q1 := hF2 k hk; (try dsimp only at h); omega) | (have q1 := hFb k hk; (try dsimp only at h); omega) | ((try dsimp only at hk); (try dsimp only at h); omega))).keepM e14 (by intro k hk h; first | (have q1 := hF k hk; (try dsimp only at h); omega) | (have q1 := hF2 k hk; (try dsimp only at h); omega) | (have q1 := hFb k hk; (try dsimp only at h); omega) | ((try dsimp only at hk); (try dsimp only at h); omega))), ((((hm52.keep e11).keep e12).keepM e13 (by intro k hk h; first | (have q1 := hF k hk; (try dsimp only at h); omega) | (have q1 := hF2 k hk; (try dsimp only at h); omega) | (have q1 := hFb k hk; (try dsimp only at h); omega) | ((try dsimp only at hk); (try dsimp only at h); omega))).keepM e14 (by intro k hk h; first | (have q1 := hF k hk; (try dsimp only at h); omega) | (have q1 := hF2 k hk; (try dsimp only at h); omega) | (have q1 := hFb k hk; (try dsimp only at h); omega) | ((try dsimp only at hk); (try dsimp only at h); omega)))⟩⟩
            ·
              rintro f_2 w15 ⟨e_2, s2_2, s3_2, s5_2, ⟨b6, b7, vx, vy, s6_2, s7_2, q0_2, q1_2, q2_2, q3_2⟩⟩
              have z_2 := e_2.size
              have hlx := q2_2.le
              have hly := q3_2.le
              refine hK14 _ _ ?_
              refine C.seqK fun K15 hK15 => ?_
              refine C.seqK fun K16 hK16 => ?_
              refine C.region ?_
              refine O.fieldAd Tryz.underlying56 rfl Tryz.sizeOf9 (by decide) s6_2 ?_
              refine O.loadO Tryz.isAgg9 rfl q0_2 rfl ?_
              refine O.fieldAd Tryz.underlying56 rfl Tryz.sizeOf9 (by decide) s7_2 ?_
              refine O.loadO Tryz.isAgg9 rfl q1_2 rfl ?_
              refine O.neqS rfl rfl ?_
              refine O.mv ?_
              refine O.splitD (x := .tmp 58) rfl (fun c58 => ?_) (fun c58 => ?_)
              ·
                refine O.no rfl (noB (isT rfl c58) rfl) ?_
                refine O.no rfl (noB (isT rfl c58) rfl) ?_
                refine O.no rfl (noB (isT rfl c58) rfl) ?_
                refine O.no rfl (noB (isT rfl c58) rfl) ?_
                refine O.no rfl (noB (isT rfl c58) rfl) ?_
                refine O.no rfl (noB (isT rfl c58) rfl) ?_
                refine O.no rfl (noB (isT rfl c58) rfl) ?_
                refine O.pickT (isT rfl c58) ?_
                refine O.nil ?_
                refine hK16 _ _ ?_
                refine C.condT rfl ?_
                refine C.seqK fun K17 hK17 => ?_
                refine C.region ?_
                refine O.asg ?_
                refine O.nil ?_
                refine hK17 _ _ ?_
                refine C.ret ?_
                refine Outs.one rfl rfl ?_
                first
                | exact ⟨congrArg Value.bool (decide_eq_false (fun h => Cn.ne_of c17 (congrArg (fun x : Cn.Cart => x.1.1) h))).symm, (Ext.trans (Ext.trans (Ext.trans (Ext.trans (Ext.trans e1 e2) e3) e4) e_1) e_2)⟩
                | exact ⟨congrArg Value.bool (decide_eq_false (fun h => Cn.ne_of c27 (congrArg (fun x : Cn.Cart => x.1.2) h))).symm, (Ext.trans (Ext.trans (Ext.trans (Ext.trans (Ext.trans e1 e2) e3) e4) e_1) e_2)⟩
                | exact ⟨congrArg Value.bool (decide_eq_false (fun h => c35 (congrArg (fun x : Cn.Cart => (x.2.length : Int)) h))).symm, (Ext.trans (Ext.trans (Ext.trans (Ext.trans (Ext.trans e1 e2) e3) e4) e_1) e_2)⟩
                | exact ⟨congrArg Value.bool (decide_eq_false (fun h => c58 (congrArg Prod.fst (Cn.item_of h hi2 hi3)))).symm, (Ext.trans (Ext.trans (Ext.trans (Ext.trans (Ext.trans e1 e2) e3) e4) e_1) e_2)⟩
                | exact ⟨congrArg Value.bool (decide_eq_false (fun h => c66 (congrArg (fun x : ItemT => (x.2.length : Int)) (Cn.item_of h hi2 hi3)))).symm, (Ext.trans (Ext.trans (Ext.trans (Ext.trans (Ext.trans e1 e2) e3) e4) e_1) e_2)⟩
                | exact ⟨congrArg Value.bool (decide_eq_false (fun h => c84 (Cn.mark_of (Cn.item_of h hi2 hi3) hj2 hj3))).symm, (Ext.trans (Ext.trans (Ext.trans (Ext.trans (Ext.trans e1 e2) e3) e4) e_1) e_2)⟩
                | (obtain rfl : i = a.2.length := by omega
                   rw [List.take_length, List.take_of_length_le (by omega)] at hI
                   exact ⟨congrArg Value.bool (decide_eq_true (Prod.ext (Prod.ext q1 q2) hI)).symm, (Ext.trans (Ext.trans (Ext.trans (Ext.trans (Ext.trans e1 e2) e3) e4) e_1) e_2)⟩)
              ·
                refine O.yes rfl (isF rfl c58) ?_
                refine O.fieldAd Tryz.underlying56 rfl Tryz.sizeOf54 (by decide) s6_2 ?_
                refine O.yes rfl (isF rfl c58) ?_
                refine O.loadO Tryz.isAgg54 rfl q0_2 rfl ?_
                refine O.yes rfl (isF rfl c58) ?_
                refine O.len Tryz.underlying54 rfl q2_2 ?_
                refine O.yes rfl (isF rfl c58) ?_
                refine O.fieldAd Tryz.underlying56 rfl Tryz.sizeOf54 (by decide) s7_2 ?_
                refine O.yes rfl (isF rfl c58) ?_
                refine O.loadO Tryz.isAgg54 rfl q1_2 rfl ?_
                refine O.yes rfl (isF rfl c58) ?_
                refine O.len Tryz.underlying54 rfl q3_2 ?_
                refine O.yes rfl (isF rfl c58) ?_
                refine O.neqI rfl rfl ?_
                refine O.pickF (isF rfl c58) ?_
                refine O.nil ?_
                refine hK16 _ _ ?_
                refine C.condD rfl (fun c66 => ?_) (fun c66 => ?_)
                ·
                  refine C.seqK fun K18 hK18 => ?_
                  refine C.region ?_
                  refine O.asg ?_
                  refine O.nil ?_
                  refine hK18 _ _ ?_
                  refine C.ret ?_
                  refine Outs.one rfl rfl ?_
                  first
                  | exact ⟨congrArg Value.bool (decide_eq_false (fun h => Cn.ne_of c17 (congrArg (fun x : Cn.Cart => x.1.1) h))).symm, (Ext.trans (Ext.trans (Ext.trans (Ext.trans (Ext.trans e1 e2) e3) e4) e_1) e_2)⟩
                  | exact ⟨congrArg Value.bool (decide_eq_false (fun h => Cn.ne_of c27 (congrArg (fun x : Cn.Cart => x.1.2) h))).symm, (Ext.trans (Ext.trans (Ext.trans (Ext.trans (Ext.trans e1 e2) e3) e4) e_1) e_2)⟩
                  | exact ⟨congrArg Value.bool (decide_eq_false (fun h => c35 (congrArg (fun x : Cn.Cart => (x.2.length : Int)) h))).symm, (Ext.trans (Ext.trans (Ext.trans (Ext.trans (Ext.trans e1 e2) e3) e4) e_1) e_2)⟩
                  | exact ⟨congrArg Value.bool (decide_eq_false (fun h => c58 (congrArg Prod.fst (Cn.item_of h hi2 hi3)))).symm, (Ext.trans (Ext.trans (Ext.trans (Ext.trans (Ext.trans e1 e2) e3) e4) e_1) e_2)⟩
                  | exact ⟨congrArg Value.bool (decide_eq_false (fun h => c66 (congrArg (fun x : ItemT => (x.2.length : Int)) (Cn.item_of h hi2 hi3)))).symm, (Ext.trans (Ext.trans (Ext.trans (Ext.trans (Ext.trans e1 e2) e3) e4) e_1) e_2)⟩
                  | exact ⟨congrArg Value.bool (decide_eq_false (fun h => c84 (Cn.mark_of (Cn.item_of h hi2 hi3) hj2 hj3))).symm, (Ext.trans (Ext.trans (Ext.trans (Ext.trans (Ext.trans e1 e2) e3) e4) e_1) e_2)⟩
                  | (obtain rfl : i = a.2.length := by omega
                     rw [List.take_length, List.take_of_length_le (by omega)] at hI
                     exact ⟨congrArg Value.bool (decide_eq_true (Prod.ext (Prod.ext q1 q2) hI)).symm, (Ext.trans (Ext.trans (Ext.trans (Ext.trans (Ext.trans e1 e2) e3) e4) e_1) e_2)⟩)
                ·
                  have q4 : (a.2[i]'hi2).1 = (b.2[i]'hi3).1 := Decidable.of_not_not c58
                  have q5 : (a.2[i]'hi2).2.length = (b.2[i]'hi3).2.length := by omega
                  refine C.skip ?_
                  refine hK15 _ _ ?_
                  refine C.seqK fun K19 hK19 => ?_
                  refine C.region ?_
                  refine O.asg ?_
                  refine O.nil ?_
                  refine hK19 _ _ ?_
                  refine C.block fun K20 hK20 => ?_
                  refine C.loop0 (σ := Nat) (fun f0 w0 j f w => f 8 = .int .i64 (j) ∧ f 2 = f0 2 ∧ f 3 = f0 3 ∧ f 5 = f0 5 ∧ f 6 = f0 6 ∧ f 7 = f0 7 ∧ Le w0 w ∧ j ≤ (a.2[i]'hi2).2.length ∧ (a.2[i]'hi2).2.take j = (b.2[i]'hi3).2.take j) (fun j => (a.2[i]'hi2).2.length - j) 0 ?_ ?_
                  ·
                    refine ⟨rfl, rfl, rfl, rfl, rfl, rfl, Le.refl _, ?_⟩
                    exact ⟨Nat.zero_le _, rfl⟩
                  ·
                    rintro j f_3 w16 ⟨s8_3, s2_3, s3_3, s5_3, s6_3, s7_3, e_3, ⟨hj, hJ⟩⟩
                    have z_3 := e_3.size
                    refine C.seqK fun K21 hK21 => ?_
                    refine C.seqK fun K22 hK22 => ?_
                    refine C.region ?_
                    refine O.mv ?_
                    refine O.fieldAd Tryz.underlying56 rfl Tryz.sizeOf54 (by decide) (Eq.trans s6_3 s6_2) ?_
                    refine O.loadO Tryz.isAgg54 rfl (q0_2.keep e_3) rfl ?_
                    refine O.len Tryz.underlying54 rfl (q2_2.keep e_3) ?_
                    refine O.lssI s8_3 rfl ?_
                    refine O.nil ?_
                    refine hK22 _ _ ?_
                    refine C.condD rfl (fun c71 => ?_) (fun c71 => ?_)
                    ·
                      have hj2 : j < (a.2[i]'hi2).2.length := by omega
                      have hj3 : j < (b.2[i]'hi3).2.length := by omega
                      refine C.skip ?_
                      refine hK21 _ _ ?_
                      refine C.seqK fun K23 hK23 => ?_
                      refine C.block fun K24 hK24 => ?_
                      refine C.seqK fun K25 hK25 => ?_
                      refine C.draw (by kernel_rfl) fun w17 e17 => ?_
                      have z17 := e17.size
                      refine D.take (i := 0) rfl rfl rfl rfl (by kernel_rfl) (Le.refl _) ⟨_, rfl⟩ (fun w_ hw_ N_ hN => (O.fieldAd Tryz.underlying56 rfl Tryz.sizeOf54 (by decide) (Eq.trans s6_3 s6_2) (O.nil hN))) ?_
                      refine D.take (i := 1) rfl rfl rfl rfl (by kernel_rfl) (Le.refl _) ⟨_, rfl⟩ (fun w_ hw_ N_ hN => (O.loadO Tryz.isAgg54 rfl (((q0_2.keep e_3).keep e17).keep hw_) rfl (O.nil hN))) ?_
                      refine D.take (i := 2) rfl rfl rfl rfl (by kernel_rfl) (Le.refl _) ⟨pure _, rfl⟩ (fun w_ hw_ N_ hN => (O.mv (O.nil hN))) ?_
                      obtain ⟨a77, h77, hr77⟩ := Sl.at (i := (j : Int)) (P := Tryz.prog) Tryz.underlying54 Tryz.sizeOf53 rfl ((q2_2.keep e_3).keep e17) (by omega)
                      refine D.take (i := 3) rfl rfl rfl rfl (by kernel_rfl) (Le.refl _) ⟨_, rfl⟩ (fun w_ hw_ N_ hN => (O.idxR rfl s8_3 hr77 (O.nil hN))) ?_
                      refine D.take (i := 4) rfl rfl rfl rfl (by kernel_rfl) (Le.refl _) ⟨_, rfl⟩ (fun w_ hw_ N_ hN => (O.loadG (G := markF) Tryz.isAgg53 Tryz.sizeOf53 rfl (h77.keep hw_) (O.nil hN))) ?_
                      refine D.take (i := 5) rfl rfl rfl rfl (by kernel_rfl) (Le.refl _) ⟨_, rfl⟩ (fun w_ hw_ N_ hN => (O.fieldAd Tryz.underlying56 rfl Tryz.sizeOf54 (by decide) (Eq.trans s7_3 s7_2) (O.nil hN))) ?_
                      refine D.take (i := 6) rfl rfl rfl rfl (by kernel_rfl) (Le.refl _) ⟨_, rfl⟩ (fun w_ hw_ N_ hN => (O.loadO Tryz.isAgg54 rfl (((q1_2.keep e_3).keep e17).keep hw_) rfl (O.nil hN))) ?_
                      refine D.take (i := 7) rfl rfl rfl rfl (by kernel_rfl) (Le.refl _) ⟨pure _, rfl⟩ (fun w_ hw_ N_ hN => (O.mv (O.nil hN))) ?_
                      obtain ⟨a82, h82, hr82⟩ := Sl.at (i := (j : Int)) (P := Tryz.prog) Tryz.underlying54 Tryz.sizeOf53 rfl ((q3_2.keep e_3).keep e17) (by omega)
                      refine D.take (i := 8) rfl rfl rfl rfl (by kernel_rfl) (Le.refl _) ⟨_, rfl⟩ (fun w_ hw_ N_ hN => (O.idxR rfl s8_3 hr82 (O.nil hN))) ?_
                      refine D.take (i := 9) rfl rfl rfl rfl (by kernel_rfl) (Le.refl _) ⟨_, rfl⟩ (fun w_ hw_ N_ hN => (O.loadG (G := markF) Tryz.isAgg53 Tryz.sizeOf53 rfl (h82.keep hw_) (O.nil hN))) ?_
                      refine D.take (i := 10) rfl rfl rfl rfl (by kernel_rfl) (Le.refl _) ⟨_, rfl⟩ (fun w_ hw_ N_ hN => (O.neqM (a := (a.2[i]'hi2).2[j]'hj2) (b := (b.2[i]'hi3).2[j]'hj3) (fun a b => run_eq_mark Tryz.underlying53 (by decide) (by decide) (by decide) rfl rfl rfl Tryz.underlying51 (by decide) (by decide) rfl rfl Tryz.underlying3 Tryz.underlying3 Tryz.underlying3 Tryz.underlying49 Tryz.isAgg3 Tryz.isAgg3 Tryz.isAgg51 Tryz.sizeOf51 Tryz.isAgg3 Tryz.isAgg49 (by kernel_rfl) (by kernel_rfl) a b) (by kernel_rfl) rfl rfl (O.nil hN))) ?_
                      refine D.done (by kernel_rfl) ?_
                      refine hK25 _ _ ?_
                      refine C.condD rfl (fun c84 => ?_) (fun c84 => ?_)
                      ·
                        try simp only [Int.toNat_natCast] at c84
                        refine C.seqK fun K26 hK26 => ?_
                        refine C.region ?_
                        refine O.asg ?_
                        refine O.nil ?_
                        refine hK26 _ _ ?_
                        refine C.ret ?_
                        refine Outs.one rfl rfl ?_
                        first
                        | exact ⟨congrArg Value.bool (decide_eq_false (fun h => Cn.ne_of c17 (congrArg (fun x : Cn.Cart => x.1.1) h))).symm, (Ext.trans (Ext.trans (Ext.trans (Ext.trans (Ext.trans (Ext.trans (Ext.trans e1 e2) e3) e4) e_1) e_2) e_3) e17)⟩
                        | exact ⟨congrArg Value.bool (decide_eq_false (fun h => Cn.ne_of c27 (congrArg (fun x : Cn.Cart => x.1.2) h))).symm, (Ext.trans (Ext.trans (Ext.trans (Ext.trans (Ext.trans (Ext.trans (Ext.trans e1 e2) e3) e4) e_1) e_2) e_3) e17)⟩
                        | exact ⟨congrArg Value.bool (decide_eq_false (fun h => c35 (congrArg (fun x : Cn.Cart => (x.2.length : Int)) h))).symm, (Ext.trans (Ext.trans (Ext.trans (Ext.trans (Ext.trans (Ext.trans (Ext.trans e1 e2) e3) e4) e_1) e_2) e_3) e17)⟩
                        | exact ⟨congrArg Value.bool (decide_eq_false (fun h => c58 (congrArg Prod.fst (Cn.item_of h hi2 hi3)))).symm, (Ext.trans (Ext.trans (Ext.trans (Ext.trans (Ext.trans (Ext.trans (Ext.trans e1 e2) e3) e4) e_1) e_2) e_3) e17)⟩
                        | exact ⟨congrArg Value.bool (decide_eq_false (fun h => c66 (congrArg (fun x : ItemT => (x.2.length : Int)) (Cn.item_of h hi2 hi3)))).symm, (Ext.trans (Ext.trans (Ext.trans (Ext.trans (Ext.trans (Ext.trans (Ext.trans e1 e2) e3) e4) e_1) e_2) e_3) e17)⟩
                        | exact ⟨congrArg Value.bool (decide_eq_false (fun h => c84 (Cn.mark_of (Cn.item_of h hi2 hi3) hj2 hj3))).symm, (Ext.trans (Ext.trans (Ext.trans (Ext.trans (Ext.trans (Ext.trans (Ext.trans e1 e2) e3) e4) e_1) e_2) e_3) e17)⟩
                        | (obtain rfl : i = a.2.length := by omega
                           rw [List.take_length, List.take_of_length_le (by omega)] at hI
                           exact ⟨congrArg Value.bool (decide_eq_true (Prod.ext (Prod.ext q1 q2) hI)).symm, (Ext.trans (Ext.trans (Ext.trans (Ext.trans (Ext.trans (Ext.trans (Ext.trans e1 e2) e3) e4) e_1) e_2) e_3) e17)⟩)
                      ·
                        refine C.skip ?_
                        refine hK24 _ _ ?_
                        refine hK23 _ _ ?_
                        refine C.region ?_
                        refine O.mv ?_
                        refine O.addI s8_3 rfl (by unfold InI; omega) ?_
                        refine O.asg ?_
                        refine O.nil ?_
                        refine ⟨j + 1, ⟨rfl, s2_3, s3_3, s5_3, s6_3, s7_3, (Ext.trans e_3 e17), ?_⟩, by first | omega | (simp only []; omega)⟩
                        refine ⟨by omega, ?_⟩
                        rw [List.take_succ_eq_append_getElem hj2, List.take_succ_eq_append_getElem hj3, hJ, Decidable.of_not_not c84]
                    ·
                      have hj4 : j = (a.2[i]'hi2).2.length := by omega
                      refine C.exit ?_
                      refine hK20 _ _ ?_
                      refine hK13 _ _ ?_
                      refine hK12 _ _ ?_
                      refine C.region ?_
                      refine O.mv ?_
                      refine O.addI (Eq.trans s5_3 (Eq.trans s5_2 s5_1)) rfl (by unfold InI; omega) ?_
                      refine O.asg ?_
                      refine O.nil ?_
                      refine ⟨i + 1, ⟨rfl, (Eq.trans s2_3 (Eq.trans s2_2 s2_1)), (Eq.trans s3_3 (Eq.trans s3_2 s3_1)), (Ext.trans (Ext.trans e_1 e_2) e_3), ?_⟩, by first | omega | (simp only []; omega)⟩
                      refine ⟨by omega, ?_⟩
                      have q6 : (a.2[i]'hi2).2 = (b.2[i]'hi3).2 := by rw [hj4, List.take_length, List.take_of_length_le (by omega)] at hJ; exact hJ
                      rw [List.take_succ_eq_append_getElem hi2, List.take_succ_eq_append_getElem hi3, hI, show (a.2[i]'hi2) = (b.2[i]'hi3) from Prod.ext q4 q6]
          ·
            refine C.exit ?_
            refine hK9 _ _ ?_
            refine hK7 _ _ ?_
            refine C.seqK fun K27 hK27 => ?_
            refine C.region ?_
            refine O.asg ?_
            refine O.nil ?_
            refine hK27 _ _ ?_
            refine C.ret ?_
            refine Outs.one rfl rfl ?_
            first
            | exact ⟨congrArg Value.bool (decide_eq_false (fun h => Cn.ne_of c17 (congrArg (fun x : Cn.Cart => x.1.1) h))).symm, (Ext.trans (Ext.trans (Ext.trans (Ext.trans e1 e2) e3) e4) e_1)⟩
            | exact ⟨congrArg Value.bool (decide_eq_false (fun h => Cn.ne_of c27 (congrArg (fun x : Cn.Cart => x.1.2) h))).symm, (Ext.trans (Ext.trans (Ext.trans (Ext.trans e1 e2) e3) e4) e_1)⟩
            | exact ⟨congrArg Value.bool (decide_eq_false (fun h => c35 (congrArg (fun x : Cn.Cart => (x.2.length : Int)) h))).symm, (Ext.trans (Ext.trans (Ext.trans (Ext.trans e1 e2) e3) e4) e_1)⟩
            | exact ⟨congrArg Value.bool (decide_eq_false (fun h => c58 (congrArg Prod.fst (Cn.item_of h hi2 hi3)))).symm, (Ext.trans (Ext.trans (Ext.trans (Ext.trans e1 e2) e3) e4) e_1)⟩
            | exact ⟨congrArg Value.bool (decide_eq_false (fun h => c66 (congrArg (fun x : ItemT => (x.2.length : Int)) (Cn.item_of h hi2 hi3)))).symm, (Ext.trans (Ext.trans (Ext.trans (Ext.trans e1 e2) e3) e4) e_1)⟩
            | exact ⟨congrArg Value.bool (decide_eq_false (fun h => c84 (Cn.mark_of (Cn.item_of h hi2 hi3) hj2 hj3))).symm, (Ext.trans (Ext.trans (Ext.trans (Ext.trans e1 e2) e3) e4) e_1)⟩
            | (obtain rfl : i = a.2.length := by omega
               rw [List.take_length, List.take_of_length_le (by omega)] at hI
               exact ⟨congrArg Value.bool (decide_eq_true (Prod.ext (Prod.ext q1 q2) hI)).symm, (Ext.trans (Ext.trans (Ext.trans (Ext.trans e1 e2) e3) e4) e_1)⟩)

end Go.Proofs.YtnkcmaoaagnopaaGreatDoor
