/-
  The walks of contexts: what is allowed, what a context has. Conditions: slices as they lie in memory.
-/
import Derived.Test.YtnkcmaoaagnopaaGreatDoorFw19
import Derived.Test.YtnkcmaoaagnopaaGreatDoorCn2
import Derived.Test.YtnkcmaoaagnopaaGreatDoorD2
namespace Go.Proofs.YtnkcmaoaagnopaaGreatDoor
open Go.Pn Go.RowKit

theorem vbad_spec (d : Dt.Dot) (w : World) :
    Ret Tryz.prog 88 #[Dt.dv (d)] w (fun v w' => v = .bool (Cn.badD d) ∧ Le w w') := by
  refine enter (args := [Dt.dv (d)]) (n := 6) Tryz.func88 rfl rfl (Nat.le_of_ble_eq_true rfl) ?_
  refine C.seqK fun K1 hK1 => ?_
  refine C.region ?_
  refine O.box (v := Dt.dv (d)) rfl (fun b1 w1 hb1 hz1 e1 => ?_)
  have z1 := e1.size
  have h1 := hz1.own
  have hl1 := h1.lt
  refine O.asg ?_
  refine O.nil ?_
  refine hK1 _ _ ?_
  refine C.seqK fun K2 hK2 => ?_
  refine C.region ?_
  refine O.loadOA Tryz.isAgg51 Tryz.sizeOf51 rfl h1 (Nat.le_of_ble_eq_true rfl) ?_
  refine O.call Tryz.call91 (args1 rfl) (valid_spec d _) ?_
  rintro v_4 w2 ⟨rfl, e2⟩
  have z2 := e2.size
  refine O.not rfl ?_
  refine O.asg ?_
  refine O.nil ?_
  refine hK2 _ _ ?_
  refine C.ret ?_
  refine Outs.one rfl rfl ?_
  exact ⟨rfl, (Ext.trans e1 e2)⟩

theorem cbad_spec (d : Dt.Dot) (w : World) :
    Ret Tryz.prog 90 #[Dt.dv (d)] w (fun v w' => v = .bool (Cn.badD d) ∧ Le w w') := by
  refine enter (args := [Dt.dv (d)]) (n := 6) Tryz.func90 rfl rfl (Nat.le_of_ble_eq_true rfl) ?_
  refine C.seqK fun K1 hK1 => ?_
  refine C.region ?_
  refine O.box (v := Dt.dv (d)) rfl (fun b1 w1 hb1 hz1 e1 => ?_)
  have z1 := e1.size
  have h1 := hz1.own
  have hl1 := h1.lt
  refine O.asg ?_
  refine O.nil ?_
  refine hK1 _ _ ?_
  refine C.seqK fun K2 hK2 => ?_
  refine C.region ?_
  refine O.loadOA Tryz.isAgg51 Tryz.sizeOf51 rfl h1 (Nat.le_of_ble_eq_true rfl) ?_
  refine O.call Tryz.call91 (args1 rfl) (valid_spec d _) ?_
  rintro v_4 w2 ⟨rfl, e2⟩
  have z2 := e2.size
  refine O.not rfl ?_
  refine O.asg ?_
  refine O.nil ?_
  refine hK2 _ _ ?_
  refine C.ret ?_
  refine Outs.one rfl rfl ?_
  exact ⟨rfl, (Ext.trans e1 e2)⟩

theorem pred_vbad (M : Nat → Prop) (w : World) : Pred Tryz.prog M w (.func (.func 88) #[] #[]) Dt.dv Cn.badD := ⟨88, [], rfl, Tryz.call88, fun d w' _ => vbad_spec d w'⟩
theorem pred_cbad (M : Nat → Prop) (w : World) : Pred Tryz.prog M w (.func (.func 90) #[] #[]) Dt.dv Cn.badD := ⟨90, [], rfl, Tryz.call90, fun d w' _ => cbad_spec d w'⟩
theorem indexV_spec (v0 vf : Value) (l : List Dt.Dot) (F M : Nat → Prop) (p : Dt.Dot → Bool) (w : World) (hl : Sl Dt.dotF.enc w F v0 l) (hp : Pred Tryz.prog M w vf Dt.dv p) :
    Ret Tryz.prog 62 #[v0, vf] w (fun v w' => v = .int .i64 (Cn.idx p l) ∧ Le w w') := by
  have hle := hl.le
  refine enter (args := [v0, vf]) (n := 19) Tryz.func62 rfl rfl (Nat.le_of_ble_eq_true rfl) ?_
  refine C.seqK fun K1 hK1 => ?_
  refine C.region ?_
  refine O.asg ?_
  refine O.nil ?_
  refine hK1 _ _ ?_
  refine C.seqK fun K2 hK2 => ?_
  refine C.seqK fun K3 hK3 => ?_
  refine C.region ?_
  refine O.mv ?_
  refine O.len Tryz.underlying23 rfl hl ?_
  refine O.mv ?_
  refine O.nil ?_
  refine hK3 _ _ ?_
  refine C.block fun K4 hK4 => ?_
  refine C.loop0 (σ := Nat) (fun f0 w0 k f wz => f 8 = .int .i64 (k) ∧ f 0 = f0 0 ∧ f 1 = f0 1 ∧ f 7 = f0 7 ∧ Le w wz ∧ k ≤ l.length ∧ ∀ i, ∀ h : i < l.length, i < k → p l[i] = false) (fun k => l.length - k) 0 ?_ ?_
  ·
    refine ⟨rfl, rfl, rfl, rfl, (Le.refl _), ?_⟩
    exact ⟨Nat.zero_le _, fun i h k => absurd k (Nat.not_lt_zero _)⟩
  ·
    rintro k f_1 w1 ⟨s8_1, s0_1, s1_1, s7_1, e_1, ⟨hk, hI⟩⟩
    have z_1 := e_1.size
    refine C.seqK fun K5 hK5 => ?_
    refine C.region ?_
    refine O.lssI s8_1 s7_1 ?_
    refine O.nil ?_
    refine hK5 _ _ ?_
    refine C.seqK fun K6 hK6 => ?_
    refine C.condD rfl (fun c9 => ?_) (fun c9 => ?_)
    ·
      have hk2 : k < l.length := by omega
      refine C.skip ?_
      refine hK6 _ _ ?_
      refine C.seqK fun K7 hK7 => ?_
      refine C.block fun K8 hK8 => ?_
      refine C.seqK fun K9 hK9 => ?_
      refine C.region ?_
      refine O.mv ?_
      refine O.asg ?_
      refine O.nil ?_
      refine hK9 _ _ ?_
      refine C.seqK fun K10 hK10 => ?_
      refine C.region ?_
      refine O.mv ?_
      refine O.mv ?_
      refine O.mv ?_
      refine O.idx Tryz.underlying23 Tryz.sizeOf51 rfl s0_1 (hl.keep e_1) s8_1 (by omega) (fun a14 h14 => ?_)
      refine O.loadG (G := Dt.dotF) Tryz.isAgg51 Tryz.sizeOf51 rfl h14 ?_
      refine O.callP (_) (hp.keep e_1) s1_1 rfl (fun w2 e2 => ?_)
      have z2 := e2.size
      refine O.nil ?_
      refine hK10 _ _ ?_
      refine C.cond rfl (fun c16 => ?_) (fun c16 => ?_)
      ·
        simp only [Int.toNat_natCast] at c16
        refine C.seqK fun K11 hK11 => ?_
        refine C.region ?_
        refine O.mv ?_
        refine O.asg ?_
        refine O.nil ?_
        refine hK11 _ _ ?_
        refine C.ret ?_
        refine Outs.one rfl s8_1 ?_
        first
        | exact ⟨congrArg (Value.int .i64) (Cn.idx_yes hk2 c16 hI).symm, (Ext.trans e_1 e2)⟩
        | exact ⟨congrArg (Value.int .i64) (Cn.idx_no fun i hi => hI i hi (by omega)).symm, (Ext.trans e_1 e2)⟩
      ·
        simp only [Int.toNat_natCast] at c16
        refine C.skip ?_
        refine hK8 _ _ ?_
        refine hK7 _ _ ?_
        refine C.region ?_
        refine O.addI s8_1 rfl (by unfold InI; omega) ?_
        refine O.mv ?_
        refine O.nil ?_
        refine ⟨k + 1, ⟨rfl, s0_1, s1_1, s7_1, (Ext.trans e_1 e2), ?_⟩, by first | omega | (simp only []; omega)⟩
        refine ⟨by omega, fun i hi hik => ?_⟩
        rcases Nat.lt_or_eq_of_le (Nat.le_of_lt_succ hik) with h | rfl
        · exact hI i hi h
        · exact c16
    ·
      refine C.exit ?_
      refine hK4 _ _ ?_
      refine hK2 _ _ ?_
      refine C.seqK fun K12 hK12 => ?_
      refine C.region ?_
      refine O.asg ?_
      refine O.nil ?_
      refine hK12 _ _ ?_
      refine C.ret ?_
      refine Outs.one rfl rfl ?_
      first
      | exact ⟨congrArg (Value.int .i64) (Cn.idx_yes hk2 c16 hI).symm, e_1⟩
      | exact ⟨congrArg (Value.int .i64) (Cn.idx_no fun i hi => hI i hi (by omega)).symm, e_1⟩

theorem indexD_spec (v0 vf : Value) (l : List Dt.Dot) (F M : Nat → Prop) (p : Dt.Dot → Bool) (w : World) (hl : Sl Dt.dotF.enc w F v0 l) (hp : Pred Tryz.prog M w vf Dt.dv p) :
    Ret Tryz.prog 67 #[v0, vf] w (fun v w' => v = .int .i64 (Cn.idx p l) ∧ Le w w') := by
  have hle := hl.le
  refine enter (args := [v0, vf]) (n := 19) Tryz.func67 rfl rfl (Nat.le_of_ble_eq_true rfl) ?_
  refine C.seqK fun K1 hK1 => ?_
  refine C.region ?_
  refine O.asg ?_
  refine O.nil ?_
  refine hK1 _ _ ?_
  refine C.seqK fun K2 hK2 => ?_
  refine C.seqK fun K3 hK3 => ?_
  refine C.region ?_
  refine O.mv ?_
  refine O.len Tryz.underlying22 rfl hl ?_
  refine O.mv ?_
  refine O.nil ?_
  refine hK3 _ _ ?_
  refine C.block fun K4 hK4 => ?_
  refine C.loop0 (σ := Nat) (fun f0 w0 k f wz => f 8 = .int .i64 (k) ∧ f 0 = f0 0 ∧ f 1 = f0 1 ∧ f 7 = f0 7 ∧ Le w wz ∧ k ≤ l.length ∧ ∀ i, ∀ h : i < l.length, i < k → p l[i] = false) (fun k => l.length - k) 0 ?_ ?_
  ·
    refine ⟨rfl, rfl, rfl, rfl, (Le.refl _), ?_⟩
    exact ⟨Nat.zero_le _, fun i h k => absurd k (Nat.not_lt_zero _)⟩
  ·
    rintro k f_1 w1 ⟨s8_1, s0_1, s1_1, s7_1, e_1, ⟨hk, hI⟩⟩
    have z_1 := e_1.size
    refine C.seqK fun K5 hK5 => ?_
    refine C.region ?_
    refine O.lssI s8_1 s7_1 ?_
    refine O.nil ?_
    refine hK5 _ _ ?_
    refine C.seqK fun K6 hK6 => ?_
    refine C.condD rfl (fun c9 => ?_) (fun c9 => ?_)
    ·
      have hk2 : k < l.length := by omega
      refine C.skip ?_
      refine hK6 _ _ ?_
      refine C.seqK fun K7 hK7 => ?_
      refine C.block fun K8 hK8 => ?_
      refine C.seqK fun K9 hK9 => ?_
      refine C.region ?_
      refine O.mv ?_
      refine O.asg ?_
      refine O.nil ?_
      refine hK9 _ _ ?_
      refine C.seqK fun K10 hK10 => ?_
      refine C.region ?_
      refine O.mv ?_
      refine O.mv ?_
      refine O.mv ?_
      refine O.idx Tryz.underlying22 Tryz.sizeOf51 rfl s0_1 (hl.keep e_1) s8_1 (by omega) (fun a14 h14 => ?_)
      refine O.loadG (G := Dt.dotF) Tryz.isAgg51 Tryz.sizeOf51 rfl h14 ?_
      refine O.callP (_) (hp.keep e_1) s1_1 rfl (fun w2 e2 => ?_)
      have z2 := e2.size
      refine O.nil ?_
      refine hK10 _ _ ?_
      refine C.cond rfl (fun c16 => ?_) (fun c16 => ?_)
      ·
        simp only [Int.toNat_natCast] at c16
        refine C.seqK fun K11 hK11 => ?_
        refine C.region ?_
        refine O.mv ?_
        refine O.asg ?_
        refine O.nil ?_
        refine hK11 _ _ ?_
        refine C.ret ?_
        refine Outs.one rfl s8_1 ?_
        first
        | exact ⟨congrArg (Value.int .i64) (Cn.idx_yes hk2 c16 hI).symm, (Ext.trans e_1 e2)⟩
        | exact ⟨congrArg (Value.int .i64) (Cn.idx_no fun i hi => hI i hi (by omega)).symm, (Ext.trans e_1 e2)⟩
      ·
        simp only [Int.toNat_natCast] at c16
        refine C.skip ?_
        refine hK8 _ _ ?_
        refine hK7 _ _ ?_
        refine C.region ?_
        refine O.addI s8_1 rfl (by unfold InI; omega) ?_
        refine O.mv ?_
        refine O.nil ?_
        refine ⟨k + 1, ⟨rfl, s0_1, s1_1, s7_1, (Ext.trans e_1 e2), ?_⟩, by first | omega | (simp only []; omega)⟩
        refine ⟨by omega, fun i hi hik => ?_⟩
        rcases Nat.lt_or_eq_of_le (Nat.le_of_lt_succ hik) with h | rfl
        · exact hI i hi h
        · exact c16
    ·
      refine C.exit ?_
      refine hK4 _ _ ?_
      refine hK2 _ _ ?_
      refine C.seqK fun K12 hK12 => ?_
      refine C.region ?_
      refine O.asg ?_
      refine O.nil ?_
      refine hK12 _ _ ?_
      refine C.ret ?_
      refine Outs.one rfl rfl ?_
      first
      | exact ⟨congrArg (Value.int .i64) (Cn.idx_yes hk2 c16 hI).symm, e_1⟩
      | exact ⟨congrArg (Value.int .i64) (Cn.idx_no fun i hi => hI i hi (by omega)).symm, e_1⟩

theorem containsV_spec (v0 vf : Value) (l : List Dt.Dot) (F M : Nat → Prop) (p : Dt.Dot → Bool) (w : World) (hl : Sl Dt.dotF.enc w F v0 l) (hp : Pred Tryz.prog M w vf Dt.dv p) :
    Ret Tryz.prog 87 #[v0, vf] w (fun v w' => v = .bool (l.any p) ∧ Le w w') := by
  refine enter (args := [v0, vf]) (n := 9) Tryz.func87 rfl rfl (Nat.le_of_ble_eq_true rfl) ?_
  refine C.seqK fun K1 hK1 => ?_
  refine C.region ?_
  refine O.asg ?_
  refine O.nil ?_
  refine hK1 _ _ ?_
  refine C.seqK fun K2 hK2 => ?_
  refine C.region ?_
  refine O.mv ?_
  refine O.mv ?_
  refine O.call Tryz.call62 (args2 rfl rfl) (indexV_spec _ _ _ _ _ _ _ hl hp) ?_
  rintro v_7 w1 ⟨rfl, e1⟩
  have z1 := e1.size
  refine O.geqI rfl rfl ?_
  refine O.asg ?_
  refine O.nil ?_
  refine hK2 _ _ ?_
  refine C.ret ?_
  refine Outs.one rfl rfl ?_
  exact ⟨congrArg Value.bool (Cn.idx_any l), e1⟩

theorem containsD_spec (v0 vf : Value) (l : List Dt.Dot) (F M : Nat → Prop) (p : Dt.Dot → Bool) (w : World) (hl : Sl Dt.dotF.enc w F v0 l) (hp : Pred Tryz.prog M w vf Dt.dv p) :
    Ret Tryz.prog 43 #[v0, vf] w (fun v w' => v = .bool (l.any p) ∧ Le w w') := by
  refine enter (args := [v0, vf]) (n := 9) Tryz.func43 rfl rfl (Nat.le_of_ble_eq_true rfl) ?_
  refine C.seqK fun K1 hK1 => ?_
  refine C.region ?_
  refine O.asg ?_
  refine O.nil ?_
  refine hK1 _ _ ?_
  refine C.seqK fun K2 hK2 => ?_
  refine C.region ?_
  refine O.mv ?_
  refine O.mv ?_
  refine O.call Tryz.call67 (args2 rfl rfl) (indexD_spec _ _ _ _ _ _ _ hl hp) ?_
  rintro v_7 w1 ⟨rfl, e1⟩
  have z1 := e1.size
  refine O.geqI rfl rfl ?_
  refine O.asg ?_
  refine O.nil ?_
  refine hK2 _ _ ?_
  refine C.ret ?_
  refine Outs.one rfl rfl ?_
  exact ⟨congrArg Value.bool (Cn.idx_any l), e1⟩

theorem vecValid_spec (v0 : Value) (l : List Dt.Dot) (F : Nat → Prop) (w : World) (hl : Sl Dt.dotF.enc w F v0 l) :
    Ret Tryz.prog 64 #[v0] w (fun v w' => v = .bool (Cn.vecValid l) ∧ Le w w') := by
  have hle := hl.le
  refine enter (args := [v0]) (n := 25) Tryz.func64 rfl rfl (Nat.le_of_ble_eq_true rfl) ?_
  refine C.seqK fun K1 hK1 => ?_
  refine C.region ?_
  refine O.asg ?_
  refine O.nil ?_
  refine hK1 _ _ ?_
  refine C.seqK fun K2 hK2 => ?_
  refine C.seqK fun K3 hK3 => ?_
  refine C.region ?_
  refine O.asg ?_
  refine O.nil ?_
  refine hK3 _ _ ?_
  refine C.block fun K4 hK4 => ?_
  refine C.loop0 (σ := Nat) (fun f0 w0 k f wz => f 3 = .int .i64 ((k : Int) + 1) ∧ f 0 = f0 0 ∧ Le w wz ∧ ∀ i, ∀ h : i + 1 < l.length, i < k → decide (l[i].1 < l[i + 1].1) = true) (fun k => l.length - k) 0 ?_ ?_
  ·
    refine ⟨(Eq.trans rfl (i64_eq (by omega))), rfl, (Le.refl _), ?_⟩
    exact fun i h k => absurd k (Nat.not_lt_zero _)
  ·
    rintro k f_1 w1 ⟨s3_1, s0_1, e_1, hI⟩
    have z_1 := e_1.size
    refine C.seqK fun K5 hK5 => ?_
    refine C.seqK fun K6 hK6 => ?_
    refine C.region ?_
    refine O.mv ?_
    refine O.mv ?_
    refine O.len Tryz.underlying23 s0_1 (hl.keep e_1) ?_
    refine O.lssI s3_1 rfl ?_
    refine O.nil ?_
    refine hK6 _ _ ?_
    refine C.condD rfl (fun c7 => ?_) (fun c7 => ?_)
    ·
      have hk2 : k + 1 < l.length := by omega
      have x0 : ((k : Int) + 1 - 1).toNat = k := by omega
      have x1 : ((k : Int) + 1).toNat = k + 1 := by omega
      refine C.skip ?_
      refine hK5 _ _ ?_
      refine C.seqK fun K7 hK7 => ?_
      refine C.block fun K8 hK8 => ?_
      refine C.seqK fun K9 hK9 => ?_
      refine C.draw (by kernel_rfl) fun w2 e2 => ?_
      have z2 := e2.size
      refine D.take (i := 0) rfl rfl rfl rfl (by kernel_rfl) (Le.refl _) ⟨pure _, rfl⟩ (fun w_ hw_ N_ hN => (O.mv (O.nil hN))) ?_
      refine D.take (i := 1) rfl rfl rfl rfl (by kernel_rfl) (Le.refl _) ⟨pure _, rfl⟩ (fun w_ hw_ N_ hN => (O.mv (O.nil hN))) ?_
      refine D.take (i := 2) rfl rfl rfl rfl (by kernel_rfl) (Le.refl _) ⟨_, rfl⟩ (fun w_ hw_ N_ hN => (O.subI s3_1 rfl (by unfold InI; omega) (O.nil hN))) ?_
      obtain ⟨a13, h13, hr13⟩ := Sl.at (i := (k : Int) + 1 - 1) (P := Tryz.prog) Tryz.underlying23 Tryz.sizeOf51 rfl ((hl.keep e_1).keep e2) (by omega)
      refine D.take (i := 3) rfl rfl rfl rfl (by kernel_rfl) (Le.refl _) ⟨_, rfl⟩ (fun w_ hw_ N_ hN => (O.idxR s0_1 rfl hr13 (O.nil hN))) ?_
      refine D.take (i := 4) rfl rfl rfl rfl (by kernel_rfl) (Le.refl _) ⟨_, rfl⟩ (fun w_ hw_ N_ hN => (O.fieldAt Tryz.underlying51 rfl Tryz.sizeOf3 (by decide) rfl (O.nil hN))) ?_
      refine D.take (i := 5) rfl rfl rfl rfl (by kernel_rfl) (Le.refl _) ⟨_, rfl⟩ (fun w_ hw_ N_ hN => (O.loadAtF (G := Dt.dotF) Tryz.isAgg3 rfl rfl (h13.keep hw_) (O.nil hN))) ?_
      refine D.take (i := 6) rfl rfl rfl rfl (by kernel_rfl) (Le.refl _) ⟨pure _, rfl⟩ (fun w_ hw_ N_ hN => (O.mv (O.nil hN))) ?_
      refine D.take (i := 7) rfl rfl rfl rfl (by kernel_rfl) (Le.refl _) ⟨pure _, rfl⟩ (fun w_ hw_ N_ hN => (O.mv (O.nil hN))) ?_
      obtain ⟨a18, h18, hr18⟩ := Sl.at (i := (k : Int) + 1) (P := Tryz.prog) Tryz.underlying23 Tryz.sizeOf51 rfl ((hl.keep e_1).keep e2) (by omega)
      refine D.take (i := 8) rfl rfl rfl rfl (by kernel_rfl) (Le.refl _) ⟨_, rfl⟩ (fun w_ hw_ N_ hN => (O.idxR s0_1 s3_1 hr18 (O.nil hN))) ?_
      refine D.take (i := 9) rfl rfl rfl rfl (by kernel_rfl) (Le.refl _) ⟨_, rfl⟩ (fun w_ hw_ N_ hN => (O.fieldAt Tryz.underlying51 rfl Tryz.sizeOf3 (by decide) rfl (O.nil hN))) ?_
      refine D.take (i := 10) rfl rfl rfl rfl (by kernel_rfl) (Le.refl _) ⟨_, rfl⟩ (fun w_ hw_ N_ hN => (O.loadAtF (G := Dt.dotF) Tryz.isAgg3 rfl rfl (h18.keep hw_) (O.nil hN))) ?_
      refine D.take (i := 11) rfl rfl rfl rfl (by kernel_rfl) (Le.refl _) ⟨_, rfl⟩ (fun w_ hw_ N_ hN => (O.geqI rfl rfl (O.nil hN))) ?_
      refine D.done (by kernel_rfl) ?_
      refine hK9 _ _ ?_
      refine C.condD rfl (fun c21 => ?_) (fun c21 => ?_)
      ·
        simp only [x0, x1] at c21
        refine C.seqK fun K10 hK10 => ?_
        refine C.region ?_
        refine O.asg ?_
        refine O.nil ?_
        refine hK10 _ _ ?_
        refine C.ret ?_
        refine Outs.one rfl rfl ?_
        first
        | (refine ⟨congrArg Value.bool ?_, (Ext.trans e_1 e2)⟩
           have q : Cn.incr l = false := Cn.adj_no hk2 (Nat.lt_of_succ_lt hk2) rfl (decide_eq_false (by omega))
           unfold Cn.vecValid
           rw [q]
           rfl)
        | (refine ⟨congrArg Value.bool ?_, (Ext.trans e_1 e2)⟩
           have q : Cn.incr l = true := Cn.adj_yes (fun i hi => hI i hi (by omega))
           unfold Cn.vecValid
           rw [q]
           rfl)
      ·
        simp only [x0, x1] at c21
        refine C.skip ?_
        refine hK8 _ _ ?_
        refine hK7 _ _ ?_
        refine C.region ?_
        refine O.mv ?_
        refine O.addI s3_1 rfl (by unfold InI; omega) ?_
        refine O.asg ?_
        refine O.nil ?_
        refine ⟨k + 1, ⟨(Eq.trans rfl (i64_eq (by omega))), s0_1, (Ext.trans e_1 e2), ?_⟩, by first | omega | (simp only []; omega)⟩
        intro i hi hik
        rcases Nat.lt_or_eq_of_le (Nat.le_of_lt_succ hik) with h | rfl
        · exact hI i hi h
        · exact decide_eq_true (by omega)
    ·
      refine C.exit ?_
      refine hK4 _ _ ?_
      refine hK2 _ _ ?_
      refine C.seqK fun K11 hK11 => ?_
      refine C.region ?_
      refine O.mv ?_
      refine O.call Tryz.call87 (args2 s0_1 rfl) (containsV_spec _ _ _ _ _ _ _ (hl.keep e_1) (pred_vbad (fun _ => False) _)) ?_
      rintro v_23 w3 ⟨rfl, e3⟩
      have z3 := e3.size
      refine O.not rfl ?_
      refine O.asg ?_
      refine O.nil ?_
      refine hK11 _ _ ?_
      refine C.ret ?_
      refine Outs.one rfl rfl ?_
      first
      | (refine ⟨congrArg Value.bool ?_, (Ext.trans e_1 e3)⟩
         have q : Cn.incr l = false := Cn.adj_no hk2 (Nat.lt_of_succ_lt hk2) rfl (decide_eq_false (by omega))
         unfold Cn.vecValid
         rw [q]
         rfl)
      | (refine ⟨congrArg Value.bool ?_, (Ext.trans e_1 e3)⟩
         have q : Cn.incr l = true := Cn.adj_yes (fun i hi => hI i hi (by omega))
         unfold Cn.vecValid
         rw [q]
         rfl)

theorem get1_spec (d : Dt.Dot) (bc : Nat) (r : Int) (w : World) (ho : Own w bc 3 [.int .i64 r]) :
    Ret Tryz.prog 63 #[Dt.dv (d), .pointer (some ⟨bc, 0, none⟩)] w (fun v w' => v = .bool (decide (d.1 = r)) ∧ Le w w') := by
  refine enter (args := [Dt.dv (d), .pointer (some ⟨bc, 0, none⟩)]) (n := 8) Tryz.func63 rfl rfl (Nat.le_of_ble_eq_true rfl) ?_
  refine C.seqK fun K1 hK1 => ?_
  refine C.region ?_
  refine O.box (v := Dt.dv (d)) rfl (fun b2 w1 hb2 hz2 e1 => ?_)
  have z1 := e1.size
  have h2 := hz2.own
  have hl2 := h2.lt
  refine O.asg ?_
  refine O.nil ?_
  refine hK1 _ _ ?_
  refine C.seqK fun K2 hK2 => ?_
  refine C.region ?_
  refine O.fieldAd Tryz.underlying51 rfl Tryz.sizeOf3 (by decide) rfl ?_
  refine O.loadO Tryz.isAgg3 rfl h2 rfl ?_
  refine O.loadO Tryz.isAgg3 rfl (ho.keep e1) rfl ?_
  refine O.eqlI rfl rfl ?_
  refine O.asg ?_
  refine O.nil ?_
  refine hK2 _ _ ?_
  refine C.ret ?_
  refine Outs.one rfl rfl ?_
  exact ⟨rfl, e1⟩

theorem pred_get (bc : Nat) (r : Int) (M : Nat → Prop) (w : World) (ho : Own w bc 3 [.int .i64 r]) (hM : ¬ M bc) : Pred Tryz.prog M w (.func (.func 63) #[] #[.pointer (some ⟨bc, 0, none⟩)]) Dt.dv (fun d => decide (d.1 = r)) := ⟨63, [.pointer (some ⟨bc, 0, none⟩)], rfl, Tryz.call63, fun d w' e => get1_spec d bc r w' (ho.keepM e hM)⟩
theorem get_spec (v0 : Value) (l : List Dt.Dot) (F : Nat → Prop) (r : Int) (w : World) (hl : Sl Dt.dotF.enc w F v0 l) :
    Ret Tryz.prog 41 #[v0, .int .i64 (r)] w (fun v w' => v = .int .i64 (Cn.get l r) ∧ Le w w') := by
  have hle := hl.le
  have hge := Cn.idx_ge (p := fun d : Dt.Dot => decide (d.1 = r)) l
  refine enter (args := [v0, .int .i64 (r)]) (n := 16) Tryz.func41 rfl rfl (Nat.le_of_ble_eq_true rfl) ?_
  refine C.seqK fun K1 hK1 => ?_
  refine C.region ?_
  refine O.box (v := .int .i64 (r)) rfl (fun b3 w1 hb3 hz3 e1 => ?_)
  have z1 := e1.size
  have h3 := hz3.own
  have hl3 := h3.lt
  refine O.asg ?_
  refine O.nil ?_
  refine hK1 _ _ ?_
  refine C.seqK fun K2 hK2 => ?_
  refine C.region ?_
  refine O.mv ?_
  refine O.makeF (v1 := []) rfl rfl ?_
  refine O.call Tryz.call62 (args2 rfl rfl) (indexV_spec _ _ _ _ (fun _ => False) _ _ (hl.keep e1) (pred_get b3 r _ _ h3 not_false)) ?_
  rintro v_8 w2 ⟨rfl, e2⟩
  have z2 := e2.size
  refine O.asg ?_
  refine O.nil ?_
  refine hK2 _ _ ?_
  refine C.seqK fun K3 hK3 => ?_
  refine C.seqK fun K4 hK4 => ?_
  refine C.region ?_
  refine O.mv ?_
  refine O.lssI rfl rfl ?_
  refine O.nil ?_
  refine hK4 _ _ ?_
  refine C.condD rfl (fun c10 => ?_) (fun c10 => ?_)
  ·
    refine C.seqK fun K5 hK5 => ?_
    refine C.region ?_
    refine O.asg ?_
    refine O.nil ?_
    refine hK5 _ _ ?_
    refine C.ret ?_
    refine Outs.one rfl rfl ?_
    first
    | exact ⟨congrArg (Value.int .i64) (Cn.get_no c10).symm, (Ext.trans e1 e2)⟩
    | (obtain ⟨hk, q⟩ := Cn.get_yes2 c10
       exact ⟨congrArg (Value.int .i64) q.symm, (Ext.trans e1 e2)⟩)
  ·
    refine C.skip ?_
    refine hK3 _ _ ?_
    refine C.seqK fun K6 hK6 => ?_
    refine C.region ?_
    refine O.mv ?_
    refine O.mv ?_
    refine O.idx Tryz.underlying23 Tryz.sizeOf51 rfl rfl ((hl.keep e1).keep e2) rfl ⟨by omega, by have := Cn.idx_lt (p := fun d : Dt.Dot => decide (d.1 = r)) (l := l) (by omega); omega⟩ (fun a13 h13 => ?_)
    refine O.fieldAt Tryz.underlying51 rfl Tryz.sizeOf3 (by decide) rfl ?_
    refine O.loadAtF (G := Dt.dotF) Tryz.isAgg3 rfl rfl h13 ?_
    refine O.asg ?_
    refine O.nil ?_
    refine hK6 _ _ ?_
    refine C.ret ?_
    refine Outs.one rfl rfl ?_
    first
    | exact ⟨congrArg (Value.int .i64) (Cn.get_no c10).symm, (Ext.trans e1 e2)⟩
    | (obtain ⟨hk, q⟩ := Cn.get_yes2 c10
       exact ⟨congrArg (Value.int .i64) q.symm, (Ext.trans e1 e2)⟩)

theorem cvalid_spec (v0 : Value) (l : List Dt.Dot) (F : Nat → Prop) (w : World) (hl : Sl Dt.dotF.enc w F v0 l) :
    Ret Tryz.prog 66 #[v0] w (fun v w' => v = .bool (!l.any Cn.badD) ∧ Le w w') := by
  refine enter (args := [v0]) (n := 6) Tryz.func66 rfl rfl (Nat.le_of_ble_eq_true rfl) ?_
  refine C.seqK fun K1 hK1 => ?_
  refine C.region ?_
  refine O.asg ?_
  refine O.nil ?_
  refine hK1 _ _ ?_
  refine C.seqK fun K2 hK2 => ?_
  refine C.region ?_
  refine O.mv ?_
  refine O.call Tryz.call43 (args2 rfl rfl) (containsD_spec _ _ _ _ _ _ _ hl (pred_cbad (fun _ => False) _)) ?_
  rintro v_4 w1 ⟨rfl, e1⟩
  have z1 := e1.size
  refine O.not rfl ?_
  refine O.asg ?_
  refine O.nil ?_
  refine hK2 _ _ ?_
  refine C.ret ?_
  refine Outs.one rfl rfl ?_
  exact ⟨rfl, e1⟩

theorem ctxValid_spec (v1 v2 : Value) (x : Cn.Ctx) (F : Nat → Prop) (w : World) (hv : Sl Dt.dotF.enc w F v1 x.1) (hc : Sl Dt.dotF.enc w F v2 x.2) :
    Ret Tryz.prog 42 #[.agg #[v1, v2]] w (fun v w' => v = .bool (Cn.ctxValid x) ∧ Le w w') := by
  refine enter (args := [.agg #[v1, v2]]) (n := 16) Tryz.func42 rfl rfl (Nat.le_of_ble_eq_true rfl) ?_
  refine C.seqK fun K1 hK1 => ?_
  refine C.region ?_
  refine O.box (v := .agg #[v1, v2]) rfl (fun b1 w1 hb1 hz1 e1 => ?_)
  have z1 := e1.size
  have h1 := hz1.own
  have hl1 := h1.lt
  refine O.asg ?_
  refine O.nil ?_
  refine hK1 _ _ ?_
  refine C.seqK fun K2 hK2 => ?_
  refine C.region ?_
  refine O.fieldAd Tryz.underlying25 rfl Tryz.sizeOf23 (by decide) rfl ?_
  refine O.loadO Tryz.isAgg23 rfl h1 rfl ?_
  refine O.call Tryz.call64 (args1 rfl) (vecValid_spec _ _ _ _ (hv.keep e1)) ?_
  rintro v_5 w2 ⟨rfl, e2⟩
  have z2 := e2.size
  refine O.mv ?_
  refine O.split (x := .tmp 6) rfl (fun c6 => ?_) (fun c6 => ?_)
  ·
    refine O.yes rfl (isT' rfl c6) ?_
    refine O.fieldAd Tryz.underlying25 rfl Tryz.sizeOf22 (by decide) rfl ?_
    refine O.yes rfl (isT' rfl c6) ?_
    refine O.loadO Tryz.isAgg22 rfl (h1.keep e2) rfl ?_
    refine O.yes rfl (isT' rfl c6) ?_
    refine O.call Tryz.call65 (args1 rfl) (isSet_spec _ _ _ _ ((hc.keep e1).keep e2)) ?_
    rintro v_9 w3 ⟨rfl, e3⟩
    have z3 := e3.size
    refine O.pickT (isT' rfl c6) ?_
    refine O.mv ?_
    refine O.split (x := .tmp 11) rfl (fun c11 => ?_) (fun c11 => ?_)
    ·
      refine O.yes rfl (isT' rfl c11) ?_
      refine O.fieldAd Tryz.underlying25 rfl Tryz.sizeOf22 (by decide) rfl ?_
      refine O.yes rfl (isT' rfl c11) ?_
      refine O.loadO Tryz.isAgg22 rfl ((h1.keep e2).keep e3) rfl ?_
      refine O.yes rfl (isT' rfl c11) ?_
      refine O.call Tryz.call66 (args1 rfl) (cvalid_spec _ _ _ _ (((hc.keep e1).keep e2).keep e3)) ?_
      rintro v_14 w4 ⟨rfl, e4⟩
      have z4 := e4.size
      refine O.pickT (isT' rfl c11) ?_
      refine O.asg ?_
      refine O.nil ?_
      refine hK2 _ _ ?_
      refine C.ret ?_
      refine Outs.one rfl rfl ?_
      refine ⟨congrArg Value.bool ?_, (Ext.trans (Ext.trans (Ext.trans e1 e2) e3) e4)⟩
      unfold Cn.ctxValid
      first
      | (rw [c6]; rfl)
      | (rw [c6, c11]; rfl)
    ·
      refine O.no rfl (noB (isF' rfl c11) rfl) ?_
      refine O.no rfl (noB (isF' rfl c11) rfl) ?_
      refine O.no rfl (noB (isF' rfl c11) rfl) ?_
      refine O.pickF (isF' rfl c11) ?_
      refine O.asg ?_
      refine O.nil ?_
      refine hK2 _ _ ?_
      refine C.ret ?_
      refine Outs.one rfl rfl ?_
      refine ⟨congrArg Value.bool ?_, (Ext.trans (Ext.trans e1 e2) e3)⟩
      unfold Cn.ctxValid
      first
      | (rw [c6]; rfl)
      | (rw [c6, c11]; rfl)
  ·
    refine O.no rfl (noB (isF' rfl c6) rfl) ?_
    refine O.no rfl (noB (isF' rfl c6) rfl) ?_
    refine O.no rfl (noB (isF' rfl c6) rfl) ?_
    refine O.pickF (isF' rfl c6) ?_
    refine O.mv ?_
    refine O.no rfl (noB rfl rfl) ?_
    refine O.no rfl (noB rfl rfl) ?_
    refine O.no rfl (noB rfl rfl) ?_
    refine O.pickF rfl ?_
    refine O.asg ?_
    refine O.nil ?_
    refine hK2 _ _ ?_
    refine C.ret ?_
    refine Outs.one rfl rfl ?_
    refine ⟨congrArg Value.bool ?_, (Ext.trans e1 e2)⟩
    unfold Cn.ctxValid
    first
    | (rw [c6]; rfl)
    | (rw [c6, c11]; rfl)

theorem near_spec (d : Dt.Dot) (bc : Nat) (v1 v2 : Value) (x : Cn.Ctx) (F : Nat → Prop) (w : World) (ho : Own w bc 25 [v1, v2]) (hv : Sl Dt.dotF.enc w F v1 x.1) (hg : ∀ r, 0 ≤ Cn.get x.1 r ∧ Cn.get x.1 r ≤ 4294967295) :
    Ret Tryz.prog 40 #[Dt.dv (d), .pointer (some ⟨bc, 0, none⟩)] w (fun v w' => v = .bool (Cn.near x.1 d) ∧ Le w w') := by
  refine enter (args := [Dt.dv (d), .pointer (some ⟨bc, 0, none⟩)]) (n := 13) Tryz.func40 rfl rfl (Nat.le_of_ble_eq_true rfl) ?_
  refine C.seqK fun K1 hK1 => ?_
  refine C.region ?_
  refine O.box (v := Dt.dv (d)) rfl (fun b2 w1 hb2 hz2 e1 => ?_)
  have z1 := e1.size
  have h2 := hz2.own
  have hl2 := h2.lt
  refine O.asg ?_
  refine O.nil ?_
  refine hK1 _ _ ?_
  refine C.seqK fun K2 hK2 => ?_
  refine C.draw (by kernel_rfl) fun w2 e2 => ?_
  have z2 := e2.size
  refine D.take (i := 0) rfl rfl rfl rfl (by kernel_rfl) (Le.refl _) ⟨_, rfl⟩ (fun w_ hw_ N_ hN => (O.fieldAd Tryz.underlying51 rfl Tryz.sizeOf3 (by decide) rfl (O.nil hN))) ?_
  refine D.take (i := 1) rfl rfl rfl rfl (by kernel_rfl) (Le.refl _) ⟨_, rfl⟩ (fun w_ hw_ N_ hN => (O.loadO Tryz.isAgg3 rfl ((h2.keep e2).keep hw_) rfl (O.nil hN))) ?_
  refine D.take (i := 2) rfl rfl rfl rfl (by kernel_rfl) (Le.refl _) ⟨_, rfl⟩ (fun w_ hw_ N_ hN => (O.fieldAd Tryz.underlying25 rfl Tryz.sizeOf23 (by decide) rfl (O.nil hN))) ?_
  refine D.take (i := 3) rfl rfl rfl rfl (by kernel_rfl) (Le.refl _) ⟨_, rfl⟩ (fun w_ hw_ N_ hN => (O.loadO Tryz.isAgg23 rfl (((ho.keep e1).keep e2).keep hw_) rfl (O.nil hN))) ?_
  refine D.take (i := 4) rfl rfl rfl rfl (by kernel_rfl) (Le.refl _) ⟨_, rfl⟩ (fun w_ hw_ N_ hN => (O.fieldAd Tryz.underlying51 rfl Tryz.sizeOf3 (by decide) rfl (O.nil hN))) ?_
  refine D.take (i := 5) rfl rfl rfl rfl (by kernel_rfl) (Le.refl _) ⟨_, rfl⟩ (fun w_ hw_ N_ hN => (O.loadO Tryz.isAgg3 rfl ((h2.keep e2).keep hw_) rfl (O.nil hN))) ?_
  refine D.one (i := 6) rfl rfl (by kernel_rfl) ?_
  refine O.call Tryz.call41 (args2 rfl rfl) (get_spec _ x.1 _ d.1 _ ((hv.keep e1).keep e2)) ?_
  rintro v_10 w3 ⟨rfl, e3⟩
  have z3 := e3.size
  refine O.nil ⟨e3, ?_⟩
  have hgd := hg d.1
  refine D.take (i := 7) rfl rfl rfl rfl (by kernel_rfl) e3 ⟨_, rfl⟩ (fun w_ hw_ N_ hN => (O.addI rfl rfl (by unfold InI; omega) (O.nil hN))) ?_
  refine D.take (i := 8) rfl rfl rfl rfl (by kernel_rfl) e3 ⟨_, rfl⟩ (fun w_ hw_ N_ hN => (O.leqI rfl rfl (O.nil hN))) ?_
  refine D.take (i := 9) rfl rfl rfl rfl (by kernel_rfl) e3 ⟨pure _, rfl⟩ (fun w_ hw_ N_ hN => (O.asg (O.nil hN))) ?_
  refine D.done (by kernel_rfl) ?_
  refine hK2 _ _ ?_
  refine C.ret ?_
  refine Outs.one rfl rfl ?_
  exact ⟨rfl, (Ext.trans (Ext.trans e1 e2) e3)⟩

theorem pred_near (bc : Nat) (v1 v2 : Value) (x : Cn.Ctx) (F M : Nat → Prop) (w : World) (ho : Own w bc 25 [v1, v2]) (hv : Sl Dt.dotF.enc w F v1 x.1) (hg : ∀ r, 0 ≤ Cn.get x.1 r ∧ Cn.get x.1 r ≤ 4294967295) (hM : ¬ M bc) (hF : ∀ k, F k → ¬ M k) : Pred Tryz.prog M w (.func (.func 40) #[] #[.pointer (some ⟨bc, 0, none⟩)]) Dt.dv (Cn.near x.1) := ⟨40, [.pointer (some ⟨bc, 0, none⟩)], rfl, Tryz.call40, fun d w' e => near_spec d bc v1 v2 x F w' (ho.keepM e hM) (hv.keepM e hF) hg⟩
theorem isCompact_spec (v1 v2 : Value) (x : Cn.Ctx) (F : Nat → Prop) (w : World) (hv : Sl Dt.dotF.enc w F v1 x.1) (hc : Sl Dt.dotF.enc w F v2 x.2) :
    Ret Tryz.prog 17 #[.agg #[v1, v2]] w (fun v w' => v = .bool (Cn.isCompact x) ∧ Le w w') := by
  refine enter (args := [.agg #[v1, v2]]) (n := 14) Tryz.func17 rfl rfl (Nat.le_of_ble_eq_true rfl) ?_
  refine C.seqK fun K1 hK1 => ?_
  refine C.region ?_
  refine O.box (v := .agg #[v1, v2]) rfl (fun b1 w1 hb1 hz1 e1 => ?_)
  have z1 := e1.size
  have h1 := hz1.own
  have hl1 := h1.lt
  refine O.asg ?_
  refine O.nil ?_
  refine hK1 _ _ ?_
  refine C.seqK fun K2 hK2 => ?_
  refine C.region ?_
  refine O.makeF (v1 := []) rfl rfl ?_
  refine O.asg ?_
  refine O.nil ?_
  refine hK2 _ _ ?_
  refine C.seqK fun K3 hK3 => ?_
  refine C.region ?_
  refine O.loadOA Tryz.isAgg25 Tryz.sizeOf25 rfl h1 (Nat.le_of_ble_eq_true rfl) ?_
  refine O.call Tryz.call42 (args1 rfl) (ctxValid_spec v1 v2 x F _ (hv.keep e1) (hc.keep e1)) ?_
  rintro v_6 w2 ⟨rfl, e2⟩
  have z2 := e2.size
  refine O.mv ?_
  refine O.split (x := .tmp 7) rfl (fun c7 => ?_) (fun c7 => ?_)
  ·
    refine O.yes rfl (isT' rfl c7) ?_
    refine O.fieldAd Tryz.underlying25 rfl Tryz.sizeOf22 (by decide) rfl ?_
    refine O.yes rfl (isT' rfl c7) ?_
    refine O.loadO Tryz.isAgg22 rfl (h1.keep e2) rfl ?_
    refine O.yes rfl (isT' rfl c7) ?_
    refine O.mv ?_
    refine O.yes rfl (isT' rfl c7) ?_
    refine O.call Tryz.call43 (args2 rfl rfl) (containsD_spec _ _ _ _ (fun _ => False) _ _ ((hc.keep e1).keep e2) (pred_near b1 v1 v2 x F _ _ (h1.keep e2) ((hv.keep e1).keep e2) (Cn.get_bound c7) not_false (fun _ _ => not_false))) ?_
    rintro v_11 w3 ⟨rfl, e3⟩
    have z3 := e3.size
    refine O.yes rfl (isT' rfl c7) ?_
    refine O.not rfl ?_
    refine O.pickT (isT' rfl c7) ?_
    refine O.asg ?_
    refine O.nil ?_
    refine hK3 _ _ ?_
    refine C.ret ?_
    refine Outs.one rfl rfl ?_
    refine ⟨congrArg Value.bool ?_, (Ext.trans (Ext.trans e1 e2) e3)⟩
    unfold Cn.isCompact
    rw [c7]
    rfl
  ·
    refine O.no rfl (noB (isF' rfl c7) rfl) ?_
    refine O.no rfl (noB (isF' rfl c7) rfl) ?_
    refine O.no rfl (noB (isF' rfl c7) rfl) ?_
    refine O.no rfl (noB (isF' rfl c7) rfl) ?_
    refine O.no rfl (noB (isF' rfl c7) rfl) ?_
    refine O.pickF (isF' rfl c7) ?_
    refine O.asg ?_
    refine O.nil ?_
    refine hK3 _ _ ?_
    refine C.ret ?_
    refine Outs.one rfl rfl ?_
    refine ⟨congrArg Value.bool ?_, (Ext.trans e1 e2)⟩
    unfold Cn.isCompact
    rw [c7]
    rfl

theorem vecHas_spec (v0 : Value) (l : List Dt.Dot) (F : Nat → Prop) (d : Dt.Dot) (w : World) (hl : Sl Dt.dotF.enc w F v0 l) :
    Ret Tryz.prog 100 #[v0, Dt.dv (d)] w (fun v w' => v = .bool (Cn.vecHas l d) ∧ Le w w') := by
  refine enter (args := [v0, Dt.dv (d)]) (n := 16) Tryz.func100 rfl rfl (Nat.le_of_ble_eq_true rfl) ?_
  refine C.seqK fun K1 hK1 => ?_
  refine C.region ?_
  refine O.box (v := Dt.dv (d)) rfl (fun b3 w1 hb3 hz3 e1 => ?_)
  have z1 := e1.size
  have h3 := hz3.own
  have hl3 := h3.lt
  refine O.asg ?_
  refine O.nil ?_
  refine hK1 _ _ ?_
  refine C.seqK fun K2 hK2 => ?_
  refine C.draw (by kernel_rfl) fun w2 e2 => ?_
  have z2 := e2.size
  refine D.take (i := 0) rfl rfl rfl rfl (by kernel_rfl) (Le.refl _) ⟨_, rfl⟩ (fun w_ hw_ N_ hN => (O.loadOA Tryz.isAgg51 Tryz.sizeOf51 rfl ((h3.keep e2).keep hw_) (Nat.le_of_ble_eq_true rfl) (O.nil hN))) ?_
  refine D.one (i := 1) rfl rfl (by kernel_rfl) ?_
  refine O.call Tryz.call91 (args1 rfl) (valid_spec d _) ?_
  rintro v_6 w3 ⟨rfl, e3⟩
  have z3 := e3.size
  refine O.nil ⟨e3, ?_⟩
  refine D.take (i := 2) rfl rfl rfl rfl (by kernel_rfl) e3 ⟨pure _, rfl⟩ (fun w_ hw_ N_ hN => (O.mv (O.nil hN))) ?_
  refine D.splitD (x := .tmp 7) rfl (fun c7 => ?_) (fun c7 => ?_)
  ·
    refine D.takeYes (i := 3) rfl rfl rfl (by kernel_rfl) rfl (isT rfl c7) e3 ⟨_, rfl⟩ (fun w_ hw_ N_ hN => (O.fieldAd Tryz.underlying51 rfl Tryz.sizeOf3 (by decide) rfl (O.nil hN))) ?_
    refine D.takeYes (i := 4) rfl rfl rfl (by kernel_rfl) rfl (isT rfl c7) e3 ⟨_, rfl⟩ (fun w_ hw_ N_ hN => (O.loadO Tryz.isAgg3 rfl ((h3.keep e2).keep hw_) rfl (O.nil hN))) ?_
    refine D.takeYes (i := 5) rfl rfl rfl (by kernel_rfl) rfl (isT rfl c7) e3 ⟨pure _, rfl⟩ (fun w_ hw_ N_ hN => (O.mv (O.nil hN))) ?_
    refine D.takeYes (i := 6) rfl rfl rfl (by kernel_rfl) rfl (isT rfl c7) e3 ⟨_, rfl⟩ (fun w_ hw_ N_ hN => (O.fieldAd Tryz.underlying51 rfl Tryz.sizeOf3 (by decide) rfl (O.nil hN))) ?_
    refine D.takeYes (i := 7) rfl rfl rfl (by kernel_rfl) rfl (isT rfl c7) e3 ⟨_, rfl⟩ (fun w_ hw_ N_ hN => (O.loadO Tryz.isAgg3 rfl ((h3.keep e2).keep hw_) rfl (O.nil hN))) ?_
    refine D.oneYes (i := 8) rfl rfl (isT rfl c7) (by kernel_rfl) ?_
    refine O.call Tryz.call41 (args2 rfl rfl) (get_spec _ l _ d.1 _ (((hl.keep e1).keep e2).keep e3)) ?_
    rintro v_13 w4 ⟨rfl, e4⟩
    have z4 := e4.size
    refine O.nil ⟨(Ext.trans e3 e4), ?_⟩
    refine D.takeYes (i := 9) rfl rfl rfl (by kernel_rfl) rfl (isT rfl c7) (Ext.trans e3 e4) ⟨_, rfl⟩ (fun w_ hw_ N_ hN => (O.leqI rfl rfl (O.nil hN))) ?_
    refine D.take (i := 10) rfl rfl rfl rfl (by kernel_rfl) (Ext.trans e3 e4) pick_form (fun w_ hw_ N_ hN => (O.pickT (isT rfl c7) (O.nil hN))) ?_
    refine D.take (i := 11) rfl rfl rfl rfl (by kernel_rfl) (Ext.trans e3 e4) ⟨pure _, rfl⟩ (fun w_ hw_ N_ hN => (O.asg (O.nil hN))) ?_
    refine D.done (by kernel_rfl) ?_
    refine hK2 _ _ ?_
    refine C.ret ?_
    refine Outs.one rfl rfl ?_
    refine ⟨congrArg Value.bool ?_, (Ext.trans (Ext.trans (Ext.trans e1 e2) e3) e4)⟩
    unfold Cn.vecHas Cn.okD
    first
    | (rw [decide_eq_true c7]; rfl)
    | (rw [decide_eq_false c7]; rfl)
  ·
    refine D.takeNo (i := 3) rfl rfl (by kernel_rfl) e3 rfl (noB (isF rfl c7) rfl) ?_
    refine D.takeNo (i := 4) rfl rfl (by kernel_rfl) e3 rfl (noB (isF rfl c7) rfl) ?_
    refine D.takeNo (i := 5) rfl rfl (by kernel_rfl) e3 rfl (noB (isF rfl c7) rfl) ?_
    refine D.takeNo (i := 6) rfl rfl (by kernel_rfl) e3 rfl (noB (isF rfl c7) rfl) ?_
    refine D.takeNo (i := 7) rfl rfl (by kernel_rfl) e3 rfl (noB (isF rfl c7) rfl) ?_
    refine D.takeNo (i := 8) rfl rfl (by kernel_rfl) e3 rfl (noB (isF rfl c7) rfl) ?_
    refine D.takeNo (i := 9) rfl rfl (by kernel_rfl) e3 rfl (noB (isF rfl c7) rfl) ?_
    refine D.take (i := 10) rfl rfl rfl rfl (by kernel_rfl) e3 pick_form (fun w_ hw_ N_ hN => (O.pickF (isF rfl c7) (O.nil hN))) ?_
    refine D.take (i := 11) rfl rfl rfl rfl (by kernel_rfl) e3 ⟨pure _, rfl⟩ (fun w_ hw_ N_ hN => (O.asg (O.nil hN))) ?_
    refine D.done (by kernel_rfl) ?_
    refine hK2 _ _ ?_
    refine C.ret ?_
    refine Outs.one rfl rfl ?_
    refine ⟨congrArg Value.bool ?_, (Ext.trans (Ext.trans e1 e2) e3)⟩
    unfold Cn.vecHas Cn.okD
    first
    | (rw [decide_eq_true c7]; rfl)
    | (rw [decide_eq_false c7]; rfl)

theorem ctxHas_spec (v1 v2 : Value) (x : Cn.Ctx) (F : Nat → Prop) (d : Dt.Dot) (w : World) (hv : Sl Dt.dotF.enc w F v1 x.1) (hc : Sl Dt.dotF.enc w F v2 x.2) :
    Ret Tryz.prog 72 #[.agg #[v1, v2], Dt.dv (d)] w (fun v w' => v = .bool (Cn.ctxHas x d) ∧ Le w w') := by
  refine enter (args := [.agg #[v1, v2], Dt.dv (d)]) (n := 19) Tryz.func72 rfl rfl (Nat.le_of_ble_eq_true rfl) ?_
  refine C.seqK fun K1 hK1 => ?_
  refine C.region ?_
  refine O.box (v := .agg #[v1, v2]) rfl (fun b2 w1 hb2 hz2 e1 => ?_)
  have z1 := e1.size
  have h2 := hz2.own
  have hl2 := h2.lt
  refine O.box (v := Dt.dv (d)) rfl (fun b3 w2 hb3 hz3 e2 => ?_)
  have z2 := e2.size
  have h3 := hz3.own
  have hl3 := h3.lt
  refine O.asg ?_
  refine O.nil ?_
  refine hK1 _ _ ?_
  refine C.seqK fun K2 hK2 => ?_
  refine C.region ?_
  refine O.fieldAd Tryz.underlying25 rfl Tryz.sizeOf23 (by decide) rfl ?_
  refine O.loadO Tryz.isAgg23 rfl (h2.keep e2) rfl ?_
  refine O.loadOA Tryz.isAgg51 Tryz.sizeOf51 rfl h3 (Nat.le_of_ble_eq_true rfl) ?_
  refine O.call Tryz.call100 (args2 rfl rfl) (vecHas_spec _ x.1 _ d _ ((hv.keep e1).keep e2)) ?_
  rintro v_8 w3 ⟨rfl, e3⟩
  have z3 := e3.size
  refine O.mv ?_
  refine O.split (x := .tmp 9) rfl (fun c9 => ?_) (fun c9 => ?_)
  ·
    refine O.no rfl (noB (isT' rfl c9) rfl) ?_
    refine O.no rfl (noB (isT' rfl c9) rfl) ?_
    refine O.no rfl (noB (isT' rfl c9) rfl) ?_
    refine O.no rfl (noU rfl) ?_
    refine O.no rfl (noU rfl) ?_
    refine O.no rfl (noU rfl) ?_
    refine O.no rfl (noU rfl) ?_
    refine O.no rfl (noB (isT' rfl c9) rfl) ?_
    refine O.pickT (isT' rfl c9) ?_
    refine O.asg ?_
    refine O.nil ?_
    refine hK2 _ _ ?_
    refine C.ret ?_
    refine Outs.one rfl rfl ?_
    refine ⟨congrArg Value.bool ?_, (Ext.trans (Ext.trans e1 e2) e3)⟩
    unfold Cn.ctxHas Cn.okD
    first
    | (rw [c9]; rfl)
    | (rw [c9, decide_eq_true c12]; rfl)
    | (rw [c9, decide_eq_false c12]; rfl)
  ·
    refine O.yes rfl (isF' rfl c9) ?_
    refine O.loadOA Tryz.isAgg51 Tryz.sizeOf51 rfl (h3.keep e3) (Nat.le_of_ble_eq_true rfl) ?_
    refine O.yes rfl (isF' rfl c9) ?_
    refine O.call Tryz.call91 (args1 rfl) (valid_spec d _) ?_
    rintro v_11 w4 ⟨rfl, e4⟩
    have z4 := e4.size
    refine O.yes rfl (isF' rfl c9) ?_
    refine O.mv ?_
    refine O.splitD (x := .tmp 12) rfl (fun c12 => ?_) (fun c12 => ?_)
    ·
      refine O.yes rfl (isT rfl c12) ?_
      refine O.fieldAd Tryz.underlying25 rfl Tryz.sizeOf22 (by decide) rfl ?_
      refine O.yes rfl (isT rfl c12) ?_
      refine O.loadO Tryz.isAgg22 rfl (((h2.keep e2).keep e3).keep e4) rfl ?_
      refine O.yes rfl (isT rfl c12) ?_
      refine O.loadOA Tryz.isAgg51 Tryz.sizeOf51 rfl ((h3.keep e3).keep e4) (Nat.le_of_ble_eq_true rfl) ?_
      refine O.yes rfl (isT rfl c12) ?_
      refine O.call Tryz.call101 (args2 rfl rfl) (has_spec _ x.2 _ d _ ((((hc.keep e1).keep e2).keep e3).keep e4)) ?_
      rintro v_16 w5 ⟨rfl, e5⟩
      have z5 := e5.size
      refine O.yes rfl (isF' rfl c9) ?_
      refine O.pickT (isT rfl c12) ?_
      refine O.pickF (isF' rfl c9) ?_
      refine O.asg ?_
      refine O.nil ?_
      refine hK2 _ _ ?_
      refine C.ret ?_
      refine Outs.one rfl rfl ?_
      refine ⟨congrArg Value.bool ?_, (Ext.trans (Ext.trans (Ext.trans (Ext.trans e1 e2) e3) e4) e5)⟩
      unfold Cn.ctxHas Cn.okD
      first
      | (rw [c9]; rfl)
      | (rw [c9, decide_eq_true c12]; rfl)
      | (rw [c9, decide_eq_false c12]; rfl)
    ·
      refine O.no rfl (noB (isF rfl c12) rfl) ?_
      refine O.no rfl (noB (isF rfl c12) rfl) ?_
      refine O.no rfl (noB (isF rfl c12) rfl) ?_
      refine O.no rfl (noB (isF rfl c12) rfl) ?_
      refine O.yes rfl (isF' rfl c9) ?_
      refine O.pickF (isF rfl c12) ?_
      refine O.pickF (isF' rfl c9) ?_
      refine O.asg ?_
      refine O.nil ?_
      refine hK2 _ _ ?_
      refine C.ret ?_
      refine Outs.one rfl rfl ?_
      refine ⟨congrArg Value.bool ?_, (Ext.trans (Ext.trans (Ext.trans e1 e2) e3) e4)⟩
      unfold Cn.ctxHas Cn.okD
      first
      | (rw [c9]; rfl)
      | (rw [c9, decide_eq_true c12]; rfl)
      | (rw [c9, decide_eq_false c12]; rfl)

theorem miss1_spec (d : Dt.Dot) (bc : Nat) (v1 v2 : Value) (x : Cn.Ctx) (F : Nat → Prop) (w : World) (ho : Own w bc 25 [v1, v2]) (hv : Sl Dt.dotF.enc w F v1 x.1) (hc : Sl Dt.dotF.enc w F v2 x.2) :
    Ret Tryz.prog 71 #[Dt.dv (d), .pointer (some ⟨bc, 0, none⟩)] w (fun v w' => v = .bool (Cn.ctxHas x d) ∧ Le w w') := by
  refine enter (args := [Dt.dv (d), .pointer (some ⟨bc, 0, none⟩)]) (n := 7) Tryz.func71 rfl rfl (Nat.le_of_ble_eq_true rfl) ?_
  refine C.seqK fun K1 hK1 => ?_
  refine C.region ?_
  refine O.box (v := Dt.dv (d)) rfl (fun b2 w1 hb2 hz2 e1 => ?_)
  have z1 := e1.size
  have h2 := hz2.own
  have hl2 := h2.lt
  refine O.asg ?_
  refine O.nil ?_
  refine hK1 _ _ ?_
  refine C.seqK fun K2 hK2 => ?_
  refine C.region ?_
  refine O.loadOA Tryz.isAgg25 Tryz.sizeOf25 rfl (ho.keep e1) (Nat.le_of_ble_eq_true rfl) ?_
  refine O.loadOA Tryz.isAgg51 Tryz.sizeOf51 rfl h2 (Nat.le_of_ble_eq_true rfl) ?_
  refine O.call Tryz.call72 (args2 rfl rfl) (ctxHas_spec v1 v2 x F d _ (hv.keep e1) (hc.keep e1)) ?_
  rintro v_6 w2 ⟨rfl, e2⟩
  have z2 := e2.size
  refine O.asg ?_
  refine O.nil ?_
  refine hK2 _ _ ?_
  refine C.ret ?_
  refine Outs.one rfl rfl ?_
  exact ⟨rfl, (Ext.trans e1 e2)⟩

theorem pred_miss (bc : Nat) (v1 v2 : Value) (x : Cn.Ctx) (F M : Nat → Prop) (w : World) (ho : Own w bc 25 [v1, v2]) (hv : Sl Dt.dotF.enc w F v1 x.1) (hc : Sl Dt.dotF.enc w F v2 x.2) (hM : ¬ M bc) (hF : ∀ k, F k → ¬ M k) : Pred Tryz.prog M w (.func (.func 71) #[] #[.pointer (some ⟨bc, 0, none⟩)]) Dt.dv (Cn.ctxHas x) := ⟨71, [.pointer (some ⟨bc, 0, none⟩)], rfl, Tryz.call71, fun d w' e => miss1_spec d bc v1 v2 x F w' (ho.keepM e hM) (hv.keepM e hF) (hc.keepM e hF)⟩
end Go.Proofs.YtnkcmaoaagnopaaGreatDoor
