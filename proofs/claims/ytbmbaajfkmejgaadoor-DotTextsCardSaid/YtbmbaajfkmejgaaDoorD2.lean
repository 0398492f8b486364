/-
  The walks of dots: lists. Conditions: slices as they lie in memory.
-/
import Derived.Test.YtbmbaajfkmejgaaDoorD1
namespace Go.Proofs.YtbmbaajfkmejgaaDoor
open Go.Pn Go.RowKit

theorem isSet_spec (v0 : Value) (l : List Dt.Dot) (F : Nat → Prop) (w : World) (hl : Sl Dt.dotF.enc w F v0 l) :
    Ret Tryd.prog 16 #[v0] w (fun v w' => v = .bool (Dt.isSet l) ∧ Le w w') := by
  have hle := hl.le
  refine enter (args := [v0]) (n := 21) Tryd.func16 rfl rfl (Nat.le_of_ble_eq_true rfl) ?_
  refine C.seqK fun K1 hK1 => ?_
  refine C.region ?_
  refine O.asg ?_
  refine O.nil ?_
  refine hK1 _ _ ?_
  refine C.seqK fun K2 hK2 => ?_
  refine C.seqK fun K3 hK3 => ?_
  refine C.region ?_
  refine O.asg ?_
  refine O.nil ?_
  refine hK3 _ _ ?_
  refine C.block fun K4 hK4 => ?_
  refine C.loop0 (σ := Nat) (fun f0 w0 k f wz => f 3 = .int .i64 ((k : Int) + 1) ∧ f 0 = f0 0 ∧ Le w wz ∧ ∀ i, ∀ h : i + 1 < l.length, i < k → Dt.Less l[i] l[i + 1]) (fun k => l.length - k) 0 ?_ ?_
  ·
    refine ⟨(Eq.trans rfl (i64_eq (by omega))), rfl, (Le.refl _), ?_⟩
    exact fun i h k => absurd k (Nat.not_lt_zero _)
  ·
    rintro k f_1 w1 ⟨s3_1, s0_1, e_1, hI⟩
    have z_1 := e_1.size
    refine C.seqK fun K5 hK5 => ?_
    refine C.seqK fun K6 hK6 => ?_
    refine C.region ?_
    refine O.mv ?_
    refine O.mv ?_
    refine O.len Tryd.underlying35 s0_1 (hl.keep e_1) ?_
    refine O.lssI s3_1 rfl ?_
    refine O.nil ?_
    refine hK6 _ _ ?_
    refine C.condD rfl (fun c7 => ?_) (fun c7 => ?_)
    ·
      have hk2 : k + 1 < l.length := by omega
      have x0 : ((k : Int) + 1 - 1).toNat = k := by omega
      have x1 : ((k : Int) + 1).toNat = k + 1 := by omega
      
      refine C.skip ?_
      refine hK5 _ _ ?_
      refine C.seqK fun K7 hK7 => ?_
      refine C.block fun K8 hK8 => ?_
      refine C.seqK fun K9 hK9 => ?_
      refine C.draw (by kernel_rfl) fun w2 e2 => ?_
      have z2 := e2.size
      refine D.take (i := 0) rfl rfl rfl rfl (by kernel_rfl) (Le.refl _) ⟨pure _, rfl⟩ (fun w_ hw_ N_ hN => (O.mv (O.nil hN))) ?_
      refine D.take (i := 1) rfl rfl rfl rfl (by kernel_rfl) (Le.refl _) ⟨pure _, rfl⟩ (fun w_ hw_ N_ hN => (O.mv (O.nil hN))) ?_
      refine D.take (i := 2) rfl rfl rfl rfl (by kernel_rfl) (Le.refl _) ⟨_, rfl⟩ (fun w_ hw_ N_ hN => (O.subI s3_1 rfl (by unfold InI; omega) (O.nil hN))) ?_
      obtain ⟨a13, h13, hr13⟩ := Sl.at (i := (k : Int) + 1 - 1) (P := Tryd.prog) Tryd.underlying35 Tryd.sizeOf23 rfl ((hl.keep e_1).keep e2) (by omega)
      refine D.take (i := 3) rfl rfl rfl rfl (by kernel_rfl) (Le.refl _) ⟨_, rfl⟩ (fun w_ hw_ N_ hN => (O.idxR s0_1 rfl hr13 (O.nil hN))) ?_
      refine D.take (i := 4) rfl rfl rfl rfl (by kernel_rfl) (Le.refl _) ⟨_, rfl⟩ (fun w_ hw_ N_ hN => (O.loadG (G := Dt.dotF) Tryd.isAgg23 Tryd.sizeOf23 rfl (h13.keep hw_) (O.nil hN))) ?_
      refine D.take (i := 5) rfl rfl rfl rfl (by kernel_rfl) (Le.refl _) ⟨pure _, rfl⟩ (fun w_ hw_ N_ hN => (O.mv (O.nil hN))) ?_
      refine D.take (i := 6) rfl rfl rfl rfl (by kernel_rfl) (Le.refl _) ⟨pure _, rfl⟩ (fun w_ hw_ N_ hN => (O.mv (O.nil hN))) ?_
      obtain ⟨a17, h17, hr17⟩ := Sl.at (i := (k : Int) + 1) (P := Tryd.prog) Tryd.underlying35 Tryd.sizeOf23 rfl ((hl.keep e_1).keep e2) (by omega)
      refine D.take (i := 7) rfl rfl rfl rfl (by kernel_rfl) (Le.refl _) ⟨_, rfl⟩ (fun w_ hw_ N_ hN => (O.idxR s0_1 s3_1 hr17 (O.nil hN))) ?_
      refine D.take (i := 8) rfl rfl rfl rfl (by kernel_rfl) (Le.refl _) ⟨_, rfl⟩ (fun w_ hw_ N_ hN => (O.loadG (G := Dt.dotF) Tryd.isAgg23 Tryd.sizeOf23 rfl (h17.keep hw_) (O.nil hN))) ?_
      refine D.one (i := 9) rfl rfl (by kernel_rfl) ?_
      refine O.call Tryd.call8 (args2 rfl rfl) (cmp_spec _ _ _) ?_
      rintro v_19 w3 ⟨rfl, e3, _⟩
      have z3 := e3.size
      refine O.nil ⟨e3, ?_⟩
      refine D.take (i := 10) rfl rfl rfl rfl (by kernel_rfl) e3 ⟨_, rfl⟩ (fun w_ hw_ N_ hN => (O.geqI rfl rfl (O.nil hN))) ?_
      refine D.done (by kernel_rfl) ?_
      refine hK9 _ _ ?_
      refine C.condD rfl (fun c20 => ?_) (fun c20 => ?_)
      ·
        simp only [x0, x1, Dt.cmp_ge] at c20
        refine C.seqK fun K10 hK10 => ?_
        refine C.region ?_
        refine O.asg ?_
        refine O.nil ?_
        refine hK10 _ _ ?_
        refine C.ret ?_
        refine Outs.one rfl rfl ?_
        first
        | exact ⟨congrArg Value.bool (Dt.isSet_no hk2 (by omega) rfl c20).symm, (Ext.trans (Ext.trans e_1 e2) e3)⟩
        | exact ⟨congrArg Value.bool (Dt.isSet_yes (fun i hi => hI i hi (by omega))).symm, (Ext.trans (Ext.trans e_1 e2) e3)⟩
      ·
        simp only [x0, x1, Dt.cmp_ge, Decidable.not_not] at c20
        refine C.skip ?_
        refine hK8 _ _ ?_
        refine hK7 _ _ ?_
        refine C.region ?_
        refine O.mv ?_
        refine O.addI s3_1 rfl (by unfold InI; omega) ?_
        refine O.asg ?_
        refine O.nil ?_
        refine ⟨k + 1, ⟨(Eq.trans rfl (i64_eq (by omega))), s0_1, (Ext.trans (Ext.trans e_1 e2) e3), ?_⟩, by first | omega | (simp only []; omega)⟩
        intro i hi hik
        rcases Nat.lt_or_eq_of_le (Nat.le_of_lt_succ hik) with h | rfl
        · exact hI i hi h
        · exact c20
    ·
      refine C.exit ?_
      refine hK4 _ _ ?_
      refine hK2 _ _ ?_
      refine C.seqK fun K11 hK11 => ?_
      refine C.region ?_
      refine O.asg ?_
      refine O.nil ?_
      refine hK11 _ _ ?_
      refine C.ret ?_
      refine Outs.one rfl rfl ?_
      first
      | exact ⟨congrArg Value.bool (Dt.isSet_no hk2 (by omega) rfl c20).symm, e_1⟩
      | exact ⟨congrArg Value.bool (Dt.isSet_yes (fun i hi => hI i hi (by omega))).symm, e_1⟩

theorem risSet_spec (v0 : Value) (l : List Dt.Dot) (F : Nat → Prop) (w : World) (hl : Sl Dt.dotF.enc w F v0 l) :
    Ret Tryd.prog 17 #[v0] w (fun v w' => v = .bool (Dt.isSet l) ∧ Le w w') := by
  have hle := hl.le
  refine enter (args := [v0]) (n := 21) Tryd.func17 rfl rfl (Nat.le_of_ble_eq_true rfl) ?_
  refine C.seqK fun K1 hK1 => ?_
  refine C.region ?_
  refine O.asg ?_
  refine O.nil ?_
  refine hK1 _ _ ?_
  refine C.seqK fun K2 hK2 => ?_
  refine C.seqK fun K3 hK3 => ?_
  refine C.region ?_
  refine O.asg ?_
  refine O.nil ?_
  refine hK3 _ _ ?_
  refine C.block fun K4 hK4 => ?_
  refine C.loop0 (σ := Nat) (fun f0 w0 k f wz => f 3 = .int .i64 ((k : Int) + 1) ∧ f 0 = f0 0 ∧ Le w wz ∧ ∀ i, ∀ h : i + 1 < l.length, i < k → Dt.Less l[i] l[i + 1]) (fun k => l.length - k) 0 ?_ ?_
  ·
    refine ⟨(Eq.trans rfl (i64_eq (by omega))), rfl, (Le.refl _), ?_⟩
    exact fun i h k => absurd k (Nat.not_lt_zero _)
  ·
    rintro k f_1 w1 ⟨s3_1, s0_1, e_1, hI⟩
    have z_1 := e_1.size
    refine C.seqK fun K5 hK5 => ?_
    refine C.seqK fun K6 hK6 => ?_
    refine C.region ?_
    refine O.mv ?_
    refine O.mv ?_
    refine O.len Tryd.underlying35 s0_1 (hl.keep e_1) ?_
    refine O.lssI s3_1 rfl ?_
    refine O.nil ?_
    refine hK6 _ _ ?_
    refine C.condD rfl (fun c7 => ?_) (fun c7 => ?_)
    ·
      have hk2 : k + 1 < l.length := by omega
      have x0 : ((k : Int) + 1 - 1).toNat = k := by omega
      have x1 : ((k : Int) + 1).toNat = k + 1 := by omega
      
      refine C.skip ?_
      refine hK5 _ _ ?_
      refine C.seqK fun K7 hK7 => ?_
      refine C.block fun K8 hK8 => ?_
      refine C.seqK fun K9 hK9 => ?_
      refine C.draw (by kernel_rfl) fun w2 e2 => ?_
      have z2 := e2.size
      refine D.take (i := 0) rfl rfl rfl rfl (by kernel_rfl) (Le.refl _) ⟨pure _, rfl⟩ (fun w_ hw_ N_ hN => (O.mv (O.nil hN))) ?_
      refine D.take (i := 1) rfl rfl rfl rfl (by kernel_rfl) (Le.refl _) ⟨pure _, rfl⟩ (fun w_ hw_ N_ hN => (O.mv (O.nil hN))) ?_
      refine D.take (i := 2) rfl rfl rfl rfl (by kernel_rfl) (Le.refl _) ⟨_, rfl⟩ (fun w_ hw_ N_ hN => (O.subI s3_1 rfl (by unfold InI; omega) (O.nil hN))) ?_
      obtain ⟨a13, h13, hr13⟩ := Sl.at (i := (k : Int) + 1 - 1) (P := Tryd.prog) Tryd.underlying35 Tryd.sizeOf23 rfl ((hl.keep e_1).keep e2) (by omega)
      refine D.take (i := 3) rfl rfl rfl rfl (by kernel_rfl) (Le.refl _) ⟨_, rfl⟩ (fun w_ hw_ N_ hN => (O.idxR s0_1 rfl hr13 (O.nil hN))) ?_
      refine D.take (i := 4) rfl rfl rfl rfl (by kernel_rfl) (Le.refl _) ⟨_, rfl⟩ (fun w_ hw_ N_ hN => (O.loadG (G := Dt.dotF) Tryd.isAgg23 Tryd.sizeOf23 rfl (h13.keep hw_) (O.nil hN))) ?_
      refine D.take (i := 5) rfl rfl rfl rfl (by kernel_rfl) (Le.refl _) ⟨pure _, rfl⟩ (fun w_ hw_ N_ hN => (O.mv (O.nil hN))) ?_
      refine D.take (i := 6) rfl rfl rfl rfl (by kernel_rfl) (Le.refl _) ⟨pure _, rfl⟩ (fun w_ hw_ N_ hN => (O.mv (O.nil hN))) ?_
      obtain ⟨a17, h17, hr17⟩ := Sl.at (i := (k : Int) + 1) (P := Tryd.prog) Tryd.underlying35 Tryd.sizeOf23 rfl ((hl.keep e_1).keep e2) (by omega)
      refine D.take (i := 7) rfl rfl rfl rfl (by kernel_rfl) (Le.refl _) ⟨_, rfl⟩ (fun w_ hw_ N_ hN => (O.idxR s0_1 s3_1 hr17 (O.nil hN))) ?_
      refine D.take (i := 8) rfl rfl rfl rfl (by kernel_rfl) (Le.refl _) ⟨_, rfl⟩ (fun w_ hw_ N_ hN => (O.loadG (G := Dt.dotF) Tryd.isAgg23 Tryd.sizeOf23 rfl (h17.keep hw_) (O.nil hN))) ?_
      refine D.one (i := 9) rfl rfl (by kernel_rfl) ?_
      refine O.call Tryd.call24 (args2 rfl rfl) (less_spec _ _ _) ?_
      rintro v_19 w3 ⟨rfl, e3⟩
      have z3 := e3.size
      refine O.nil ⟨e3, ?_⟩
      refine D.take (i := 10) rfl rfl rfl rfl (by kernel_rfl) e3 ⟨_, rfl⟩ (fun w_ hw_ N_ hN => (O.not rfl (O.nil hN))) ?_
      refine D.done (by kernel_rfl) ?_
      refine hK9 _ _ ?_
      refine C.cond rfl (fun c20 => ?_) (fun c20 => ?_)
      ·
        simp only [x0, x1, Bool.not_eq_true', decide_eq_false_iff_not] at c20
        refine C.seqK fun K10 hK10 => ?_
        refine C.region ?_
        refine O.asg ?_
        refine O.nil ?_
        refine hK10 _ _ ?_
        refine C.ret ?_
        refine Outs.one rfl rfl ?_
        first
        | exact ⟨congrArg Value.bool (Dt.isSet_no hk2 (by omega) rfl c20).symm, (Ext.trans (Ext.trans e_1 e2) e3)⟩
        | exact ⟨congrArg Value.bool (Dt.isSet_yes (fun i hi => hI i hi (by omega))).symm, (Ext.trans (Ext.trans e_1 e2) e3)⟩
      ·
        simp only [x0, x1, Bool.not_eq_false', decide_eq_true_eq] at c20
        refine C.skip ?_
        refine hK8 _ _ ?_
        refine hK7 _ _ ?_
        refine C.region ?_
        refine O.mv ?_
        refine O.addI s3_1 rfl (by unfold InI; omega) ?_
        refine O.asg ?_
        refine O.nil ?_
        refine ⟨k + 1, ⟨(Eq.trans rfl (i64_eq (by omega))), s0_1, (Ext.trans (Ext.trans e_1 e2) e3), ?_⟩, by first | omega | (simp only []; omega)⟩
        intro i hi hik
        rcases Nat.lt_or_eq_of_le (Nat.le_of_lt_succ hik) with h | rfl
        · exact hI i hi h
        · exact c20
    ·
      refine C.exit ?_
      refine hK4 _ _ ?_
      refine hK2 _ _ ?_
      refine C.seqK fun K11 hK11 => ?_
      refine C.region ?_
      refine O.asg ?_
      refine O.nil ?_
      refine hK11 _ _ ?_
      refine C.ret ?_
      refine Outs.one rfl rfl ?_
      first
      | exact ⟨congrArg Value.bool (Dt.isSet_no hk2 (by omega) rfl c20).symm, e_1⟩
      | exact ⟨congrArg Value.bool (Dt.isSet_yes (fun i hi => hI i hi (by omega))).symm, e_1⟩

theorem rhas_spec (v0 : Value) (l : List Dt.Dot) (F : Nat → Prop) (d : Dt.Dot) (w : World) (hl : Sl Dt.dotF.enc w F v0 l) :
    Ret Tryd.prog 21 #[v0, Dt.dv (d)] w (fun v w' => v = .bool (decide (d ∈ l)) ∧ Le w w') := by
  have hle := hl.le
  refine enter (args := [v0, Dt.dv (d)]) (n := 18) Tryd.func21 rfl rfl (Nat.le_of_ble_eq_true rfl) ?_
  refine C.seqK fun K1 hK1 => ?_
  refine C.region ?_
  refine O.box (v := Dt.dv (d)) rfl (fun b3 w1 hb3 hz3 e1 => ?_)
  have z1 := e1.size
  have h3 := hz3.own
  have hl3 := h3.lt
  refine O.asg ?_
  refine O.nil ?_
  refine hK1 _ _ ?_
  refine C.seqK fun K2 hK2 => ?_
  refine C.seqK fun K3 hK3 => ?_
  refine C.region ?_
  refine O.asg ?_
  refine O.nil ?_
  refine hK3 _ _ ?_
  refine C.block fun K4 hK4 => ?_
  refine C.loop0 (σ := Nat) (fun f0 w0 k f wz => f 5 = .int .i64 (k) ∧ f 0 = f0 0 ∧ f 3 = f0 3 ∧ Le w wz ∧ Own wz b3 23 (Dt.dv d).cells.toList ∧ k ≤ l.length ∧ ∀ i, ∀ h : i < l.length, i < k → l[i] ≠ d) (fun k => l.length - k) 0 ?_ ?_
  ·
    refine ⟨rfl, rfl, rfl, e1, h3, ?_⟩
    exact ⟨Nat.zero_le _, fun i h k => absurd k (Nat.not_lt_zero _)⟩
  ·
    rintro k f_1 w2 ⟨s5_1, s0_1, s3_1, e_1, r0_1, ⟨hk, hI⟩⟩
    have z_1 := e_1.size
    refine C.seqK fun K5 hK5 => ?_
    refine C.seqK fun K6 hK6 => ?_
    refine C.region ?_
    refine O.mv ?_
    refine O.mv ?_
    refine O.len Tryd.underlying35 s0_1 (hl.keep e_1) ?_
    refine O.lssI s5_1 rfl ?_
    refine O.nil ?_
    refine hK6 _ _ ?_
    refine C.condD rfl (fun c9 => ?_) (fun c9 => ?_)
    ·
      refine C.skip ?_
      refine hK5 _ _ ?_
      refine C.seqK fun K7 hK7 => ?_
      refine C.block fun K8 hK8 => ?_
      refine C.seqK fun K9 hK9 => ?_
      refine C.draw (by kernel_rfl) fun w3 e3 => ?_
      have z3 := e3.size
      refine D.take (i := 0) rfl rfl rfl rfl (by kernel_rfl) (Le.refl _) ⟨pure _, rfl⟩ (fun w_ hw_ N_ hN => (O.mv (O.nil hN))) ?_
      refine D.take (i := 1) rfl rfl rfl rfl (by kernel_rfl) (Le.refl _) ⟨pure _, rfl⟩ (fun w_ hw_ N_ hN => (O.mv (O.nil hN))) ?_
      obtain ⟨a14, h14, hr14⟩ := Sl.at (i := (k : Int)) (P := Tryd.prog) Tryd.underlying35 Tryd.sizeOf23 rfl ((hl.keep e_1).keep e3) (by omega)
      refine D.take (i := 2) rfl rfl rfl rfl (by kernel_rfl) (Le.refl _) ⟨_, rfl⟩ (fun w_ hw_ N_ hN => (O.idxR s0_1 s5_1 hr14 (O.nil hN))) ?_
      refine D.take (i := 3) rfl rfl rfl rfl (by kernel_rfl) (Le.refl _) ⟨_, rfl⟩ (fun w_ hw_ N_ hN => (O.loadG (G := Dt.dotF) Tryd.isAgg23 Tryd.sizeOf23 rfl (h14.keep hw_) (O.nil hN))) ?_
      refine D.take (i := 4) rfl rfl rfl rfl (by kernel_rfl) (Le.refl _) ⟨_, rfl⟩ (fun w_ hw_ N_ hN => (O.loadOA Tryd.isAgg23 Tryd.sizeOf23 s3_1 ((r0_1.keep e3).keep hw_) (Nat.le_of_ble_eq_true rfl) (O.nil hN))) ?_
      refine D.take (i := 5) rfl rfl rfl rfl (by kernel_rfl) (Le.refl _) ⟨_, rfl⟩ (fun w_ hw_ N_ hN => (O.eqlP Tryd.underlying23 (by decide) (by decide) rfl rfl Tryd.underlying3 Tryd.underlying3 Tryd.isAgg3 Tryd.isAgg3 (by kernel_rfl) (by kernel_rfl) rfl rfl (O.nil hN))) ?_
      refine D.done (by kernel_rfl) ?_
      refine hK9 _ _ ?_
      refine C.condD rfl (fun c17 => ?_) (fun c17 => ?_)
      ·
        refine C.seqK fun K10 hK10 => ?_
        refine C.region ?_
        refine O.asg ?_
        refine O.nil ?_
        refine hK10 _ _ ?_
        refine C.ret ?_
        refine Outs.one rfl rfl ?_
        first
        | exact ⟨congrArg Value.bool (decide_eq_true (by rw [← c17]; exact List.getElem_mem _)).symm, (Ext.trans e_1 e3)⟩
        | exact ⟨congrArg Value.bool (decide_eq_false (Dt.not_mem fun i hi => hI i hi (by omega))).symm, (Ext.trans e_1 e3)⟩
      ·
        refine C.skip ?_
        refine hK8 _ _ ?_
        refine hK7 _ _ ?_
        refine C.region ?_
        refine O.mv ?_
        refine O.addI s5_1 rfl (by unfold InI; omega) ?_
        refine O.asg ?_
        refine O.nil ?_
        refine ⟨k + 1, ⟨rfl, s0_1, s3_1, (Ext.trans e_1 e3), (r0_1.keep e3), ?_⟩, by first | omega | (simp only []; omega)⟩
        refine ⟨by omega, fun i hi hik => ?_⟩
        rcases Nat.lt_or_eq_of_le (Nat.le_of_lt_succ hik) with h | rfl
        · exact hI i hi h
        · exact c17
    ·
      refine C.exit ?_
      refine hK4 _ _ ?_
      refine hK2 _ _ ?_
      refine C.seqK fun K11 hK11 => ?_
      refine C.region ?_
      refine O.asg ?_
      refine O.nil ?_
      refine hK11 _ _ ?_
      refine C.ret ?_
      refine Outs.one rfl rfl ?_
      first
      | exact ⟨congrArg Value.bool (decide_eq_true (by rw [← c17]; exact List.getElem_mem _)).symm, e_1⟩
      | exact ⟨congrArg Value.bool (decide_eq_false (Dt.not_mem fun i hi => hI i hi (by omega))).symm, e_1⟩

theorem index_spec (v0 : Value) (l : List Dt.Dot) (F : Nat → Prop) (d : Dt.Dot) (w : World) (hl : Sl Dt.dotF.enc w F v0 l) :
    Ret Tryd.prog 50 #[v0, Dt.dv (d)] w (fun v w' => (∃ r : Int, v = .int .i64 r ∧ (r ≥ 0 ↔ d ∈ l)) ∧ Le w w') := by
  have hle := hl.le
  refine enter (args := [v0, Dt.dv (d)]) (n := 19) Tryd.func50 rfl rfl (Nat.le_of_ble_eq_true rfl) ?_
  refine C.seqK fun K1 hK1 => ?_
  refine C.region ?_
  refine O.box (v := Dt.dv (d)) rfl (fun b3 w1 hb3 hz3 e1 => ?_)
  have z1 := e1.size
  have h3 := hz3.own
  have hl3 := h3.lt
  refine O.asg ?_
  refine O.nil ?_
  refine hK1 _ _ ?_
  refine C.seqK fun K2 hK2 => ?_
  refine C.seqK fun K3 hK3 => ?_
  refine C.region ?_
  refine O.mv ?_
  refine O.len Tryd.underlying35 rfl (hl.keep e1) ?_
  refine O.mv ?_
  refine O.nil ?_
  refine hK3 _ _ ?_
  refine C.block fun K4 hK4 => ?_
  refine C.loop0 (σ := Nat) (fun f0 w0 k f wz => f 8 = .int .i64 (k) ∧ f 0 = f0 0 ∧ f 3 = f0 3 ∧ f 7 = f0 7 ∧ Le w wz ∧ Own wz b3 23 (Dt.dv d).cells.toList ∧ k ≤ l.length ∧ ∀ i, ∀ h : i < l.length, i < k → l[i] ≠ d) (fun k => l.length - k) 0 ?_ ?_
  ·
    refine ⟨rfl, rfl, rfl, rfl, e1, h3, ?_⟩
    exact ⟨Nat.zero_le _, fun i h k => absurd k (Nat.not_lt_zero _)⟩
  ·
    rintro k f_1 w2 ⟨s8_1, s0_1, s3_1, s7_1, e_1, r0_1, ⟨hk, hI⟩⟩
    have z_1 := e_1.size
    refine C.seqK fun K5 hK5 => ?_
    refine C.region ?_
    refine O.lssI s8_1 s7_1 ?_
    refine O.nil ?_
    refine hK5 _ _ ?_
    refine C.seqK fun K6 hK6 => ?_
    refine C.condD rfl (fun c9 => ?_) (fun c9 => ?_)
    ·
      refine C.skip ?_
      refine hK6 _ _ ?_
      refine C.seqK fun K7 hK7 => ?_
      refine C.block fun K8 hK8 => ?_
      refine C.seqK fun K9 hK9 => ?_
      refine C.region ?_
      refine O.mv ?_
      refine O.asg ?_
      refine O.nil ?_
      refine hK9 _ _ ?_
      refine C.seqK fun K10 hK10 => ?_
      refine C.draw (by kernel_rfl) fun w3 e3 => ?_
      have z3 := e3.size
      refine D.take (i := 0) rfl rfl rfl rfl (by kernel_rfl) (Le.refl _) ⟨_, rfl⟩ (fun w_ hw_ N_ hN => (O.loadOA Tryd.isAgg23 Tryd.sizeOf23 s3_1 ((r0_1.keep e3).keep hw_) (Nat.le_of_ble_eq_true rfl) (O.nil hN))) ?_
      refine D.take (i := 1) rfl rfl rfl rfl (by kernel_rfl) (Le.refl _) ⟨pure _, rfl⟩ (fun w_ hw_ N_ hN => (O.mv (O.nil hN))) ?_
      refine D.take (i := 2) rfl rfl rfl rfl (by kernel_rfl) (Le.refl _) ⟨pure _, rfl⟩ (fun w_ hw_ N_ hN => (O.mv (O.nil hN))) ?_
      obtain ⟨a14, h14, hr14⟩ := Sl.at (i := (k : Int)) (P := Tryd.prog) Tryd.underlying35 Tryd.sizeOf23 rfl ((hl.keep e_1).keep e3) (by omega)
      refine D.take (i := 3) rfl rfl rfl rfl (by kernel_rfl) (Le.refl _) ⟨_, rfl⟩ (fun w_ hw_ N_ hN => (O.idxR s0_1 s8_1 hr14 (O.nil hN))) ?_
      refine D.take (i := 4) rfl rfl rfl rfl (by kernel_rfl) (Le.refl _) ⟨_, rfl⟩ (fun w_ hw_ N_ hN => (O.loadG (G := Dt.dotF) Tryd.isAgg23 Tryd.sizeOf23 rfl (h14.keep hw_) (O.nil hN))) ?_
      refine D.take (i := 5) rfl rfl rfl rfl (by kernel_rfl) (Le.refl _) ⟨_, rfl⟩ (fun w_ hw_ N_ hN => (O.eqlP Tryd.underlying23 (by decide) (by decide) rfl rfl Tryd.underlying3 Tryd.underlying3 Tryd.isAgg3 Tryd.isAgg3 (by kernel_rfl) (by kernel_rfl) rfl rfl (O.nil hN))) ?_
      refine D.done (by kernel_rfl) ?_
      refine hK10 _ _ ?_
      refine C.condD rfl (fun c16 => ?_) (fun c16 => ?_)
      ·
        refine C.seqK fun K11 hK11 => ?_
        refine C.region ?_
        refine O.mv ?_
        refine O.asg ?_
        refine O.nil ?_
        refine hK11 _ _ ?_
        refine C.ret ?_
        refine Outs.one rfl s8_1 ?_
        first
        | exact ⟨⟨_, rfl, ⟨fun _ => by rw [c16]; exact List.getElem_mem _, fun _ => by omega⟩⟩, (Ext.trans e_1 e3)⟩
        | exact ⟨⟨-1, rfl, ⟨fun h => absurd h (by omega), fun h => absurd h (Dt.not_mem fun i hi => hI i hi (by omega))⟩⟩, (Ext.trans e_1 e3)⟩
      ·
        refine C.skip ?_
        refine hK8 _ _ ?_
        refine hK7 _ _ ?_
        refine C.region ?_
        refine O.addI s8_1 rfl (by unfold InI; omega) ?_
        refine O.mv ?_
        refine O.nil ?_
        refine ⟨k + 1, ⟨rfl, s0_1, s3_1, s7_1, (Ext.trans e_1 e3), (r0_1.keep e3), ?_⟩, by first | omega | (simp only []; omega)⟩
        refine ⟨by omega, fun i hi hik => ?_⟩
        rcases Nat.lt_or_eq_of_le (Nat.le_of_lt_succ hik) with h | rfl
        · exact hI i hi h
        · exact fun h => c16 h.symm
    ·
      refine C.exit ?_
      refine hK4 _ _ ?_
      refine hK2 _ _ ?_
      refine C.seqK fun K12 hK12 => ?_
      refine C.region ?_
      refine O.asg ?_
      refine O.nil ?_
      refine hK12 _ _ ?_
      refine C.ret ?_
      refine Outs.one rfl rfl ?_
      first
      | exact ⟨⟨_, rfl, ⟨fun _ => by rw [c16]; exact List.getElem_mem _, fun _ => by omega⟩⟩, e_1⟩
      | exact ⟨⟨-1, rfl, ⟨fun h => absurd h (by omega), fun h => absurd h (Dt.not_mem fun i hi => hI i hi (by omega))⟩⟩, e_1⟩

theorem contains_spec (v0 : Value) (l : List Dt.Dot) (F : Nat → Prop) (d : Dt.Dot) (w : World) (hl : Sl Dt.dotF.enc w F v0 l) :
    Ret Tryd.prog 36 #[v0, Dt.dv (d)] w (fun v w' => v = .bool (decide (d ∈ l)) ∧ Le w w') := by
  refine enter (args := [v0, Dt.dv (d)]) (n := 9) Tryd.func36 rfl rfl (Nat.le_of_ble_eq_true rfl) ?_
  refine C.seqK fun K1 hK1 => ?_
  refine C.region ?_
  refine O.box (v := Dt.dv (d)) rfl (fun b3 w1 hb3 hz3 e1 => ?_)
  have z1 := e1.size
  have h3 := hz3.own
  have hl3 := h3.lt
  refine O.asg ?_
  refine O.nil ?_
  refine hK1 _ _ ?_
  refine C.seqK fun K2 hK2 => ?_
  refine C.region ?_
  refine O.mv ?_
  refine O.loadOA Tryd.isAgg23 Tryd.sizeOf23 rfl h3 (Nat.le_of_ble_eq_true rfl) ?_
  refine O.call Tryd.call50 (args2 rfl rfl) (index_spec _ _ _ d _ (hl.keep e1)) ?_
  rintro v_7 w2 ⟨⟨rv7, rfl, hrv7⟩, e2⟩
  have z2 := e2.size
  refine O.geqI rfl rfl ?_
  refine O.asg ?_
  refine O.nil ?_
  refine hK2 _ _ ?_
  refine C.ret ?_
  refine Outs.one rfl rfl ?_
  exact ⟨congrArg Value.bool (decide_eq_decide.2 hrv7), (Ext.trans e1 e2)⟩

theorem has_spec (v0 : Value) (l : List Dt.Dot) (F : Nat → Prop) (d : Dt.Dot) (w : World) (hl : Sl Dt.dotF.enc w F v0 l) :
    Ret Tryd.prog 20 #[v0, Dt.dv (d)] w (fun v w' => v = .bool (decide (d ∈ l)) ∧ Le w w') := by
  refine enter (args := [v0, Dt.dv (d)]) (n := 8) Tryd.func20 rfl rfl (Nat.le_of_ble_eq_true rfl) ?_
  refine C.seqK fun K1 hK1 => ?_
  refine C.region ?_
  refine O.box (v := Dt.dv (d)) rfl (fun b3 w1 hb3 hz3 e1 => ?_)
  have z1 := e1.size
  have h3 := hz3.own
  have hl3 := h3.lt
  refine O.asg ?_
  refine O.nil ?_
  refine hK1 _ _ ?_
  refine C.seqK fun K2 hK2 => ?_
  refine C.region ?_
  refine O.mv ?_
  refine O.loadOA Tryd.isAgg23 Tryd.sizeOf23 rfl h3 (Nat.le_of_ble_eq_true rfl) ?_
  refine O.call Tryd.call36 (args2 rfl rfl) (contains_spec _ _ _ d _ (hl.keep e1)) ?_
  rintro v_7 w2 ⟨rfl, e2⟩
  have z2 := e2.size
  refine O.asg ?_
  refine O.nil ?_
  refine hK2 _ _ ?_
  refine C.ret ?_
  refine Outs.one rfl rfl ?_
  exact ⟨rfl, (Ext.trans e1 e2)⟩

theorem same_spec (v0 : Value) (a : List Dt.Dot) (v1 : Value) (b : List Dt.Dot) (F F2 : Nat → Prop) (w : World) (ha : Sl Dt.dotF.enc w F v0 a) (hb : Sl Dt.dotF.enc w F2 v1 b) :
    Ret Tryd.prog 18 #[v0, v1] w (fun v w' => v = .bool (decide (a = b)) ∧ Le w w') := by
  have hale := ha.le
  have hble := hb.le
  refine enter (args := [v0, v1]) (n := 26) Tryd.func18 rfl rfl (Nat.le_of_ble_eq_true rfl) ?_
  refine C.seqK fun K1 hK1 => ?_
  refine C.region ?_
  refine O.asg ?_
  refine O.nil ?_
  refine hK1 _ _ ?_
  refine C.seqK fun K2 hK2 => ?_
  refine C.seqK fun K3 hK3 => ?_
  refine C.region ?_
  refine O.mv ?_
  refine O.len Tryd.underlying35 rfl ha ?_
  refine O.mv ?_
  refine O.len Tryd.underlying35 rfl hb ?_
  refine O.neqI rfl rfl ?_
  refine O.nil ?_
  refine hK3 _ _ ?_
  refine C.condD rfl (fun c10 => ?_) (fun c10 => ?_)
  ·
    refine C.seqK fun K4 hK4 => ?_
    refine C.region ?_
    refine O.asg ?_
    refine O.nil ?_
    refine hK4 _ _ ?_
    refine C.ret ?_
    refine Outs.one rfl rfl ?_
    first
    | exact ⟨congrArg Value.bool (decide_eq_false (fun h => c10 (congrArg (fun l : List Dt.Dot => (l.length : Int)) h))).symm, (Le.refl _)⟩
    | exact ⟨congrArg Value.bool (decide_eq_false (fun h => c25 (by simp only [h]))).symm, (Le.refl _)⟩
    | (have hk2 : k = a.length := by omega
       subst hk2
       rw [List.take_length, List.take_of_length_le (by omega)] at hI
       exact ⟨congrArg Value.bool (decide_eq_true hI).symm, (Le.refl _)⟩)
  ·
    have hlen : a.length = b.length := by omega
    refine C.skip ?_
    refine hK2 _ _ ?_
    refine C.seqK fun K5 hK5 => ?_
    refine C.seqK fun K6 hK6 => ?_
    refine C.region ?_
    refine O.asg ?_
    refine O.nil ?_
    refine hK6 _ _ ?_
    refine C.block fun K7 hK7 => ?_
    refine C.loop0 (σ := Nat) (fun f0 w0 k f wz => f 5 = .int .i64 (k) ∧ f 0 = f0 0 ∧ f 1 = f0 1 ∧ Le w wz ∧ k ≤ a.length ∧ a.take k = b.take k) (fun k => a.length - k) 0 ?_ ?_
    ·
      refine ⟨rfl, rfl, rfl, (Le.refl _), ?_⟩
      exact ⟨Nat.zero_le _, rfl⟩
    ·
      rintro k f_1 w1 ⟨s5_1, s0_1, s1_1, e_1, ⟨hk, hI⟩⟩
      have z_1 := e_1.size
      refine C.seqK fun K8 hK8 => ?_
      refine C.seqK fun K9 hK9 => ?_
      refine C.region ?_
      refine O.mv ?_
      refine O.mv ?_
      refine O.len Tryd.underlying35 s0_1 (ha.keep e_1) ?_
      refine O.lssI s5_1 rfl ?_
      refine O.nil ?_
      refine hK9 _ _ ?_
      refine C.condD rfl (fun c14 => ?_) (fun c14 => ?_)
      ·
        refine C.skip ?_
        refine hK8 _ _ ?_
        refine C.seqK fun K10 hK10 => ?_
        refine C.block fun K11 hK11 => ?_
        refine C.seqK fun K12 hK12 => ?_
        refine C.draw (by kernel_rfl) fun w2 e2 => ?_
        have z2 := e2.size
        refine D.take (i := 0) rfl rfl rfl rfl (by kernel_rfl) (Le.refl _) ⟨pure _, rfl⟩ (fun w_ hw_ N_ hN => (O.mv (O.nil hN))) ?_
        refine D.take (i := 1) rfl rfl rfl rfl (by kernel_rfl) (Le.refl _) ⟨pure _, rfl⟩ (fun w_ hw_ N_ hN => (O.mv (O.nil hN))) ?_
        obtain ⟨a19, h19, hr19⟩ := Sl.at (i := (k : Int)) (P := Tryd.prog) Tryd.underlying35 Tryd.sizeOf23 rfl ((ha.keep e_1).keep e2) (by omega)
        refine D.take (i := 2) rfl rfl rfl rfl (by kernel_rfl) (Le.refl _) ⟨_, rfl⟩ (fun w_ hw_ N_ hN => (O.idxR s0_1 s5_1 hr19 (O.nil hN))) ?_
        refine D.take (i := 3) rfl rfl rfl rfl (by kernel_rfl) (Le.refl _) ⟨_, rfl⟩ (fun w_ hw_ N_ hN => (O.loadG (G := Dt.dotF) Tryd.isAgg23 Tryd.sizeOf23 rfl (h19.keep hw_) (O.nil hN))) ?_
        refine D.take (i := 4) rfl rfl rfl rfl (by kernel_rfl) (Le.refl _) ⟨pure _, rfl⟩ (fun w_ hw_ N_ hN => (O.mv (O.nil hN))) ?_
        refine D.take (i := 5) rfl rfl rfl rfl (by kernel_rfl) (Le.refl _) ⟨pure _, rfl⟩ (fun w_ hw_ N_ hN => (O.mv (O.nil hN))) ?_
        obtain ⟨a23, h23, hr23⟩ := Sl.at (i := (k : Int)) (P := Tryd.prog) Tryd.underlying35 Tryd.sizeOf23 rfl ((hb.keep e_1).keep e2) (by omega)
        refine D.take (i := 6) rfl rfl rfl rfl (by kernel_rfl) (Le.refl _) ⟨_, rfl⟩ (fun w_ hw_ N_ hN => (O.idxR s1_1 s5_1 hr23 (O.nil hN))) ?_
        refine D.take (i := 7) rfl rfl rfl rfl (by kernel_rfl) (Le.refl _) ⟨_, rfl⟩ (fun w_ hw_ N_ hN => (O.loadG (G := Dt.dotF) Tryd.isAgg23 Tryd.sizeOf23 rfl (h23.keep hw_) (O.nil hN))) ?_
        refine D.take (i := 8) rfl rfl rfl rfl (by kernel_rfl) (Le.refl _) ⟨_, rfl⟩ (fun w_ hw_ N_ hN => (O.neqP Tryd.underlying23 (by decide) (by decide) rfl rfl Tryd.underlying3 Tryd.underlying3 Tryd.isAgg3 Tryd.isAgg3 (by kernel_rfl) (by kernel_rfl) rfl rfl (O.nil hN))) ?_
        refine D.done (by kernel_rfl) ?_
        refine hK12 _ _ ?_
        refine C.condD rfl (fun c25 => ?_) (fun c25 => ?_)
        ·
          refine C.seqK fun K13 hK13 => ?_
          refine C.region ?_
          refine O.asg ?_
          refine O.nil ?_
          refine hK13 _ _ ?_
          refine C.ret ?_
          refine Outs.one rfl rfl ?_
          first
          | exact ⟨congrArg Value.bool (decide_eq_false (fun h => c10 (congrArg (fun l : List Dt.Dot => (l.length : Int)) h))).symm, (Ext.trans e_1 e2)⟩
          | exact ⟨congrArg Value.bool (decide_eq_false (fun h => c25 (by simp only [h]))).symm, (Ext.trans e_1 e2)⟩
          | (have hk2 : k = a.length := by omega
             subst hk2
             rw [List.take_length, List.take_of_length_le (by omega)] at hI
             exact ⟨congrArg Value.bool (decide_eq_true hI).symm, (Ext.trans e_1 e2)⟩)
        ·
          refine C.skip ?_
          refine hK11 _ _ ?_
          refine hK10 _ _ ?_
          refine C.region ?_
          refine O.mv ?_
          refine O.addI s5_1 rfl (by unfold InI; omega) ?_
          refine O.asg ?_
          refine O.nil ?_
          refine ⟨k + 1, ⟨rfl, s0_1, s1_1, (Ext.trans e_1 e2), ?_⟩, by first | omega | (simp only []; omega)⟩
          have hka : k < a.length := by omega
          have hkb : k < b.length := by omega
          have hq : a[k] = b[k] := Decidable.of_not_not c25
          refine ⟨by omega, ?_⟩
          rw [List.take_succ_eq_append_getElem hka, List.take_succ_eq_append_getElem hkb, hI, hq]
      ·
        refine C.exit ?_
        refine hK7 _ _ ?_
        refine hK5 _ _ ?_
        refine C.seqK fun K14 hK14 => ?_
        refine C.region ?_
        refine O.asg ?_
        refine O.nil ?_
        refine hK14 _ _ ?_
        refine C.ret ?_
        refine Outs.one rfl rfl ?_
        first
        | exact ⟨congrArg Value.bool (decide_eq_false (fun h => c10 (congrArg (fun l : List Dt.Dot => (l.length : Int)) h))).symm, e_1⟩
        | exact ⟨congrArg Value.bool (decide_eq_false (fun h => c25 (by simp only [h]))).symm, e_1⟩
        | (have hk2 : k = a.length := by omega
           subst hk2
           rw [List.take_length, List.take_of_length_le (by omega)] at hI
           exact ⟨congrArg Value.bool (decide_eq_true hI).symm, e_1⟩)

theorem clone_spec (v0 : Value) (l : List Dt.Dot) (F : Nat → Prop) (w : World) (hl : Sl Dt.dotF.enc w F v0 l) (hn : l.length ≤ 1000000) :
    Ret Tryd.prog 32 #[v0] w (fun v w' => Le w w' ∧ OwnF Dt.dotF 23 w.heap.size w' v l) := by
  have hle := hl.le
  obtain ⟨ie23, ti23, ts23, tb23, tz23⟩ := inf23
  refine enter (args := [v0]) (n := 8) Tryd.func32 rfl rfl (Nat.le_of_ble_eq_true rfl) ?_
  refine C.seqK fun K1 hK1 => ?_
  refine C.region ?_
  refine O.asg ?_
  refine O.nil ?_
  refine hK1 _ _ ?_
  refine C.seqK fun K2 hK2 => ?_
  refine C.seqK fun K3 hK3 => ?_
  refine C.region ?_
  refine O.mv ?_
  refine O.eqlNilS Tryd.underlying35 rfl hl ?_
  refine O.nil ?_
  refine hK3 _ _ ?_
  refine C.cond rfl (fun c4 => ?_) (fun c4 => ?_)
  ·
    refine C.seqK fun K4 hK4 => ?_
    refine C.region ?_
    refine O.asg ?_
    refine O.nil ?_
    refine hK4 _ _ ?_
    refine C.ret ?_
    refine Outs.one rfl rfl ?_
    first
    | (obtain rfl := isNilS_nil hl c4
       exact ⟨(Le.refl _), OwnF.nil _ _ _ _⟩)
    | exact ⟨(Le.refl _), {app:7}⟩
  ·
    refine C.skip ?_
    refine hK2 _ _ ?_
    refine C.seqK fun K5 hK5 => ?_
    refine C.region ?_
    refine O.lit0 Tryd.underlying35 ti23 (fun b5 w1 hb5 hz5 e1 => ?_)
    have z1 := e1.size
    have h5 := hz5.own
    have hl5 := h5.lt
    have h1005 : OwnF Dt.dotF 23 w.heap.size w1 _ [] := OwnF.lit0 hz5 hb5
    refine O.mv ?_
    refine O.appF (G := Dt.dotF) Tryd.underlying35 ti23 tz23 ts23 rfl rfl rfl h1005 (hl.keep e1) (by rw [tb23]; simp; omega) (by unfold maxLen; simp; omega) (by omega) (fun v7 w2 h7 e2 => ?_)
    have z2 := e2.size
    have h7s := h7.sl
    refine O.asg ?_
    refine O.nil ?_
    refine hK5 _ _ ?_
    refine C.ret ?_
    refine Outs.one rfl rfl ?_
    first
    | (obtain rfl := isNilS_nil hl c4
       exact ⟨(Ext.new e1 e2 (by intro i hi h; have := h1005.bk_ge i h; omega)), OwnF.nil _ _ _ _⟩)
    | exact ⟨(Ext.new e1 e2 (by intro i hi h; have := h1005.bk_ge i h; omega)), h7⟩

end Go.Proofs.YtbmbaajfkmejgaaDoor
