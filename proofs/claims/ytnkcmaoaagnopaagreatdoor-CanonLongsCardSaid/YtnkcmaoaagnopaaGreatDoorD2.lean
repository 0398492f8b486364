/-
  The walks of dots: lists. Conditions: slices as they lie in memory.
-/
import Derived.Test.YtnkcmaoaagnopaaGreatDoorD1
namespace Go.Proofs.YtnkcmaoaagnopaaGreatDoor
open Go.Pn Go.RowKit

theorem isSet_spec (v0 : Value) (l : List Dt.Dot) (F : Nat → Prop) (w : World) (hl : Sl Dt.dotF.enc w F v0 l) :
    Ret Tryz.prog 65 #[v0] w (fun v w' => v = .bool (Dt.isSet l) ∧ Le w w') := by
  have hle := hl.le
  refine enter (args := [v0]) (n := 21) Tryz.func65 rfl rfl (Nat.le_of_ble_eq_true rfl) ?_
  refine C.seqK fun K1 hK1 => ?_
  refine C.region ?_
  refine O.asg ?_
  refine O.nil ?_
  refine hK1 _ _ ?_
  refine C.seqK fun K2 hK2 => ?_
  refine C.seqK fun K3 hK3 => ?_
  refine C.region ?_
  refine O.asg ?_
  refine O.nil ?_
  refine hK3 _ _ ?_
  refine C.block fun K4 hK4 => ?_
  refine C.loop0 (σ := Nat) (fun f0 w0 k f wz => f 3 = .int .i64 ((k : Int) + 1) ∧ f 0 = f0 0 ∧ Le w wz ∧ ∀ i, ∀ h : i + 1 < l.length, i < k → Dt.Less l[i] l[i + 1]) (fun k => l.length - k) 0 ?_ ?_
  ·
    refine ⟨(Eq.trans rfl (i64_eq (by omega))), rfl, (Le.refl _), ?_⟩
    exact fun i h k => absurd k (Nat.not_lt_zero _)
  ·
    rintro k f_1 w1 ⟨s3_1, s0_1, e_1, hI⟩
    have z_1 := e_1.size
    refine C.seqK fun K5 hK5 => ?_
    refine C.seqK fun K6 hK6 => ?_
    refine C.region ?_
    refine O.mv ?_
    refine O.mv ?_
    refine O.len Tryz.underlying22 s0_1 (hl.keep e_1) ?_
    refine O.lssI s3_1 rfl ?_
    refine O.nil ?_
    refine hK6 _ _ ?_
    refine C.condD rfl (fun c7 => ?_) (fun c7 => ?_)
    ·
      have hk2 : k + 1 < l.length := by omega
      have x0 : ((k : Int) + 1 - 1).toNat = k := by omega
      have x1 : ((k : Int) + 1).toNat = k + 1 := by omega
      
      refine C.skip ?_
      refine hK5 _ _ ?_
      refine C.seqK fun K7 hK7 => ?_
      refine C.block fun K8 hK8 => ?_
      refine C.seqK fun K9 hK9 => ?_
      refine C.draw (by kernel_rfl) fun w2 e2 => ?_
      have z2 := e2.size
      refine D.take (i := 0) rfl rfl rfl rfl (by kernel_rfl) (Le.refl _) ⟨pure _, rfl⟩ (fun w_ hw_ N_ hN => (O.mv (O.nil hN))) ?_
      refine D.take (i := 1) rfl rfl rfl rfl (by kernel_rfl) (Le.refl _) ⟨pure _, rfl⟩ (fun w_ hw_ N_ hN => (O.mv (O.nil hN))) ?_
      refine D.take (i := 2) rfl rfl rfl rfl (by kernel_rfl) (Le.refl _) ⟨_, rfl⟩ (fun w_ hw_ N_ hN => (O.subI s3_1 rfl (by unfold InI; omega) (O.nil hN))) ?_
      obtain ⟨a13, h13, hr13⟩ := Sl.at (i := (k : Int) + 1 - 1) (P := Tryz.prog) Tryz.underlying22 Tryz.sizeOf51 rfl ((hl.keep e_1).keep e2) (by omega)
      refine D.take (i := 3) rfl rfl rfl rfl (by kernel_rfl) (Le.refl _) ⟨_, rfl⟩ (fun w_ hw_ N_ hN => (O.idxR s0_1 rfl hr13 (O.nil hN))) ?_
      refine D.take (i := 4) rfl rfl rfl rfl (by kernel_rfl) (Le.refl _) ⟨_, rfl⟩ (fun w_ hw_ N_ hN => (O.loadG (G := Dt.dotF) Tryz.isAgg51 Tryz.sizeOf51 rfl (h13.keep hw_) (O.nil hN))) ?_
      refine D.take (i := 5) rfl rfl rfl rfl (by kernel_rfl) (Le.refl _) ⟨pure _, rfl⟩ (fun w_ hw_ N_ hN => (O.mv (O.nil hN))) ?_
      refine D.take (i := 6) rfl rfl rfl rfl (by kernel_rfl) (Le.refl _) ⟨pure _, rfl⟩ (fun w_ hw_ N_ hN => (O.mv (O.nil hN))) ?_
      obtain ⟨a17, h17, hr17⟩ := Sl.at (i := (k : Int) + 1) (P := Tryz.prog) Tryz.underlying22 Tryz.sizeOf51 rfl ((hl.keep e_1).keep e2) (by omega)
      refine D.take (i := 7) rfl rfl rfl rfl (by kernel_rfl) (Le.refl _) ⟨_, rfl⟩ (fun w_ hw_ N_ hN => (O.idxR s0_1 s3_1 hr17 (O.nil hN))) ?_
      refine D.take (i := 8) rfl rfl rfl rfl (by kernel_rfl) (Le.refl _) ⟨_, rfl⟩ (fun w_ hw_ N_ hN => (O.loadG (G := Dt.dotF) Tryz.isAgg51 Tryz.sizeOf51 rfl (h17.keep hw_) (O.nil hN))) ?_
      refine D.one (i := 9) rfl rfl (by kernel_rfl) ?_
      refine O.call Tryz.call89 (args2 rfl rfl) (cmp_spec _ _ _) ?_
      rintro v_19 w3 ⟨rfl, e3, _⟩
      have z3 := e3.size
      refine O.nil ⟨e3, ?_⟩
      refine D.take (i := 10) rfl rfl rfl rfl (by kernel_rfl) e3 ⟨_, rfl⟩ (fun w_ hw_ N_ hN => (O.geqI rfl rfl (O.nil hN))) ?_
      refine D.done (by kernel_rfl) ?_
      refine hK9 _ _ ?_
      refine C.condD rfl (fun c20 => ?_) (fun c20 => ?_)
      ·
        simp only [x0, x1, Dt.cmp_ge] at c20
        refine C.seqK fun K10 hK10 => ?_
        refine C.region ?_
        refine O.asg ?_
        refine O.nil ?_
        refine hK10 _ _ ?_
        refine C.ret ?_
        refine Outs.one rfl rfl ?_
        first
        | exact ⟨congrArg Value.bool (Dt.isSet_no hk2 (by omega) rfl c20).symm, (Ext.trans (Ext.trans e_1 e2) e3)⟩
        | exact ⟨congrArg Value.bool (Dt.isSet_yes (fun i hi => hI i hi (by omega))).symm, (Ext.trans (Ext.trans e_1 e2) e3)⟩
      ·
        simp only [x0, x1, Dt.cmp_ge, Decidable.not_not] at c20
        refine C.skip ?_
        refine hK8 _ _ ?_
        refine hK7 _ _ ?_
        refine C.region ?_
        refine O.mv ?_
        refine O.addI s3_1 rfl (by unfold InI; omega) ?_
        refine O.asg ?_
        refine O.nil ?_
        refine ⟨k + 1, ⟨(Eq.trans rfl (i64_eq (by omega))), s0_1, (Ext.trans (Ext.trans e_1 e2) e3), ?_⟩, by first | omega | (simp only []; omega)⟩
        intro i hi hik
        rcases Nat.lt_or_eq_of_le (Nat.le_of_lt_succ hik) with h | rfl
        · exact hI i hi h
        · exact c20
    ·
      refine C.exit ?_
      refine hK4 _ _ ?_
      refine hK2 _ _ ?_
      refine C.seqK fun K11 hK11 => ?_
      refine C.region ?_
      refine O.asg ?_
      refine O.nil ?_
      refine hK11 _ _ ?_
      refine C.ret ?_
      refine Outs.one rfl rfl ?_
      first
      | exact ⟨congrArg Value.bool (Dt.isSet_no hk2 (by omega) rfl c20).symm, e_1⟩
      | exact ⟨congrArg Value.bool (Dt.isSet_yes (fun i hi => hI i hi (by omega))).symm, e_1⟩

theorem index_spec (v0 : Value) (l : List Dt.Dot) (F : Nat → Prop) (d : Dt.Dot) (w : World) (hl : Sl Dt.dotF.enc w F v0 l) :
    Ret Tryz.prog 145 #[v0, Dt.dv (d)] w (fun v w' => (∃ r : Int, v = .int .i64 r ∧ (r ≥ 0 ↔ d ∈ l)) ∧ Le w w') := by
  have hle := hl.le
  refine enter (args := [v0, Dt.dv (d)]) (n := 19) Tryz.func145 rfl rfl (Nat.le_of_ble_eq_true rfl) ?_
  refine C.seqK fun K1 hK1 => ?_
  refine C.region ?_
  refine O.box (v := Dt.dv (d)) rfl (fun b3 w1 hb3 hz3 e1 => ?_)
  have z1 := e1.size
  have h3 := hz3.own
  have hl3 := h3.lt
  refine O.asg ?_
  refine O.nil ?_
  refine hK1 _ _ ?_
  refine C.seqK fun K2 hK2 => ?_
  refine C.seqK fun K3 hK3 => ?_
  refine C.region ?_
  refine O.mv ?_
  refine O.len Tryz.underlying22 rfl (hl.keep e1) ?_
  refine O.mv ?_
  refine O.nil ?_
  refine hK3 _ _ ?_
  refine C.block fun K4 hK4 => ?_
  refine C.loop0 (σ := Nat) (fun f0 w0 k f wz => f 8 = .int .i64 (k) ∧ f 0 = f0 0 ∧ f 3 = f0 3 ∧ f 7 = f0 7 ∧ Le w wz ∧ Own wz b3 51 (Dt.dv d).cells.toList ∧ k ≤ l.length ∧ ∀ i, ∀ h : i < l.length, i < k → l[i] ≠ d) (fun k => l.length - k) 0 ?_ ?_
  ·
    refine ⟨rfl, rfl, rfl, rfl, e1, h3, ?_⟩
    exact ⟨Nat.zero_le _, fun i h k => absurd k (Nat.not_lt_zero _)⟩
  ·
    rintro k f_1 w2 ⟨s8_1, s0_1, s3_1, s7_1, e_1, r0_1, ⟨hk, hI⟩⟩
    have z_1 := e_1.size
    refine C.seqK fun K5 hK5 => ?_
    refine C.region ?_
    refine O.lssI s8_1 s7_1 ?_
    refine O.nil ?_
    refine hK5 _ _ ?_
    refine C.seqK fun K6 hK6 => ?_
    refine C.condD rfl (fun c9 => ?_) (fun c9 => ?_)
    ·
      refine C.skip ?_
      refine hK6 _ _ ?_
      refine C.seqK fun K7 hK7 => ?_
      refine C.block fun K8 hK8 => ?_
      refine C.seqK fun K9 hK9 => ?_
      refine C.region ?_
      refine O.mv ?_
      refine O.asg ?_
      refine O.nil ?_
      refine hK9 _ _ ?_
      refine C.seqK fun K10 hK10 => ?_
      refine C.draw (by kernel_rfl) fun w3 e3 => ?_
      have z3 := e3.size
      refine D.take (i := 0) rfl rfl rfl rfl (by kernel_rfl) (Le.refl _) ⟨_, rfl⟩ (fun w_ hw_ N_ hN => (O.loadOA Tryz.isAgg51 Tryz.sizeOf51 s3_1 ((r0_1.keep e3).keep hw_) (Nat.le_of_ble_eq_true rfl) (O.nil hN))) ?_
      refine D.take (i := 1) rfl rfl rfl rfl (by kernel_rfl) (Le.refl _) ⟨pure _, rfl⟩ (fun w_ hw_ N_ hN => (O.mv (O.nil hN))) ?_
      refine D.take (i := 2) rfl rfl rfl rfl (by kernel_rfl) (Le.refl _) ⟨pure _, rfl⟩ (fun w_ hw_ N_ hN => (O.mv (O.nil hN))) ?_
      obtain ⟨a14, h14, hr14⟩ := Sl.at (i := (k : Int)) (P := Tryz.prog) Tryz.underlying22 Tryz.sizeOf51 rfl ((hl.keep e_1).keep e3) (by omega)
      refine D.take (i := 3) rfl rfl rfl rfl (by kernel_rfl) (Le.refl _) ⟨_, rfl⟩ (fun w_ hw_ N_ hN => (O.idxR s0_1 s8_1 hr14 (O.nil hN))) ?_
      refine D.take (i := 4) rfl rfl rfl rfl (by kernel_rfl) (Le.refl _) ⟨_, rfl⟩ (fun w_ hw_ N_ hN => (O.loadG (G := Dt.dotF) Tryz.isAgg51 Tryz.sizeOf51 rfl (h14.keep hw_) (O.nil hN))) ?_
      refine D.take (i := 5) rfl rfl rfl rfl (by kernel_rfl) (Le.refl _) ⟨_, rfl⟩ (fun w_ hw_ N_ hN => (O.eqlP Tryz.underlying51 (by decide) (by decide) rfl rfl Tryz.underlying3 Tryz.underlying3 Tryz.isAgg3 Tryz.isAgg3 (by kernel_rfl) (by kernel_rfl) rfl rfl (O.nil hN))) ?_
      refine D.done (by kernel_rfl) ?_
      refine hK10 _ _ ?_
      refine C.condD rfl (fun c16 => ?_) (fun c16 => ?_)
      ·
        refine C.seqK fun K11 hK11 => ?_
        refine C.region ?_
        refine O.mv ?_
        refine O.asg ?_
        refine O.nil ?_
        refine hK11 _ _ ?_
        refine C.ret ?_
        refine Outs.one rfl s8_1 ?_
        first
        | exact ⟨⟨_, rfl, ⟨fun _ => by rw [c16]; exact List.getElem_mem _, fun _ => by omega⟩⟩, (Ext.trans e_1 e3)⟩
        | exact ⟨⟨-1, rfl, ⟨fun h => absurd h (by omega), fun h => absurd h (Dt.not_mem fun i hi => hI i hi (by omega))⟩⟩, (Ext.trans e_1 e3)⟩
      ·
        refine C.skip ?_
        refine hK8 _ _ ?_
        refine hK7 _ _ ?_
        refine C.region ?_
        refine O.addI s8_1 rfl (by unfold InI; omega) ?_
        refine O.mv ?_
        refine O.nil ?_
        refine ⟨k + 1, ⟨rfl, s0_1, s3_1, s7_1, (Ext.trans e_1 e3), (r0_1.keep e3), ?_⟩, by first | omega | (simp only []; omega)⟩
        refine ⟨by omega, fun i hi hik => ?_⟩
        rcases Nat.lt_or_eq_of_le (Nat.le_of_lt_succ hik) with h | rfl
        · exact hI i hi h
        · exact fun h => c16 h.symm
    ·
      refine C.exit ?_
      refine hK4 _ _ ?_
      refine hK2 _ _ ?_
      refine C.seqK fun K12 hK12 => ?_
      refine C.region ?_
      refine O.asg ?_
      refine O.nil ?_
      refine hK12 _ _ ?_
      refine C.ret ?_
      refine Outs.one rfl rfl ?_
      first
      | exact ⟨⟨_, rfl, ⟨fun _ => by rw [c16]; exact List.getElem_mem _, fun _ => by omega⟩⟩, e_1⟩
      | exact ⟨⟨-1, rfl, ⟨fun h => absurd h (by omega), fun h => absurd h (Dt.not_mem fun i hi => hI i hi (by omega))⟩⟩, e_1⟩

theorem contains_spec (v0 : Value) (l : List Dt.Dot) (F : Nat → Prop) (d : Dt.Dot) (w : World) (hl : Sl Dt.dotF.enc w F v0 l) :
    Ret Tryz.prog 119 #[v0, Dt.dv (d)] w (fun v w' => v = .bool (decide (d ∈ l)) ∧ Le w w') := by
  refine enter (args := [v0, Dt.dv (d)]) (n := 9) Tryz.func119 rfl rfl (Nat.le_of_ble_eq_true rfl) ?_
  refine C.seqK fun K1 hK1 => ?_
  refine C.region ?_
  refine O.box (v := Dt.dv (d)) rfl (fun b3 w1 hb3 hz3 e1 => ?_)
  have z1 := e1.size
  have h3 := hz3.own
  have hl3 := h3.lt
  refine O.asg ?_
  refine O.nil ?_
  refine hK1 _ _ ?_
  refine C.seqK fun K2 hK2 => ?_
  refine C.region ?_
  refine O.mv ?_
  refine O.loadOA Tryz.isAgg51 Tryz.sizeOf51 rfl h3 (Nat.le_of_ble_eq_true rfl) ?_
  refine O.call Tryz.call145 (args2 rfl rfl) (index_spec _ _ _ d _ (hl.keep e1)) ?_
  rintro v_7 w2 ⟨⟨rv7, rfl, hrv7⟩, e2⟩
  have z2 := e2.size
  refine O.geqI rfl rfl ?_
  refine O.asg ?_
  refine O.nil ?_
  refine hK2 _ _ ?_
  refine C.ret ?_
  refine Outs.one rfl rfl ?_
  exact ⟨congrArg Value.bool (decide_eq_decide.2 hrv7), (Ext.trans e1 e2)⟩

theorem has_spec (v0 : Value) (l : List Dt.Dot) (F : Nat → Prop) (d : Dt.Dot) (w : World) (hl : Sl Dt.dotF.enc w F v0 l) :
    Ret Tryz.prog 101 #[v0, Dt.dv (d)] w (fun v w' => v = .bool (decide (d ∈ l)) ∧ Le w w') := by
  refine enter (args := [v0, Dt.dv (d)]) (n := 8) Tryz.func101 rfl rfl (Nat.le_of_ble_eq_true rfl) ?_
  refine C.seqK fun K1 hK1 => ?_
  refine C.region ?_
  refine O.box (v := Dt.dv (d)) rfl (fun b3 w1 hb3 hz3 e1 => ?_)
  have z1 := e1.size
  have h3 := hz3.own
  have hl3 := h3.lt
  refine O.asg ?_
  refine O.nil ?_
  refine hK1 _ _ ?_
  refine C.seqK fun K2 hK2 => ?_
  refine C.region ?_
  refine O.mv ?_
  refine O.loadOA Tryz.isAgg51 Tryz.sizeOf51 rfl h3 (Nat.le_of_ble_eq_true rfl) ?_
  refine O.call Tryz.call119 (args2 rfl rfl) (contains_spec _ _ _ d _ (hl.keep e1)) ?_
  rintro v_7 w2 ⟨rfl, e2⟩
  have z2 := e2.size
  refine O.asg ?_
  refine O.nil ?_
  refine hK2 _ _ ?_
  refine C.ret ?_
  refine Outs.one rfl rfl ?_
  exact ⟨rfl, (Ext.trans e1 e2)⟩

theorem clone_spec (v0 : Value) (l : List Dt.Dot) (F : Nat → Prop) (w : World) (hl : Sl Dt.dotF.enc w F v0 l) (hn : l.length ≤ 1000000000000) :
    Ret Tryz.prog 97 #[v0] w (fun v w' => Le w w' ∧ OwnF Dt.dotF 51 w.heap.size w' v l) := by
  have hle := hl.le
  obtain ⟨ie51, ti51, ts51, tb51, tz51⟩ := inf51
  refine enter (args := [v0]) (n := 8) Tryz.func97 rfl rfl (Nat.le_of_ble_eq_true rfl) ?_
  refine C.seqK fun K1 hK1 => ?_
  refine C.region ?_
  refine O.asg ?_
  refine O.nil ?_
  refine hK1 _ _ ?_
  refine C.seqK fun K2 hK2 => ?_
  refine C.seqK fun K3 hK3 => ?_
  refine C.region ?_
  refine O.mv ?_
  refine O.eqlNilS Tryz.underlying22 rfl hl ?_
  refine O.nil ?_
  refine hK3 _ _ ?_
  refine C.cond rfl (fun c4 => ?_) (fun c4 => ?_)
  ·
    refine C.seqK fun K4 hK4 => ?_
    refine C.region ?_
    refine O.asg ?_
    refine O.nil ?_
    refine hK4 _ _ ?_
    refine C.ret ?_
    refine Outs.one rfl rfl ?_
    first
    | (obtain rfl := isNilS_nil hl c4
       exact ⟨(Le.refl _), OwnF.nil _ _ _ _⟩)
    | exact ⟨(Le.refl _), {app:7}⟩
  ·
    refine C.skip ?_
    refine hK2 _ _ ?_
    refine C.seqK fun K5 hK5 => ?_
    refine C.region ?_
    refine O.lit0 Tryz.underlying22 ti51 (fun b5 w1 hb5 hz5 e1 => ?_)
    have z1 := e1.size
    have h5 := hz5.own
    have hl5 := h5.lt
    have h1005 : OwnF Dt.dotF 51 w.heap.size w1 _ [] := OwnF.lit0 hz5 hb5
    refine O.mv ?_
    refine O.appF (G := Dt.dotF) Tryz.underlying22 ti51 tz51 ts51 rfl rfl rfl h1005 (hl.keep e1) (by rw [tb51]; simp; omega) (by unfold maxLen; simp; omega) (by omega) (fun v7 w2 h7 e2 => ?_)
    have z2 := e2.size
    have h7s := h7.sl
    refine O.asg ?_
    refine O.nil ?_
    refine hK5 _ _ ?_
    refine C.ret ?_
    refine Outs.one rfl rfl ?_
    first
    | (obtain rfl := isNilS_nil hl c4
       exact ⟨(Ext.new e1 e2 (by intro i hi h; have := h1005.bk_ge i h; omega)), OwnF.nil _ _ _ _⟩)
    | exact ⟨(Ext.new e1 e2 (by intro i hi h; have := h1005.bk_ge i h; omega)), h7⟩

end Go.Proofs.YtnkcmaoaagnopaaGreatDoor
