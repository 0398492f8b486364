/-
  The walks of dots: what is allowed, their order. Conditions: slices as they lie in memory.
-/
import Derived.Test.YtnkcmaoaagnopaaGreatDoorFw13
import Derived.Test.YtnkcmaoaagnopaaGreatDoorPlain
import Derived.Test.YtnkcmaoaagnopaaGreatDoorRows
namespace Go.Proofs.YtnkcmaoaagnopaaGreatDoor
open Go.Pn Go.RowKit

theorem inf51 : ∃ ie, Tryz.prog.info? 51 = some ie ∧ ie.size = 2 ∧ ie.bytes = 16 ∧ ie.zero = some (.agg #[.int .i64 0, .int .i64 0]) := by
  have h : (Tryz.prog.info? 51).isSome = true := by kernel_rfl
  exact ⟨(Tryz.prog.info? 51).get h, (Option.some_get h).symm, by kernel_rfl, by kernel_rfl, by kernel_rfl⟩
theorem inf3 : ∃ ie, Tryz.prog.info? 3 = some ie ∧ ie.size = 1 ∧ ie.bytes = 8 ∧ ie.zero = some (.int .i64 0) := by
  have h : (Tryz.prog.info? 3).isSome = true := by kernel_rfl
  exact ⟨(Tryz.prog.info? 3).get h, (Option.some_get h).symm, by kernel_rfl, by kernel_rfl, by kernel_rfl⟩
theorem valid_spec (d : Dt.Dot) (w : World) :
    Ret Tryz.prog 91 #[Dt.dv (d)] w (fun v w' => v = .bool (decide (Dt.Valid d)) ∧ Le w w') := by
  refine enter (args := [Dt.dv (d)]) (n := 21) Tryz.func91 rfl rfl (Nat.le_of_ble_eq_true rfl) ?_
  refine C.seqK fun K1 hK1 => ?_
  refine C.region ?_
  refine O.box (v := Dt.dv (d)) rfl (fun b1 w1 hb1 hz1 e1 => ?_)
  have z1 := e1.size
  have h1 := hz1.own
  have hl1 := h1.lt
  refine O.asg ?_
  refine O.nil ?_
  refine hK1 _ _ ?_
  refine C.seqK fun K2 hK2 => ?_
  refine C.region ?_
  refine O.fieldAd Tryz.underlying51 rfl Tryz.sizeOf3 (by decide) rfl ?_
  refine O.loadO Tryz.isAgg3 rfl h1 rfl ?_
  refine O.geqI rfl rfl ?_
  refine O.mv ?_
  refine O.cut 4 (fun f f' => f' 10 = .bool (decide (1 ≤ d.1 ∧ d.1 ≤ 65535)) ∧ f' 1 = f 1) ?_ ?_
  ·
    refine O.splitD (x := .tmp 6) rfl (fun c6 => ?_) (fun c6 => ?_)
    ·
      refine O.yes rfl (isT rfl c6) ?_
      refine O.fieldAd Tryz.underlying51 rfl Tryz.sizeOf3 (by decide) rfl ?_
      refine O.yes rfl (isT rfl c6) ?_
      refine O.loadO Tryz.isAgg3 rfl h1 rfl ?_
      refine O.yes rfl (isT rfl c6) ?_
      refine O.leqI rfl rfl ?_
      refine O.pickT (isT rfl c6) ?_
      refine O.nil ?_
      refine ⟨⟨?_, rfl⟩, rfl⟩
      first | exact rfl | exact Eq.trans rfl (congrArg Value.bool (dAnd (by assumption))) | exact Eq.trans rfl (congrArg Value.bool (dAndF (by assumption))) | exact Eq.trans rfl (congrArg Value.bool (dOr (by assumption))) | exact Eq.trans rfl (congrArg Value.bool (dOrT (by assumption)))
    ·
      refine O.no rfl (noB (isF rfl c6) rfl) ?_
      refine O.no rfl (noB (isF rfl c6) rfl) ?_
      refine O.no rfl (noB (isF rfl c6) rfl) ?_
      refine O.pickF (isF rfl c6) ?_
      refine O.nil ?_
      refine ⟨⟨?_, rfl⟩, rfl⟩
      first | exact rfl | exact Eq.trans rfl (congrArg Value.bool (dAnd (by assumption))) | exact Eq.trans rfl (congrArg Value.bool (dAndF (by assumption))) | exact Eq.trans rfl (congrArg Value.bool (dOr (by assumption))) | exact Eq.trans rfl (congrArg Value.bool (dOrT (by assumption)))
  ·
    rintro f_1 ⟨s10_1, s1_1⟩
    refine O.mv ?_
    refine O.cut 4 (fun f f' => f' 15 = .bool (decide ((1 ≤ d.1 ∧ d.1 ≤ 65535) ∧ 1 ≤ d.2)) ∧ f' 1 = f 1) ?_ ?_
    ·
      refine O.splitD (x := .tmp 11) s10_1 (fun c11 => ?_) (fun c11 => ?_)
      ·
        refine O.yes rfl (isT s10_1 c11) ?_
        refine O.fieldAd Tryz.underlying51 rfl Tryz.sizeOf3 (by decide) s1_1 ?_
        refine O.yes rfl (isT s10_1 c11) ?_
        refine O.loadO Tryz.isAgg3 rfl h1 rfl ?_
        refine O.yes rfl (isT s10_1 c11) ?_
        refine O.geqI rfl rfl ?_
        refine O.pickT (isT s10_1 c11) ?_
        refine O.nil ?_
        refine ⟨⟨?_, rfl⟩, rfl⟩
        first | exact rfl | exact Eq.trans rfl (congrArg Value.bool (dAnd (by assumption))) | exact Eq.trans rfl (congrArg Value.bool (dAndF (by assumption))) | exact Eq.trans rfl (congrArg Value.bool (dOr (by assumption))) | exact Eq.trans rfl (congrArg Value.bool (dOrT (by assumption)))
      ·
        refine O.no rfl (noB (isF s10_1 c11) rfl) ?_
        refine O.no rfl (noB (isF s10_1 c11) rfl) ?_
        refine O.no rfl (noB (isF s10_1 c11) rfl) ?_
        refine O.pickF (isF s10_1 c11) ?_
        refine O.nil ?_
        refine ⟨⟨?_, rfl⟩, rfl⟩
        first | exact rfl | exact Eq.trans rfl (congrArg Value.bool (dAnd (by assumption))) | exact Eq.trans rfl (congrArg Value.bool (dAndF (by assumption))) | exact Eq.trans rfl (congrArg Value.bool (dOr (by assumption))) | exact Eq.trans rfl (congrArg Value.bool (dOrT (by assumption)))
    ·
      rintro f_2 ⟨s15_2, s1_2⟩
      refine O.mv ?_
      refine O.cut 4 (fun f f' => f' 20 = .bool (decide (((1 ≤ d.1 ∧ d.1 ≤ 65535) ∧ 1 ≤ d.2) ∧ d.2 ≤ 4294967295))) ?_ ?_
      ·
        refine O.splitD (x := .tmp 16) s15_2 (fun c16 => ?_) (fun c16 => ?_)
        ·
          refine O.yes rfl (isT s15_2 c16) ?_
          refine O.fieldAd Tryz.underlying51 rfl Tryz.sizeOf3 (by decide) (Eq.trans s1_2 s1_1) ?_
          refine O.yes rfl (isT s15_2 c16) ?_
          refine O.loadO Tryz.isAgg3 rfl h1 rfl ?_
          refine O.yes rfl (isT s15_2 c16) ?_
          refine O.leqI rfl rfl ?_
          refine O.pickT (isT s15_2 c16) ?_
          refine O.nil ?_
          refine ⟨?_, rfl⟩
          first | exact rfl | exact Eq.trans rfl (congrArg Value.bool (dAnd (by assumption))) | exact Eq.trans rfl (congrArg Value.bool (dAndF (by assumption))) | exact Eq.trans rfl (congrArg Value.bool (dOr (by assumption))) | exact Eq.trans rfl (congrArg Value.bool (dOrT (by assumption)))
        ·
          refine O.no rfl (noB (isF s15_2 c16) rfl) ?_
          refine O.no rfl (noB (isF s15_2 c16) rfl) ?_
          refine O.no rfl (noB (isF s15_2 c16) rfl) ?_
          refine O.pickF (isF s15_2 c16) ?_
          refine O.nil ?_
          refine ⟨?_, rfl⟩
          first | exact rfl | exact Eq.trans rfl (congrArg Value.bool (dAnd (by assumption))) | exact Eq.trans rfl (congrArg Value.bool (dAndF (by assumption))) | exact Eq.trans rfl (congrArg Value.bool (dOr (by assumption))) | exact Eq.trans rfl (congrArg Value.bool (dOrT (by assumption)))
      ·
        intro f_3 s20_3
        refine O.asg ?_
        refine O.nil ?_
        refine hK2 _ _ ?_
        refine C.ret ?_
        refine Outs.one rfl s20_3 ?_
        exact ⟨congrArg Value.bool (decide_eq_decide.2 (by unfold Dt.Valid; omega)), e1⟩

theorem isNaN_spec (x : Int) (w : World) :
    Ret Tryz.prog 126 #[.int .i64 (x)] w (fun v w' => v = .bool false ∧ w' = w) := by
  refine enter (args := [.int .i64 (x)]) (n := 6) Tryz.func126 rfl rfl (Nat.le_of_ble_eq_true rfl) ?_
  refine C.seqK fun K1 hK1 => ?_
  refine C.region ?_
  refine O.asg ?_
  refine O.nil ?_
  refine hK1 _ _ ?_
  refine C.seqK fun K2 hK2 => ?_
  refine C.region ?_
  refine O.mv ?_
  refine O.mv ?_
  refine O.neqI rfl rfl ?_
  refine O.cast (v' := .bool false) (congrArg Value.bool (by exact decide_eq_false (fun h => h rfl))) ?_
  refine O.asg ?_
  refine O.nil ?_
  refine hK2 _ _ ?_
  refine C.ret ?_
  refine Outs.one rfl rfl ?_
  exact ⟨rfl, rfl⟩

theorem icmp_spec (a b : Int) (w : World) :
    Ret Tryz.prog 112 #[.int .i64 (a), .int .i64 (b)] w (fun v w' => v = .int .i64 (Dt.icmp a b) ∧ w' = w) := by
  refine enter (args := [.int .i64 (a), .int .i64 (b)]) (n := 20) Tryz.func112 rfl rfl (Nat.le_of_ble_eq_true rfl) ?_
  refine C.seqK fun K1 hK1 => ?_
  refine C.region ?_
  refine O.asg ?_
  refine O.nil ?_
  refine hK1 _ _ ?_
  refine C.seqK fun K2 hK2 => ?_
  refine C.region ?_
  refine O.mv ?_
  refine O.call Tryz.call126 (args1 rfl) (isNaN_spec _ _) ?_
  rintro v_8 w1 ⟨rfl, hw_⟩
  replace hw_ := hw_.symm
  subst hw_
  refine O.asg ?_
  refine O.nil ?_
  refine hK2 _ _ ?_
  refine C.seqK fun K3 hK3 => ?_
  refine C.region ?_
  refine O.mv ?_
  refine O.call Tryz.call126 (args1 rfl) (isNaN_spec _ _) ?_
  rintro v_10 w1 ⟨rfl, hw_⟩
  replace hw_ := hw_.symm
  subst hw_
  refine O.asg ?_
  refine O.nil ?_
  refine hK3 _ _ ?_
  refine C.seqK fun K4 hK4 => ?_
  refine C.seqK fun K5 hK5 => ?_
  refine C.region ?_
  refine O.mv ?_
  refine O.nil ?_
  refine hK5 _ _ ?_
  refine C.condF rfl ?_
  refine C.skip ?_
  refine hK4 _ _ ?_
  refine C.seqK fun K6 hK6 => ?_
  refine C.seqK fun K7 hK7 => ?_
  refine C.region ?_
  refine O.mv ?_
  refine O.nil ?_
  refine hK7 _ _ ?_
  refine C.condF rfl ?_
  refine C.skip ?_
  refine hK6 _ _ ?_
  refine C.seqK fun K8 hK8 => ?_
  refine C.seqK fun K9 hK9 => ?_
  refine C.region ?_
  refine O.mv ?_
  refine O.mv ?_
  refine O.lssI rfl rfl ?_
  refine O.nil ?_
  refine hK9 _ _ ?_
  refine C.condD rfl (fun c16 => ?_) (fun c16 => ?_)
  ·
    refine C.seqK fun K10 hK10 => ?_
    refine C.region ?_
    refine O.asg ?_
    refine O.nil ?_
    refine hK10 _ _ ?_
    refine C.ret ?_
    refine Outs.one rfl rfl ?_
    unfold Dt.icmp
    first
    | (rw [if_pos (by assumption)]; exact ⟨rfl, rfl⟩)
    | (rw [if_neg (by assumption), if_pos (by assumption)]; exact ⟨rfl, rfl⟩)
    | (rw [if_neg (by assumption), if_neg (by assumption)]; exact ⟨rfl, rfl⟩)
  ·
    refine C.skip ?_
    refine hK8 _ _ ?_
    refine C.seqK fun K11 hK11 => ?_
    refine C.seqK fun K12 hK12 => ?_
    refine C.region ?_
    refine O.mv ?_
    refine O.mv ?_
    refine O.gtrI rfl rfl ?_
    refine O.nil ?_
    refine hK12 _ _ ?_
    refine C.condD rfl (fun c19 => ?_) (fun c19 => ?_)
    ·
      refine C.seqK fun K13 hK13 => ?_
      refine C.region ?_
      refine O.asg ?_
      refine O.nil ?_
      refine hK13 _ _ ?_
      refine C.ret ?_
      refine Outs.one rfl rfl ?_
      unfold Dt.icmp
      first
      | (rw [if_pos (by assumption)]; exact ⟨rfl, rfl⟩)
      | (rw [if_neg (by assumption), if_pos (by assumption)]; exact ⟨rfl, rfl⟩)
      | (rw [if_neg (by assumption), if_neg (by assumption)]; exact ⟨rfl, rfl⟩)
    ·
      refine C.skip ?_
      refine hK11 _ _ ?_
      refine C.seqK fun K14 hK14 => ?_
      refine C.region ?_
      refine O.asg ?_
      refine O.nil ?_
      refine hK14 _ _ ?_
      refine C.ret ?_
      refine Outs.one rfl rfl ?_
      unfold Dt.icmp
      first
      | (rw [if_pos (by assumption)]; exact ⟨rfl, rfl⟩)
      | (rw [if_neg (by assumption), if_pos (by assumption)]; exact ⟨rfl, rfl⟩)
      | (rw [if_neg (by assumption), if_neg (by assumption)]; exact ⟨rfl, rfl⟩)

theorem cor_spec (v0 : Value) (a b : Int) (F : Nat → Prop) (w : World) (hl : Sl Dt.intE w F v0 [a, b]) :
    Ret Tryz.prog 111 #[v0] w (fun v w' => v = .int .i64 (if a ≠ 0 then a else b) ∧ w' = w) := by
  refine enter (args := [v0]) (n := 18) Tryz.func111 rfl rfl (Nat.le_of_ble_eq_true rfl) ?_
  refine C.seqK fun K1 hK1 => ?_
  refine C.region ?_
  refine O.asg ?_
  refine O.nil ?_
  refine hK1 _ _ ?_
  refine C.seqK fun K2 hK2 => ?_
  refine C.region ?_
  refine O.asg ?_
  refine O.nil ?_
  refine hK2 _ _ ?_
  refine C.seqK fun K3 hK3 => ?_
  refine C.seqK fun K4 hK4 => ?_
  refine C.region ?_
  refine O.mv ?_
  refine O.len Tryz.underlying171 rfl hl ?_
  refine O.mv ?_
  refine O.nil ?_
  refine hK4 _ _ ?_
  refine C.block fun K5 hK5 => ?_
  refine C.loop0 (σ := Nat) (fun f0 w0 k f w => f 8 = .int .i64 (k) ∧ f 3 = f0 3 ∧ f 6 = f0 6 ∧ f 7 = f0 7 ∧ w = w0 ∧ k ≤ 2 ∧ ∀ i, (h : i < 2) → i < k → [a, b][i] = 0) (fun k => 2 - k) 0 ?_ ?_
  ·
    refine ⟨rfl, rfl, rfl, rfl, rfl, ?_⟩
    exact ⟨by omega, fun i _ h => absurd h (by omega)⟩
  ·
    rintro k f_1 wx ⟨s8_1, s3_1, s6_1, s7_1, rfl, ⟨hk, hI⟩⟩
    refine C.seqK fun K6 hK6 => ?_
    refine C.region ?_
    refine O.lssI s8_1 s7_1 ?_
    refine O.nil ?_
    refine hK6 _ _ ?_
    refine C.seqK fun K7 hK7 => ?_
    refine C.condD rfl (fun c9 => ?_) (fun c9 => ?_)
    ·
      have hk2 : k < 2 := by simp at c9; omega
      refine C.skip ?_
      refine hK7 _ _ ?_
      refine C.seqK fun K8 hK8 => ?_
      refine C.block fun K9 hK9 => ?_
      refine C.seqK fun K10 hK10 => ?_
      refine C.region ?_
      refine O.idx Tryz.underlying171 Tryz.sizeOf3 rfl s6_1 hl s8_1 (by omega) (fun a10 h10 => ?_)
      refine O.load1F (G := Dt.intF) Tryz.isAgg3 rfl rfl rfl h10 ?_
      obtain ⟨u, hu⟩ : ∃ u : Int, u = [a, b][k] := ⟨_, rfl⟩
      refine O.cast (v' := .int .i64 u) (by rw [hu]; rfl) ?_
      refine O.asg ?_
      refine O.nil ?_
      refine hK10 _ _ ?_
      refine C.seqK fun K11 hK11 => ?_
      refine C.region ?_
      refine O.mv ?_
      refine O.mv ?_
      refine O.neqI rfl s3_1 ?_
      refine O.nil ?_
      refine hK11 _ _ ?_
      refine C.condD rfl (fun c14 => ?_) (fun c14 => ?_)
      ·
        refine C.seqK fun K12 hK12 => ?_
        refine C.region ?_
        refine O.mv ?_
        refine O.asg ?_
        refine O.nil ?_
        refine hK12 _ _ ?_
        refine C.ret ?_
        refine Outs.one rfl rfl ?_
        first
        | (refine ⟨congrArg (Value.int .i64) ?_, rfl⟩
           have h01 : k = 0 ∨ k = 1 := by omega
           rcases h01 with rfl | rfl
           · have e0 : u = a := hu
             rw [← e0, if_pos c14]
           · have e0 : a = 0 := hI 0 (by omega) (by omega)
             have e1 : u = b := hu
             rw [if_neg (fun h => h e0), e1])
        | (have hk2 : k = 2 := by simp at c9; omega
           have e0 : a = 0 := hI 0 (by omega) (by omega)
           have e1 : b = 0 := hI 1 (by omega) (by omega)
           refine ⟨congrArg (Value.int .i64) ?_, rfl⟩
           rw [if_neg (fun h => h e0), e1])
      ·
        refine C.skip ?_
        refine hK9 _ _ ?_
        refine hK8 _ _ ?_
        refine C.region ?_
        refine O.addI s8_1 rfl (by unfold InI; omega) ?_
        refine O.mv ?_
        refine O.nil ?_
        refine ⟨k + 1, ⟨rfl, s3_1, s6_1, s7_1, rfl, ?_⟩, by first | omega | (simp only []; omega)⟩
        refine ⟨by omega, fun i hi2 hik => ?_⟩
        rcases Nat.lt_or_eq_of_le (Nat.le_of_lt_succ hik) with h | rfl
        · exact hI i hi2 h
        · rw [← hu]; exact Decidable.of_not_not c14
    ·
      refine C.exit ?_
      refine hK5 _ _ ?_
      refine hK3 _ _ ?_
      refine C.seqK fun K13 hK13 => ?_
      refine C.region ?_
      refine O.mv ?_
      refine O.asg ?_
      refine O.nil ?_
      refine hK13 _ _ ?_
      refine C.ret ?_
      refine Outs.one rfl s3_1 ?_
      first
      | (refine ⟨congrArg (Value.int .i64) ?_, rfl⟩
         have h01 : k = 0 ∨ k = 1 := by omega
         rcases h01 with rfl | rfl
         · have e0 : u = a := hu
           rw [← e0, if_pos c14]
         · have e0 : a = 0 := hI 0 (by omega) (by omega)
           have e1 : u = b := hu
           rw [if_neg (fun h => h e0), e1])
      | (have hk2 : k = 2 := by simp at c9; omega
         have e0 : a = 0 := hI 0 (by omega) (by omega)
         have e1 : b = 0 := hI 1 (by omega) (by omega)
         refine ⟨congrArg (Value.int .i64) ?_, rfl⟩
         rw [if_neg (fun h => h e0), e1])

theorem cmp_spec (a b : Dt.Dot) (w : World) :
    Ret Tryz.prog 89 #[Dt.dv (a), Dt.dv (b)] w (fun v w' => v = .int .i64 (Dt.cmp a b) ∧ Le w w' ∧ w.drawn ≤ w'.drawn) := by
  obtain ⟨ie3, ti3, ts3, tb3, tz3⟩ := inf3
  refine enter (args := [Dt.dv (a), Dt.dv (b)]) (n := 17) Tryz.func89 rfl rfl (Nat.le_of_ble_eq_true rfl) ?_
  refine C.seqK fun K1 hK1 => ?_
  refine C.region ?_
  refine O.boxD (v := Dt.dv (a)) rfl (fun b2 w1 hb2 hz2 e1 d1 => ?_)
  have z1 := e1.size
  have h2 := hz2.own
  have hl2 := h2.lt
  refine O.boxD (v := Dt.dv (b)) rfl (fun b3 w2 hb3 hz3 e2 d2 => ?_)
  have z2 := e2.size
  have h3 := hz3.own
  have hl3 := h3.lt
  refine O.asg ?_
  refine O.nil ?_
  refine hK1 _ _ ?_
  refine C.seqK fun K2 hK2 => ?_
  refine C.drawD (by kernel_rfl) fun w3 e3 d3 => ?_
  have z3 := e3.size
  refine D.take (i := 0) rfl rfl rfl rfl (by kernel_rfl) (Le.refl _) ⟨_, rfl⟩ (fun w_ hw_ N_ hN => (O.fieldAd Tryz.underlying51 rfl Tryz.sizeOf3 (by decide) rfl (O.nil hN))) ?_
  refine D.take (i := 1) rfl rfl rfl rfl (by kernel_rfl) (Le.refl _) ⟨_, rfl⟩ (fun w_ hw_ N_ hN => (O.loadO Tryz.isAgg3 rfl (((h2.keep e2).keep e3).keep hw_) rfl (O.nil hN))) ?_
  refine D.take (i := 2) rfl rfl rfl rfl (by kernel_rfl) (Le.refl _) ⟨_, rfl⟩ (fun w_ hw_ N_ hN => (O.fieldAd Tryz.underlying51 rfl Tryz.sizeOf3 (by decide) rfl (O.nil hN))) ?_
  refine D.take (i := 3) rfl rfl rfl rfl (by kernel_rfl) (Le.refl _) ⟨_, rfl⟩ (fun w_ hw_ N_ hN => (O.loadO Tryz.isAgg3 rfl ((h3.keep e3).keep hw_) rfl (O.nil hN))) ?_
  refine D.take (i := 5) rfl rfl rfl rfl (by kernel_rfl) (Le.refl _) ⟨_, rfl⟩ (fun w_ hw_ N_ hN => (O.fieldAd Tryz.underlying51 rfl Tryz.sizeOf3 (by decide) rfl (O.nil hN))) ?_
  refine D.take (i := 6) rfl rfl rfl rfl (by kernel_rfl) (Le.refl _) ⟨_, rfl⟩ (fun w_ hw_ N_ hN => (O.loadO Tryz.isAgg3 rfl (((h2.keep e2).keep e3).keep hw_) rfl (O.nil hN))) ?_
  refine D.take (i := 7) rfl rfl rfl rfl (by kernel_rfl) (Le.refl _) ⟨_, rfl⟩ (fun w_ hw_ N_ hN => (O.fieldAd Tryz.underlying51 rfl Tryz.sizeOf3 (by decide) rfl (O.nil hN))) ?_
  refine D.take (i := 8) rfl rfl rfl rfl (by kernel_rfl) (Le.refl _) ⟨_, rfl⟩ (fun w_ hw_ N_ hN => (O.loadO Tryz.isAgg3 rfl ((h3.keep e3).keep hw_) rfl (O.nil hN))) ?_
  refine D.one (i := 4) rfl rfl (by kernel_rfl) ?_
  refine O.call Tryz.call112 (args2 rfl rfl) (icmp_spec _ _ _) ?_
  rintro v_9 w4 ⟨rfl, hw_⟩
  replace hw_ := hw_.symm
  subst hw_
  refine O.nil ⟨(Le.refl _), ?_⟩
  refine D.one (i := 9) rfl rfl (by kernel_rfl) ?_
  refine O.call Tryz.call112 (args2 rfl rfl) (icmp_spec _ _ _) ?_
  rintro v_14 w4 ⟨rfl, hw_⟩
  replace hw_ := hw_.symm
  subst hw_
  refine O.nil ⟨(Le.refl _), ?_⟩
  refine D.one (i := 10) rfl rfl (by kernel_rfl) ?_
  refine O.litnD [.int .i64 (Dt.icmp a.2 b.2), .int .i64 (Dt.icmp a.1 b.1)] Tryz.underlying171 ti3 ts3 tz3 rfl (by decide) (by decide) rfl (by simp [Value.oneCell']) (fun b15 w4 hb15 hz15 e4 d4 => ?_)
  have z4 := e4.size
  have h15 := hz15.own
  have hl15 := h15.lt
  refine O.nil ⟨e4, ?_⟩
  have h1015 : Sl Dt.intF.enc w4 (fun k => k = b15) (.slice (some ⟨b15, 0, none⟩) 2 2) [Dt.icmp a.2 b.2, Dt.icmp a.1 b.1] := Sl.of_own (G := Dt.intF) h15 rfl (Nat.le_refl _) (by unfold maxLen; omega) (by simp [Dt.intF])
  refine D.one (i := 11) rfl rfl (by kernel_rfl) ?_
  refine O.call Tryz.call111 (args1 rfl) (cor_spec _ _ _ _ _ h1015) ?_
  rintro v_16 w5 ⟨rfl, hw_⟩
  replace hw_ := hw_.symm
  subst hw_
  refine O.nil ⟨e4, ?_⟩
  refine D.take (i := 12) rfl rfl rfl rfl (by kernel_rfl) e4 ⟨pure _, rfl⟩ (fun w_ hw_ N_ hN => (O.asg (O.nil hN))) ?_
  refine D.done (by kernel_rfl) ?_
  refine hK2 _ _ ?_
  refine C.ret ?_
  refine Outs.one rfl rfl ?_
  exact ⟨congrArg (Value.int .i64) (Dt.cmp_or a b).symm, (Ext.trans (Ext.trans (Ext.trans e1 e2) e3) e4), by omega⟩

end Go.Proofs.YtnkcmaoaagnopaaGreatDoor
