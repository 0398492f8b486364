/-
  The walks of dots: what is allowed, their order. Conditions: slices as they lie in memory.
-/
import Derived.Test.YtnkcmaoaagnopaaGreatDoorDecodeCountsM1
import Derived.Test.YtnkcmaoaagnopaaGreatDoorRows
import Derived.Shelf.SlLaysF0
import Derived.Ground.SlsfProg
import Derived.Test.YtnkcmaoaagnopaaGreatDoorProg
import Derived.Shelf.Strings.Trim
import Derived.Shelf.Small.Bits
import Derived.Shelf.Strings.Search3
import Derived.Shelf.LaysM
import Derived.Shelf.Strings.Shaped
import Derived.Test.YtnkcmaoaagnopaaGreatDoorDecodeCountsM2
section
namespace Go.Proofs.YtnkcmaoaagnopaaGreatDoor
open Go.Pn Go.RowKit

theorem inf51 : ∃ ie, Tryz.prog.info? 51 = some ie ∧ ie.size = 2 ∧ ie.bytes = 16 ∧ ie.zero = some (.agg #[.int .i64 0, .int .i64 0]) := by
  have h : (Tryz.prog.info? 51).isSome = true := by kernel_rfl
  exact ⟨(Tryz.prog.info? 51).get h, (Option.some_get h).symm, by kernel_rfl, by kernel_rfl, by kernel_rfl⟩
theorem inf3 : ∃ ie, Tryz.prog.info? 3 = some ie ∧ ie.size = 1 ∧ ie.bytes = 8 ∧ ie.zero = some (.int .i64 0) := by
  have h : (Tryz.prog.info? 3).isSome = true := by kernel_rfl
  exact ⟨(Tryz.prog.info? 3).get h, (Option.some_get h).symm, by kernel_rfl, by kernel_rfl, by kernel_rfl⟩
theorem valid_spec (d : Dt.Dot) (w : World) :
    Ret Tryz.prog 91 #[Dt.dv (d)] w (fun v w' => v = .bool (decide (Dt.Valid d)) ∧ Le w w') := by
  refine enter (args := [Dt.dv (d)]) (n := 21) Tryz.func91 rfl rfl (Nat.le_of_ble_eq_true rfl) ?_
  refine C.seqK fun K1 hK1 => ?_
  refine C.region ?_
  refine O.box (v := Dt.dv (d)) rfl (fun b1 w1 hb1 hz1 e1 => ?_)
  have z1 := e1.size
  have h1 := hz1.own
  have hl1 := h1.lt
  refine O.asg ?_
  refine O.nil ?_
  refine hK1 _ _ ?_
  refine C.seqK fun K2 hK2 => ?_
  refine C.region ?_
  refine O.fieldAd Tryz.underlying51 rfl Tryz.sizeOf3 (by decide) rfl ?_
  refine O.loadO Tryz.isAgg3 rfl h1 rfl ?_
  refine O.geqI rfl rfl ?_
  refine O.mv ?_
  refine O.cut 4 (fun f f' => f' 10 = .bool (decide (1 ≤ d.1 ∧ d.1 ≤ 65535)) ∧ f' 1 = f 1) ?_ ?_
  ·
    refine O.splitD (x := .tmp 6) rfl (fun c6 => ?_) (fun c6 => ?_)
    ·
      refine O.yes rfl (isT rfl c6) ?_
      refine O.fieldAd Tryz.underlying51 rfl Tryz.sizeOf3 (by decide) rfl ?_
      refine O.yes rfl (isT rfl c6) ?_
      refine O.loadO Tryz.isAgg3 rfl h1 rfl ?_
      refine O.yes rfl (isT rfl c6) ?_
      refine O.leqI rfl rfl ?_
      refine O.pickT (isT rfl c6) ?_
      refine O.nil ?_
      refine ⟨⟨?_, rfl⟩, rfl⟩
      first | exact rfl | exact Eq.trans rfl (congrArg Value.bool (dAnd (by assumption))) | exact Eq.trans rfl (congrArg Value.bool (dAndF (by assumption))) | exact Eq.trans rfl (congrArg Value.bool (dOr (by assumption))) | exact Eq.trans rfl (congrArg Value.bool (dOrT (by assumption)))
    ·
      refine O.no rfl (noB (isF rfl c6) rfl) ?_
      refine O.no rfl (noB (isF rfl c6) rfl) ?_
      refine O.no rfl (noB (isF rfl c6) rfl) ?_
      refine O.pickF (isF rfl c6) ?_
      refine O.nil ?_
      refine ⟨⟨?_, rfl⟩, rfl⟩
      first | exact rfl | exact Eq.trans rfl (congrArg Value.bool (dAnd (by assumption))) | exact Eq.trans rfl (congrArg Value.bool (dAndF (by assumption))) | exact Eq.trans rfl (congrArg Value.bool (dOr (by assumption))) | exact Eq.trans rfl (congrArg Value.bool (dOrT (by assumption)))
  ·
    rintro f_1 ⟨s10_1, s1_1⟩
    refine O.mv ?_
    refine O.cut 4 (fun f f' => f' 15 = .bool (decide ((1 ≤ d.1 ∧ d.1 ≤ 65535) ∧ 1 ≤ d.2)) ∧ f' 1 = f 1) ?_ ?_
    ·
      refine O.splitD (x := .tmp 11) s10_1 (fun c11 => ?_) (fun c11 => ?_)
      ·
        refine O.yes rfl (isT s10_1 c11) ?_
        refine O.fieldAd Tryz.underlying51 rfl Tryz.sizeOf3 (by decide) s1_1 ?_
        refine O.yes rfl (isT s10_1 c11) ?_
        refine O.loadO Tryz.isAgg3 rfl h1 rfl ?_
        refine O.yes rfl (isT s10_1 c11) ?_
        refine O.geqI rfl rfl ?_
        refine O.pickT (isT s10_1 c11) ?_
        refine O.nil ?_
        refine ⟨⟨?_, rfl⟩, rfl⟩
        first | exact rfl | exact Eq.trans rfl (congrArg Value.bool (dAnd (by assumption))) | exact Eq.trans rfl (congrArg Value.bool (dAndF (by assumption))) | exact Eq.trans rfl (congrArg Value.bool (dOr (by assumption))) | exact Eq.trans rfl (congrArg Value.bool (dOrT (by assumption)))
      ·
        refine O.no rfl (noB (isF s10_1 c11) rfl) ?_
        refine O.no rfl (noB (isF s10_1 c11) rfl) ?_
        refine O.no rfl (noB (isF s10_1 c11) rfl) ?_
        refine O.pickF (isF s10_1 c11) ?_
        refine O.nil ?_
        refine ⟨⟨?_, rfl⟩, rfl⟩
        first | exact rfl | exact Eq.trans rfl (congrArg Value.bool (dAnd (by assumption))) | exact Eq.trans rfl (congrArg Value.bool (dAndF (by assumption))) | exact Eq.trans rfl (congrArg Value.bool (dOr (by assumption))) | exact Eq.trans rfl (congrArg Value.bool (dOrT (by assumption)))
    ·
      rintro f_2 ⟨s15_2, s1_2⟩
      refine O.mv ?_
      refine O.cut 4 (fun f f' => f' 20 = .bool (decide (((1 ≤ d.1 ∧ d.1 ≤ 65535) ∧ 1 ≤ d.2) ∧ d.2 ≤ 4294967295))) ?_ ?_
      ·
        refine O.splitD (x := .tmp 16) s15_2 (fun c16 => ?_) (fun c16 => ?_)
        ·
          refine O.yes rfl (isT s15_2 c16) ?_
          refine O.fieldAd Tryz.underlying51 rfl Tryz.sizeOf3 (by decide) (Eq.trans s1_2 s1_1) ?_
          refine O.yes rfl (isT s15_2 c16) ?_
          refine O.loadO Tryz.isAgg3 rfl h1 rfl ?_
          refine O.yes rfl (isT s15_2 c16) ?_
          refine O.leqI rfl rfl ?_
          refine O.pickT (isT s15_2 c16) ?_
          refine O.nil ?_
          refine ⟨?_, rfl⟩
          first | exact rfl | exact Eq.trans rfl (congrArg Value.bool (dAnd (by assumption))) | exact Eq.trans rfl (congrArg Value.bool (dAndF (by assumption))) | exact Eq.trans rfl (congrArg Value.bool (dOr (by assumption))) | exact Eq.trans rfl (congrArg Value.bool (dOrT (by assumption)))
        ·
          refine O.no rfl (noB (isF s15_2 c16) rfl) ?_
          refine O.no rfl (noB (isF s15_2 c16) rfl) ?_
          refine O.no rfl (noB (isF s15_2 c16) rfl) ?_
          refine O.pickF (isF s15_2 c16) ?_
          refine O.nil ?_
          refine ⟨?_, rfl⟩
          first | exact rfl | exact Eq.trans rfl (congrArg Value.bool (dAnd (by assumption))) | exact Eq.trans rfl (congrArg Value.bool (dAndF (by assumption))) | exact Eq.trans rfl (congrArg Value.bool (dOr (by assumption))) | exact Eq.trans rfl (congrArg Value.bool (dOrT (by assumption)))
      ·
        intro f_3 s20_3
        refine O.asg ?_
        refine O.nil ?_
        refine hK2 _ _ ?_
        refine C.ret ?_
        refine Outs.one rfl s20_3 ?_
        exact ⟨congrArg Value.bool (decide_eq_decide.2 (by unfold Dt.Valid; omega)), e1⟩

theorem isNaN_spec (x : Int) (w : World) :
    Ret Tryz.prog 126 #[.int .i64 (x)] w (fun v w' => v = .bool false ∧ w' = w) := by
  refine enter (args := [.int .i64 (x)]) (n := 6) Tryz.func126 rfl rfl (Nat.le_of_ble_eq_true rfl) ?_
  refine C.seqK fun K1 hK1 => ?_
  refine C.region ?_
  refine O.asg ?_
  refine O.nil ?_
  refine hK1 _ _ ?_
  refine C.seqK fun K2 hK2 => ?_
  refine C.region ?_
  refine O.mv ?_
  refine O.mv ?_
  refine O.neqI rfl rfl ?_
  refine O.cast (v' := .bool false) (congrArg Value.bool (by exact decide_eq_false (fun h => h rfl))) ?_
  refine O.asg ?_
  refine O.nil ?_
  refine hK2 _ _ ?_
  refine C.ret ?_
  refine Outs.one rfl rfl ?_
  exact ⟨rfl, rfl⟩

theorem icmp_spec (a b : Int) (w : World) :
    Ret Tryz.prog 112 #[.int .i64 (a), .int .i64 (b)] w (fun v w' => v = .int .i64 (Dt.icmp a b) ∧ w' = w) := by
  refine enter (args := [.int .i64 (a), .int .i64 (b)]) (n := 20) Tryz.func112 rfl rfl (Nat.le_of_ble_eq_true rfl) ?_
  refine C.seqK fun K1 hK1 => ?_
  refine C.region ?_
  refine O.asg ?_
  refine O.nil ?_
  refine hK1 _ _ ?_
  refine C.seqK fun K2 hK2 => ?_
  refine C.region ?_
  refine O.mv ?_
  refine O.call Tryz.call126 (args1 rfl) (isNaN_spec _ _) ?_
  rintro v_8 w1 ⟨rfl, hw_⟩
  replace hw_ := hw_.symm
  subst hw_
  refine O.asg ?_
  refine O.nil ?_
  refine hK2 _ _ ?_
  refine C.seqK fun K3 hK3 => ?_
  refine C.region ?_
  refine O.mv ?_
  refine O.call Tryz.call126 (args1 rfl) (isNaN_spec _ _) ?_
  rintro v_10 w1 ⟨rfl, hw_⟩
  replace hw_ := hw_.symm
  subst hw_
  refine O.asg ?_
  refine O.nil ?_
  refine hK3 _ _ ?_
  refine C.seqK fun K4 hK4 => ?_
  refine C.seqK fun K5 hK5 => ?_
  refine C.region ?_
  refine O.mv ?_
  refine O.nil ?_
  refine hK5 _ _ ?_
  refine C.condF rfl ?_
  refine C.skip ?_
  refine hK4 _ _ ?_
  refine C.seqK fun K6 hK6 => ?_
  refine C.seqK fun K7 hK7 => ?_
  refine C.region ?_
  refine O.mv ?_
  refine O.nil ?_
  refine hK7 _ _ ?_
  refine C.condF rfl ?_
  refine C.skip ?_
  refine hK6 _ _ ?_
  refine C.seqK fun K8 hK8 => ?_
  refine C.seqK fun K9 hK9 => ?_
  refine C.region ?_
  refine O.mv ?_
  refine O.mv ?_
  refine O.lssI rfl rfl ?_
  refine O.nil ?_
  refine hK9 _ _ ?_
  refine C.condD rfl (fun c16 => ?_) (fun c16 => ?_)
  ·
    refine C.seqK fun K10 hK10 => ?_
    refine C.region ?_
    refine O.asg ?_
    refine O.nil ?_
    refine hK10 _ _ ?_
    refine C.ret ?_
    refine Outs.one rfl rfl ?_
    unfold Dt.icmp
    first
    | (rw [if_pos (by assumption)]; exact ⟨rfl, rfl⟩)
    | (rw [if_neg (by assumption), if_pos (by assumption)]; exact ⟨rfl, rfl⟩)
    | (rw [if_neg (by assumption), if_neg (by assumption)]; exact ⟨rfl, rfl⟩)
  ·
    refine C.skip ?_
    refine hK8 _ _ ?_
    refine C.seqK fun K11 hK11 => ?_
    refine C.seqK fun K12 hK12 => ?_
    refine C.region ?_
    refine O.mv ?_
    refine O.mv ?_
    refine O.gtrI rfl rfl ?_
    refine O.nil ?_
    refine hK12 _ _ ?_
    refine C.condD rfl (fun c19 => ?_) (fun c19 => ?_)
    ·
      refine C.seqK fun K13 hK13 => ?_
      refine C.region ?_
      refine O.asg ?_
      refine O.nil ?_
      refine hK13 _ _ ?_
      refine C.ret ?_
      refine Outs.one rfl rfl ?_
      unfold Dt.icmp
      first
      | (rw [if_pos (by assumption)]; exact ⟨rfl, rfl⟩)
      | (rw [if_neg (by assumption), if_pos (by assumption)]; exact ⟨rfl, rfl⟩)
      | (rw [if_neg (by assumption), if_neg (by assumption)]; exact ⟨rfl, rfl⟩)
    ·
      refine C.skip ?_
      refine hK11 _ _ ?_
      refine C.seqK fun K14 hK14 => ?_
      refine C.region ?_
      refine O.asg ?_
      refine O.nil ?_
      refine hK14 _ _ ?_
      refine C.ret ?_
      refine Outs.one rfl rfl ?_
      unfold Dt.icmp
      first
      | (rw [if_pos (by assumption)]; exact ⟨rfl, rfl⟩)
      | (rw [if_neg (by assumption), if_pos (by assumption)]; exact ⟨rfl, rfl⟩)
      | (rw [if_neg (by assumption), if_neg (by assumption)]; exact ⟨rfl, rfl⟩)

theorem cor_spec (v0 : Value) (a b : Int) (F : Nat → Prop) (w : World) (hl : Sl Dt.intE w F v0 [a, b]) :
    Ret Tryz.prog 111 #[v0] w (fun v w' => v = .int .i64 (if a ≠ 0 then a else b) ∧ w' = w) := by
  refine enter (args := [v0]) (n := 18) Tryz.func111 rfl rfl (Nat.le_of_ble_eq_true rfl) ?_
  refine C.seqK fun K1 hK1 => ?_
  refine C.region ?_
  refine O.asg ?_
  refine O.nil ?_
  refine hK1 _ _ ?_
  refine C.seqK fun K2 hK2 => ?_
  refine C.region ?_
  refine O.asg ?_
  refine O.nil ?_
  refine hK2 _ _ ?_
  refine C.seqK fun K3 hK3 => ?_
  refine C.seqK fun K4 hK4 => ?_
  refine C.region ?_
  refine O.mv ?_
  refine O.len Tryz.underlying171 rfl hl ?_
  refine O.mv ?_
  refine O.nil ?_
  refine hK4 _ _ ?_
  refine C.block fun K5 hK5 => ?_
  refine C.loop0 (σ := Nat) (fun f0 w0 k f w => f 8 = .int .i64 (k) ∧ f 3 = f0 3 ∧ f 6 = f0 6 ∧ f 7 = f0 7 ∧ w = w0 ∧ k ≤ 2 ∧ ∀ i, (h : i < 2) → i < k → [a, b][i] = 0) (fun k => 2 - k) 0 ?_ ?_
  ·
    refine ⟨rfl, rfl, rfl, rfl, rfl, ?_⟩
    exact ⟨by omega, fun i _ h => absurd h (by omega)⟩
  ·
    rintro k f_1 wx ⟨s8_1, s3_1, s6_1, s7_1, rfl, ⟨hk, hI⟩⟩
    refine C.seqK fun K6 hK6 => ?_
    refine C.region ?_
    refine O.lssI s8_1 s7_1 ?_
    refine O.nil ?_
    refine hK6 _ _ ?_
    refine C.seqK fun K7 hK7 => ?_
    refine C.condD rfl (fun c9 => ?_) (fun c9 => ?_)
    ·
      have hk2 : k < 2 := by simp at c9; omega
      refine C.skip ?_
      refine hK7 _ _ ?_
      refine C.seqK fun K8 hK8 => ?_
      refine C.block fun K9 hK9 => ?_
      refine C.seqK fun K10 hK10 => ?_
      refine C.region ?_
      refine O.idx Tryz.underlying171 Tryz.sizeOf3 rfl s6_1 hl s8_1 (by omega) (fun a10 h10 => ?_)
      refine O.load1F (G := Dt.intF) Tryz.isAgg3 rfl rfl rfl h10 ?_
      obtain ⟨u, hu⟩ : ∃ u : Int, u = [a, b][k] := ⟨_, rfl⟩
      refine O.cast (v' := .int .i64 u) (by rw [hu]; rfl) ?_
      refine O.asg ?_
      refine O.nil ?_
      refine hK10 _ _ ?_
      refine C.seqK fun K11 hK11 => ?_
      refine C.region ?_
      refine O.mv ?_
      refine O.mv ?_
      refine O.neqI rfl s3_1 ?_
      refine O.nil ?_
      refine hK11 _ _ ?_
      refine C.condD rfl (fun c14 => ?_) (fun c14 => ?_)
      ·
        refine C.seqK fun K12 hK12 => ?_
        refine C.region ?_
        refine O.mv ?_
        refine O.asg ?_
        refine O.nil ?_
        refine hK12 _ _ ?_
        refine C.ret ?_
        refine Outs.one rfl rfl ?_
        first
        | (refine ⟨congrArg (Value.int .i64) ?_, rfl⟩
           have h01 : k = 0 ∨ k = 1 := by omega
           rcases h01 with rfl | rfl
           · have e0 : u = a := hu
             rw [← e0, if_pos c14]
           · have e0 : a = 0 := hI 0 (by omega) (by omega)
             have e1 : u = b := hu
             rw [if_neg (fun h => h e0), e1])
        | (have hk2 : k = 2 := by simp at c9; omega
           have e0 : a = 0 := hI 0 (by omega) (by omega)
           have e1 : b = 0 := hI 1 (by omega) (by omega)
           refine ⟨congrArg (Value.int .i64) ?_, rfl⟩
           rw [if_neg (fun h => h e0), e1])
      ·
        refine C.skip ?_
        refine hK9 _ _ ?_
        refine hK8 _ _ ?_
        refine C.region ?_
        refine O.addI s8_1 rfl (by unfold InI; omega) ?_
        refine O.mv ?_
        refine O.nil ?_
        refine ⟨k + 1, ⟨rfl, s3_1, s6_1, s7_1, rfl, ?_⟩, by first | omega | (simp only []; omega)⟩
        refine ⟨by omega, fun i hi2 hik => ?_⟩
        rcases Nat.lt_or_eq_of_le (Nat.le_of_lt_succ hik) with h | rfl
        · exact hI i hi2 h
        · rw [← hu]; exact Decidable.of_not_not c14
    ·
      refine C.exit ?_
      refine hK5 _ _ ?_
      refine hK3 _ _ ?_
      refine C.seqK fun K13 hK13 => ?_
      refine C.region ?_
      refine O.mv ?_
      refine O.asg ?_
      refine O.nil ?_
      refine hK13 _ _ ?_
      refine C.ret ?_
      refine Outs.one rfl s3_1 ?_
      first
      | (refine ⟨congrArg (Value.int .i64) ?_, rfl⟩
         have h01 : k = 0 ∨ k = 1 := by omega
         rcases h01 with rfl | rfl
         · have e0 : u = a := hu
           rw [← e0, if_pos c14]
         · have e0 : a = 0 := hI 0 (by omega) (by omega)
           have e1 : u = b := hu
           rw [if_neg (fun h => h e0), e1])
      | (have hk2 : k = 2 := by simp at c9; omega
         have e0 : a = 0 := hI 0 (by omega) (by omega)
         have e1 : b = 0 := hI 1 (by omega) (by omega)
         refine ⟨congrArg (Value.int .i64) ?_, rfl⟩
         rw [if_neg (fun h => h e0), e1])

theorem cmp_spec (a b : Dt.Dot) (w : World) :
    Ret Tryz.prog 89 #[Dt.dv (a), Dt.dv (b)] w (fun v w' => v = .int .i64 (Dt.cmp a b) ∧ Le w w' ∧ w.drawn ≤ w'.drawn) := by
  obtain ⟨ie3, ti3, ts3, tb3, tz3⟩ := inf3
  refine enter (args := [Dt.dv (a), Dt.dv (b)]) (n := 17) Tryz.func89 rfl rfl (Nat.le_of_ble_eq_true rfl) ?_
  refine C.seqK fun K1 hK1 => ?_
  refine C.region ?_
  refine O.boxD (v := Dt.dv (a)) rfl (fun b2 w1 hb2 hz2 e1 d1 => ?_)
  have z1 := e1.size
  have h2 := hz2.own
  have hl2 := h2.lt
  refine O.boxD (v := Dt.dv (b)) rfl (fun b3 w2 hb3 hz3 e2 d2 => ?_)
  have z2 := e2.size
  have h3 := hz3.own
  have hl3 := h3.lt
  refine O.asg ?_
  refine O.nil ?_
  refine hK1 _ _ ?_
  refine C.seqK fun K2 hK2 => ?_
  refine C.drawD (by kernel_rfl) fun w3 e3 d3 => ?_
  have z3 := e3.size
  refine D.take (i := 0) rfl rfl rfl rfl (by kernel_rfl) (Le.refl _) ⟨_, rfl⟩ (fun w_ hw_ N_ hN => (O.fieldAd Tryz.underlying51 rfl Tryz.sizeOf3 (by decide) rfl (O.nil hN))) ?_
  refine D.take (i := 1) rfl rfl rfl rfl (by kernel_rfl) (Le.refl _) ⟨_, rfl⟩ (fun w_ hw_ N_ hN => (O.loadO Tryz.isAgg3 rfl (((h2.keep e2).keep e3).keep hw_) rfl (O.nil hN))) ?_
  refine D.take (i := 2) rfl rfl rfl rfl (by kernel_rfl) (Le.refl _) ⟨_, rfl⟩ (fun w_ hw_ N_ hN => (O.fieldAd Tryz.underlying51 rfl Tryz.sizeOf3 (by decide) rfl (O.nil hN))) ?_
  refine D.take (i := 3) rfl rfl rfl rfl (by kernel_rfl) (Le.refl _) ⟨_, rfl⟩ (fun w_ hw_ N_ hN => (O.loadO Tryz.isAgg3 rfl ((h3.keep e3).keep hw_) rfl (O.nil hN))) ?_
  refine D.take (i := 5) rfl rfl rfl rfl (by kernel_rfl) (Le.refl _) ⟨_, rfl⟩ (fun w_ hw_ N_ hN => (O.fieldAd Tryz.underlying51 rfl Tryz.sizeOf3 (by decide) rfl (O.nil hN))) ?_
  refine D.take (i := 6) rfl rfl rfl rfl (by kernel_rfl) (Le.refl _) ⟨_, rfl⟩ (fun w_ hw_ N_ hN => (O.loadO Tryz.isAgg3 rfl (((h2.keep e2).keep e3).keep hw_) rfl (O.nil hN))) ?_
  refine D.take (i := 7) rfl rfl rfl rfl (by kernel_rfl) (Le.refl _) ⟨_, rfl⟩ (fun w_ hw_ N_ hN => (O.fieldAd Tryz.underlying51 rfl Tryz.sizeOf3 (by decide) rfl (O.nil hN))) ?_
  refine D.take (i := 8) rfl rfl rfl rfl (by kernel_rfl) (Le.refl _) ⟨_, rfl⟩ (fun w_ hw_ N_ hN => (O.loadO Tryz.isAgg3 rfl ((h3.keep e3).keep hw_) rfl (O.nil hN))) ?_
  refine D.one (i := 4) rfl rfl (by kernel_rfl) ?_
  refine O.call Tryz.call112 (args2 rfl rfl) (icmp_spec _ _ _) ?_
  rintro v_9 w4 ⟨rfl, hw_⟩
  replace hw_ := hw_.symm
  subst hw_
  refine O.nil ⟨(Le.refl _), ?_⟩
  refine D.one (i := 9) rfl rfl (by kernel_rfl) ?_
  refine O.call Tryz.call112 (args2 rfl rfl) (icmp_spec _ _ _) ?_
  rintro v_14 w4 ⟨rfl, hw_⟩
  replace hw_ := hw_.symm
  subst hw_
  refine O.nil ⟨(Le.refl _), ?_⟩
  refine D.one (i := 10) rfl rfl (by kernel_rfl) ?_
  refine O.litnD [.int .i64 (Dt.icmp a.2 b.2), .int .i64 (Dt.icmp a.1 b.1)] Tryz.underlying171 ti3 ts3 tz3 rfl (by decide) (by decide) rfl (by simp [Value.oneCell']) (fun b15 w4 hb15 hz15 e4 d4 => ?_)
  have z4 := e4.size
  have h15 := hz15.own
  have hl15 := h15.lt
  refine O.nil ⟨e4, ?_⟩
  have h1015 : Sl Dt.intF.enc w4 (fun k => k = b15) (.slice (some ⟨b15, 0, none⟩) 2 2) [Dt.icmp a.2 b.2, Dt.icmp a.1 b.1] := Sl.of_own (G := Dt.intF) h15 rfl (Nat.le_refl _) (by unfold maxLen; omega) (by simp [Dt.intF])
  refine D.one (i := 11) rfl rfl (by kernel_rfl) ?_
  refine O.call Tryz.call111 (args1 rfl) (cor_spec _ _ _ _ _ h1015) ?_
  rintro v_16 w5 ⟨rfl, hw_⟩
  replace hw_ := hw_.symm
  subst hw_
  refine O.nil ⟨e4, ?_⟩
  refine D.take (i := 12) rfl rfl rfl rfl (by kernel_rfl) e4 ⟨pure _, rfl⟩ (fun w_ hw_ N_ hN => (O.asg (O.nil hN))) ?_
  refine D.done (by kernel_rfl) ?_
  refine hK2 _ _ ?_
  refine C.ret ?_
  refine Outs.one rfl rfl ?_
  exact ⟨congrArg (Value.int .i64) (Dt.cmp_or a b).symm, (Ext.trans (Ext.trans (Ext.trans e1 e2) e3) e4), by omega⟩

end Go.Proofs.YtnkcmaoaagnopaaGreatDoor
end
section
/-
  The walks of dots: lists. Conditions: slices as they lie in memory.
-/
namespace Go.Proofs.YtnkcmaoaagnopaaGreatDoor
open Go.Pn Go.RowKit

theorem isSet_spec (v0 : Value) (l : List Dt.Dot) (F : Nat → Prop) (w : World) (hl : Sl Dt.dotF.enc w F v0 l) :
    Ret Tryz.prog 65 #[v0] w (fun v w' => v = .bool (Dt.isSet l) ∧ Le w w') := by
  have hle := hl.le
  refine enter (args := [v0]) (n := 21) Tryz.func65 rfl rfl (Nat.le_of_ble_eq_true rfl) ?_
  refine C.seqK fun K1 hK1 => ?_
  refine C.region ?_
  refine O.asg ?_
  refine O.nil ?_
  refine hK1 _ _ ?_
  refine C.seqK fun K2 hK2 => ?_
  refine C.seqK fun K3 hK3 => ?_
  refine C.region ?_
  refine O.asg ?_
  refine O.nil ?_
  refine hK3 _ _ ?_
  refine C.block fun K4 hK4 => ?_
  refine C.loop0 (σ := Nat) (fun f0 w0 k f wz => f 3 = .int .i64 ((k : Int) + 1) ∧ f 0 = f0 0 ∧ Le w wz ∧ ∀ i, ∀ h : i + 1 < l.length, i < k → Dt.Less l[i] l[i + 1]) (fun k => l.length - k) 0 ?_ ?_
  ·
    refine ⟨(Eq.trans rfl (i64_eq (by omega))), rfl, (Le.refl _), ?_⟩
    exact fun i h k => absurd k (Nat.not_lt_zero _)
  ·
    rintro k f_1 w1 ⟨s3_1, s0_1, e_1, hI⟩
    have z_1 := e_1.size
    refine C.seqK fun K5 hK5 => ?_
    refine C.seqK fun K6 hK6 => ?_
    refine C.region ?_
    refine O.mv ?_
    refine O.mv ?_
    refine O.len Tryz.underlying22 s0_1 (hl.keep e_1) ?_
    refine O.lssI s3_1 rfl ?_
    refine O.nil ?_
    refine hK6 _ _ ?_
    refine C.condD rfl (fun c7 => ?_) (fun c7 => ?_)
    ·
      have hk2 : k + 1 < l.length := by omega
      have x0 : ((k : Int) + 1 - 1).toNat = k := by omega
      have x1 : ((k : Int) + 1).toNat = k + 1 := by omega
      
      refine C.skip ?_
      refine hK5 _ _ ?_
      refine C.seqK fun K7 hK7 => ?_
      refine C.block fun K8 hK8 => ?_
      refine C.seqK fun K9 hK9 => ?_
      refine C.draw (by kernel_rfl) fun w2 e2 => ?_
      have z2 := e2.size
      refine D.take (i := 0) rfl rfl rfl rfl (by kernel_rfl) (Le.refl _) ⟨pure _, rfl⟩ (fun w_ hw_ N_ hN => (O.mv (O.nil hN))) ?_
      refine D.take (i := 1) rfl rfl rfl rfl (by kernel_rfl) (Le.refl _) ⟨pure _, rfl⟩ (fun w_ hw_ N_ hN => (O.mv (O.nil hN))) ?_
      refine D.take (i := 2) rfl rfl rfl rfl (by kernel_rfl) (Le.refl _) ⟨_, rfl⟩ (fun w_ hw_ N_ hN => (O.subI s3_1 rfl (by unfold InI; omega) (O.nil hN))) ?_
      obtain ⟨a13, h13, hr13⟩ := Sl.at (i := (k : Int) + 1 - 1) (P := Tryz.prog) Tryz.underlying22 Tryz.sizeOf51 rfl ((hl.keep e_1).keep e2) (by omega)
      refine D.take (i := 3) rfl rfl rfl rfl (by kernel_rfl) (Le.refl _) ⟨_, rfl⟩ (fun w_ hw_ N_ hN => (O.idxR s0_1 rfl hr13 (O.nil hN))) ?_
      refine D.take (i := 4) rfl rfl rfl rfl (by kernel_rfl) (Le.refl _) ⟨_, rfl⟩ (fun w_ hw_ N_ hN => (O.loadG (G := Dt.dotF) Tryz.isAgg51 Tryz.sizeOf51 rfl (h13.keep hw_) (O.nil hN))) ?_
      refine D.take (i := 5) rfl rfl rfl rfl (by kernel_rfl) (Le.refl _) ⟨pure _, rfl⟩ (fun w_ hw_ N_ hN => (O.mv (O.nil hN))) ?_
      refine D.take (i := 6) rfl rfl rfl rfl (by kernel_rfl) (Le.refl _) ⟨pure _, rfl⟩ (fun w_ hw_ N_ hN => (O.mv (O.nil hN))) ?_
      obtain ⟨a17, h17, hr17⟩ := Sl.at (i := (k : Int) + 1) (P := Tryz.prog) Tryz.underlying22 Tryz.sizeOf51 rfl ((hl.keep e_1).keep e2) (by omega)
      refine D.take (i := 7) rfl rfl rfl rfl (by kernel_rfl) (Le.refl _) ⟨_, rfl⟩ (fun w_ hw_ N_ hN => (O.idxR s0_1 s3_1 hr17 (O.nil hN))) ?_
      refine D.take (i := 8) rfl rfl rfl rfl (by kernel_rfl) (Le.refl _) ⟨_, rfl⟩ (fun w_ hw_ N_ hN => (O.loadG (G := Dt.dotF) Tryz.isAgg51 Tryz.sizeOf51 rfl (h17.keep hw_) (O.nil hN))) ?_
      refine D.one (i := 9) rfl rfl (by kernel_rfl) ?_
      refine O.call Tryz.call89 (args2 rfl rfl) (cmp_spec _ _ _) ?_
      rintro v_19 w3 ⟨rfl, e3, _⟩
      have z3 := e3.size
      refine O.nil ⟨e3, ?_⟩
      refine D.take (i := 10) rfl rfl rfl rfl (by kernel_rfl) e3 ⟨_, rfl⟩ (fun w_ hw_ N_ hN => (O.geqI rfl rfl (O.nil hN))) ?_
      refine D.done (by kernel_rfl) ?_
      refine hK9 _ _ ?_
      refine C.condD rfl (fun c20 => ?_) (fun c20 => ?_)
      ·
        simp only [x0, x1, Dt.cmp_ge] at c20
        refine C.seqK fun K10 hK10 => ?_
        refine C.region ?_
        refine O.asg ?_
        refine O.nil ?_
        refine hK10 _ _ ?_
        refine C.ret ?_
        refine Outs.one rfl rfl ?_
        first
        | exact ⟨congrArg Value.bool (Dt.isSet_no hk2 (by omega) rfl c20).symm, (Ext.trans (Ext.trans e_1 e2) e3)⟩
        | exact ⟨congrArg Value.bool (Dt.isSet_yes (fun i hi => hI i hi (by omega))).symm, (Ext.trans (Ext.trans e_1 e2) e3)⟩
      ·
        simp only [x0, x1, Dt.cmp_ge, Decidable.not_not] at c20
        refine C.skip ?_
        refine hK8 _ _ ?_
        refine hK7 _ _ ?_
        refine C.region ?_
        refine O.mv ?_
        refine O.addI s3_1 rfl (by unfold InI; omega) ?_
        refine O.asg ?_
        refine O.nil ?_
        refine ⟨k + 1, ⟨(Eq.trans rfl (i64_eq (by omega))), s0_1, (Ext.trans (Ext.trans e_1 e2) e3), ?_⟩, by first | omega | (simp only []; omega)⟩
        intro i hi hik
        rcases Nat.lt_or_eq_of_le (Nat.le_of_lt_succ hik) with h | rfl
        · exact hI i hi h
        · exact c20
    ·
      refine C.exit ?_
      refine hK4 _ _ ?_
      refine hK2 _ _ ?_
      refine C.seqK fun K11 hK11 => ?_
      refine C.region ?_
      refine O.asg ?_
      refine O.nil ?_
      refine hK11 _ _ ?_
      refine C.ret ?_
      refine Outs.one rfl rfl ?_
      first
      | exact ⟨congrArg Value.bool (Dt.isSet_no hk2 (by omega) rfl c20).symm, e_1⟩
      | exact ⟨congrArg Value.bool (Dt.isSet_yes (fun i hi => hI i hi (by omega))).symm, e_1⟩

theorem index_spec (v0 : Value) (l : List Dt.Dot) (F : Nat → Prop) (d : Dt.Dot) (w : World) (hl : Sl Dt.dotF.enc w F v0 l) :
    Ret Tryz.prog 145 #[v0, Dt.dv (d)] w (fun v w' => (∃ r : Int, v = .int .i64 r ∧ (r ≥ 0 ↔ d ∈ l)) ∧ Le w w') := by
  have hle := hl.le
  refine enter (args := [v0, Dt.dv (d)]) (n := 19) Tryz.func145 rfl rfl (Nat.le_of_ble_eq_true rfl) ?_
  refine C.seqK fun K1 hK1 => ?_
  refine C.region ?_
  refine O.box (v := Dt.dv (d)) rfl (fun b3 w1 hb3 hz3 e1 => ?_)
  have z1 := e1.size
  have h3 := hz3.own
  have hl3 := h3.lt
  refine O.asg ?_
  refine O.nil ?_
  refine hK1 _ _ ?_
  refine C.seqK fun K2 hK2 => ?_
  refine C.seqK fun K3 hK3 => ?_
  refine C.region ?_
  refine O.mv ?_
  refine O.len Tryz.underlying22 rfl (hl.keep e1) ?_
  refine O.mv ?_
  refine O.nil ?_
  refine hK3 _ _ ?_
  refine C.block fun K4 hK4 => ?_
  refine C.loop0 (σ := Nat) (fun f0 w0 k f wz => f 8 = .int .i64 (k) ∧ f 0 = f0 0 ∧ f 3 = f0 3 ∧ f 7 = f0 7 ∧ Le w wz ∧ Own wz b3 51 (Dt.dv d).cells.toList ∧ k ≤ l.length ∧ ∀ i, ∀ h : i < l.length, i < k → l[i] ≠ d) (fun k => l.length - k) 0 ?_ ?_
  ·
    refine ⟨rfl, rfl, rfl, rfl, e1, h3, ?_⟩
    exact ⟨Nat.zero_le _, fun i h k => absurd k (Nat.not_lt_zero _)⟩
  ·
    rintro k f_1 w2 ⟨s8_1, s0_1, s3_1, s7_1, e_1, r0_1, ⟨hk, hI⟩⟩
    have z_1 := e_1.size
    refine C.seqK fun K5 hK5 => ?_
    refine C.region ?_
    refine O.lssI s8_1 s7_1 ?_
    refine O.nil ?_
    refine hK5 _ _ ?_
    refine C.seqK fun K6 hK6 => ?_
    refine C.condD rfl (fun c9 => ?_) (fun c9 => ?_)
    ·
      refine C.skip ?_
      refine hK6 _ _ ?_
      refine C.seqK fun K7 hK7 => ?_
      refine C.block fun K8 hK8 => ?_
      refine C.seqK fun K9 hK9 => ?_
      refine C.region ?_
      refine O.mv ?_
      refine O.asg ?_
      refine O.nil ?_
      refine hK9 _ _ ?_
      refine C.seqK fun K10 hK10 => ?_
      refine C.draw (by kernel_rfl) fun w3 e3 => ?_
      have z3 := e3.size
      refine D.take (i := 0) rfl rfl rfl rfl (by kernel_rfl) (Le.refl _) ⟨_, rfl⟩ (fun w_ hw_ N_ hN => (O.loadOA Tryz.isAgg51 Tryz.sizeOf51 s3_1 ((r0_1.keep e3).keep hw_) (Nat.le_of_ble_eq_true rfl) (O.nil hN))) ?_
      refine D.take (i := 1) rfl rfl rfl rfl (by kernel_rfl) (Le.refl _) ⟨pure _, rfl⟩ (fun w_ hw_ N_ hN => (O.mv (O.nil hN))) ?_
      refine D.take (i := 2) rfl rfl rfl rfl (by kernel_rfl) (Le.refl _) ⟨pure _, rfl⟩ (fun w_ hw_ N_ hN => (O.mv (O.nil hN))) ?_
      obtain ⟨a14, h14, hr14⟩ := Sl.at (i := (k : Int)) (P := Tryz.prog) Tryz.underlying22 Tryz.sizeOf51 rfl ((hl.keep e_1).keep e3) (by omega)
      refine D.take (i := 3) rfl rfl rfl rfl (by kernel_rfl) (Le.refl _) ⟨_, rfl⟩ (fun w_ hw_ N_ hN => (O.idxR s0_1 s8_1 hr14 (O.nil hN))) ?_
      refine D.take (i := 4) rfl rfl rfl rfl (by kernel_rfl) (Le.refl _) ⟨_, rfl⟩ (fun w_ hw_ N_ hN => (O.loadG (G := Dt.dotF) Tryz.isAgg51 Tryz.sizeOf51 rfl (h14.keep hw_) (O.nil hN))) ?_
      refine D.take (i := 5) rfl rfl rfl rfl (by kernel_rfl) (Le.refl _) ⟨_, rfl⟩ (fun w_ hw_ N_ hN => (O.eqlP Tryz.underlying51 (by decide) (by decide) rfl rfl Tryz.underlying3 Tryz.underlying3 Tryz.isAgg3 Tryz.isAgg3 (by kernel_rfl) (by kernel_rfl) rfl rfl (O.nil hN))) ?_
      refine D.done (by kernel_rfl) ?_
      refine hK10 _ _ ?_
      refine C.condD rfl (fun c16 => ?_) (fun c16 => ?_)
      ·
        refine C.seqK fun K11 hK11 => ?_
        refine C.region ?_
        refine O.mv ?_
        refine O.asg ?_
        refine O.nil ?_
        refine hK11 _ _ ?_
        refine C.ret ?_
        refine Outs.one rfl s8_1 ?_
        first
        | exact ⟨⟨_, rfl, ⟨fun _ => by rw [c16]; exact List.getElem_mem _, fun _ => by omega⟩⟩, (Ext.trans e_1 e3)⟩
        | exact ⟨⟨-1, rfl, ⟨fun h => absurd h (by omega), fun h => absurd h (Dt.not_mem fun i hi => hI i hi (by omega))⟩⟩, (Ext.trans e_1 e3)⟩
      ·
        refine C.skip ?_
        refine hK8 _ _ ?_
        refine hK7 _ _ ?_
        refine C.region ?_
        refine O.addI s8_1 rfl (by unfold InI; omega) ?_
        refine O.mv ?_
        refine O.nil ?_
        refine ⟨k + 1, ⟨rfl, s0_1, s3_1, s7_1, (Ext.trans e_1 e3), (r0_1.keep e3), ?_⟩, by first | omega | (simp only []; omega)⟩
        refine ⟨by omega, fun i hi hik => ?_⟩
        rcases Nat.lt_or_eq_of_le (Nat.le_of_lt_succ hik) with h | rfl
        · exact hI i hi h
        · exact fun h => c16 h.symm
    ·
      refine C.exit ?_
      refine hK4 _ _ ?_
      refine hK2 _ _ ?_
      refine C.seqK fun K12 hK12 => ?_
      refine C.region ?_
      refine O.asg ?_
      refine O.nil ?_
      refine hK12 _ _ ?_
      refine C.ret ?_
      refine Outs.one rfl rfl ?_
      first
      | exact ⟨⟨_, rfl, ⟨fun _ => by rw [c16]; exact List.getElem_mem _, fun _ => by omega⟩⟩, e_1⟩
      | exact ⟨⟨-1, rfl, ⟨fun h => absurd h (by omega), fun h => absurd h (Dt.not_mem fun i hi => hI i hi (by omega))⟩⟩, e_1⟩

theorem contains_spec (v0 : Value) (l : List Dt.Dot) (F : Nat → Prop) (d : Dt.Dot) (w : World) (hl : Sl Dt.dotF.enc w F v0 l) :
    Ret Tryz.prog 119 #[v0, Dt.dv (d)] w (fun v w' => v = .bool (decide (d ∈ l)) ∧ Le w w') := by
  refine enter (args := [v0, Dt.dv (d)]) (n := 9) Tryz.func119 rfl rfl (Nat.le_of_ble_eq_true rfl) ?_
  refine C.seqK fun K1 hK1 => ?_
  refine C.region ?_
  refine O.box (v := Dt.dv (d)) rfl (fun b3 w1 hb3 hz3 e1 => ?_)
  have z1 := e1.size
  have h3 := hz3.own
  have hl3 := h3.lt
  refine O.asg ?_
  refine O.nil ?_
  refine hK1 _ _ ?_
  refine C.seqK fun K2 hK2 => ?_
  refine C.region ?_
  refine O.mv ?_
  refine O.loadOA Tryz.isAgg51 Tryz.sizeOf51 rfl h3 (Nat.le_of_ble_eq_true rfl) ?_
  refine O.call Tryz.call145 (args2 rfl rfl) (index_spec _ _ _ d _ (hl.keep e1)) ?_
  rintro v_7 w2 ⟨⟨rv7, rfl, hrv7⟩, e2⟩
  have z2 := e2.size
  refine O.geqI rfl rfl ?_
  refine O.asg ?_
  refine O.nil ?_
  refine hK2 _ _ ?_
  refine C.ret ?_
  refine Outs.one rfl rfl ?_
  exact ⟨congrArg Value.bool (decide_eq_decide.2 hrv7), (Ext.trans e1 e2)⟩

theorem has_spec (v0 : Value) (l : List Dt.Dot) (F : Nat → Prop) (d : Dt.Dot) (w : World) (hl : Sl Dt.dotF.enc w F v0 l) :
    Ret Tryz.prog 101 #[v0, Dt.dv (d)] w (fun v w' => v = .bool (decide (d ∈ l)) ∧ Le w w') := by
  refine enter (args := [v0, Dt.dv (d)]) (n := 8) Tryz.func101 rfl rfl (Nat.le_of_ble_eq_true rfl) ?_
  refine C.seqK fun K1 hK1 => ?_
  refine C.region ?_
  refine O.box (v := Dt.dv (d)) rfl (fun b3 w1 hb3 hz3 e1 => ?_)
  have z1 := e1.size
  have h3 := hz3.own
  have hl3 := h3.lt
  refine O.asg ?_
  refine O.nil ?_
  refine hK1 _ _ ?_
  refine C.seqK fun K2 hK2 => ?_
  refine C.region ?_
  refine O.mv ?_
  refine O.loadOA Tryz.isAgg51 Tryz.sizeOf51 rfl h3 (Nat.le_of_ble_eq_true rfl) ?_
  refine O.call Tryz.call119 (args2 rfl rfl) (contains_spec _ _ _ d _ (hl.keep e1)) ?_
  rintro v_7 w2 ⟨rfl, e2⟩
  have z2 := e2.size
  refine O.asg ?_
  refine O.nil ?_
  refine hK2 _ _ ?_
  refine C.ret ?_
  refine Outs.one rfl rfl ?_
  exact ⟨rfl, (Ext.trans e1 e2)⟩

theorem clone_spec (v0 : Value) (l : List Dt.Dot) (F : Nat → Prop) (w : World) (hl : Sl Dt.dotF.enc w F v0 l) (hn : l.length ≤ 1000000000000) :
    Ret Tryz.prog 97 #[v0] w (fun v w' => Le w w' ∧ OwnF Dt.dotF 51 w.heap.size w' v l) := by
  have hle := hl.le
  obtain ⟨ie51, ti51, ts51, tb51, tz51⟩ := inf51
  refine enter (args := [v0]) (n := 8) Tryz.func97 rfl rfl (Nat.le_of_ble_eq_true rfl) ?_
  refine C.seqK fun K1 hK1 => ?_
  refine C.region ?_
  refine O.asg ?_
  refine O.nil ?_
  refine hK1 _ _ ?_
  refine C.seqK fun K2 hK2 => ?_
  refine C.seqK fun K3 hK3 => ?_
  refine C.region ?_
  refine O.mv ?_
  refine O.eqlNilS Tryz.underlying22 rfl hl ?_
  refine O.nil ?_
  refine hK3 _ _ ?_
  refine C.cond rfl (fun c4 => ?_) (fun c4 => ?_)
  ·
    refine C.seqK fun K4 hK4 => ?_
    refine C.region ?_
    refine O.asg ?_
    refine O.nil ?_
    refine hK4 _ _ ?_
    refine C.ret ?_
    refine Outs.one rfl rfl ?_
    first
    | (obtain rfl := isNilS_nil hl c4
       exact ⟨(Le.refl _), OwnF.nil _ _ _ _⟩)
    | exact ⟨(Le.refl _), {app:7}⟩
  ·
    refine C.skip ?_
    refine hK2 _ _ ?_
    refine C.seqK fun K5 hK5 => ?_
    refine C.region ?_
    refine O.lit0 Tryz.underlying22 ti51 (fun b5 w1 hb5 hz5 e1 => ?_)
    have z1 := e1.size
    have h5 := hz5.own
    have hl5 := h5.lt
    have h1005 : OwnF Dt.dotF 51 w.heap.size w1 _ [] := OwnF.lit0 hz5 hb5
    refine O.mv ?_
    refine O.appF (G := Dt.dotF) Tryz.underlying22 ti51 tz51 ts51 rfl rfl rfl h1005 (hl.keep e1) (by rw [tb51]; simp; omega) (by unfold maxLen; simp; omega) (by omega) (fun v7 w2 h7 e2 => ?_)
    have z2 := e2.size
    have h7s := h7.sl
    refine O.asg ?_
    refine O.nil ?_
    refine hK5 _ _ ?_
    refine C.ret ?_
    refine Outs.one rfl rfl ?_
    first
    | (obtain rfl := isNilS_nil hl c4
       exact ⟨(Ext.new e1 e2 (by intro i hi h; have := h1005.bk_ge i h; omega)), OwnF.nil _ _ _ _⟩)
    | exact ⟨(Ext.new e1 e2 (by intro i hi h; have := h1005.bk_ge i h; omega)), h7⟩

end Go.Proofs.YtnkcmaoaagnopaaGreatDoor
end
section
/-
  The walks of contexts: what is allowed, what a context has. Conditions: slices as they lie in memory.
-/
namespace Go.Proofs.YtnkcmaoaagnopaaGreatDoor
open Go.Pn Go.RowKit

theorem vbad_spec (d : Dt.Dot) (w : World) :
    Ret Tryz.prog 88 #[Dt.dv (d)] w (fun v w' => v = .bool (Cn.badD d) ∧ Le w w') := by
  refine enter (args := [Dt.dv (d)]) (n := 6) Tryz.func88 rfl rfl (Nat.le_of_ble_eq_true rfl) ?_
  refine C.seqK fun K1 hK1 => ?_
  refine C.region ?_
  refine O.box (v := Dt.dv (d)) rfl (fun b1 w1 hb1 hz1 e1 => ?_)
  have z1 := e1.size
  have h1 := hz1.own
  have hl1 := h1.lt
  refine O.asg ?_
  refine O.nil ?_
  refine hK1 _ _ ?_
  refine C.seqK fun K2 hK2 => ?_
  refine C.region ?_
  refine O.loadOA Tryz.isAgg51 Tryz.sizeOf51 rfl h1 (Nat.le_of_ble_eq_true rfl) ?_
  refine O.call Tryz.call91 (args1 rfl) (valid_spec d _) ?_
  rintro v_4 w2 ⟨rfl, e2⟩
  have z2 := e2.size
  refine O.not rfl ?_
  refine O.asg ?_
  refine O.nil ?_
  refine hK2 _ _ ?_
  refine C.ret ?_
  refine Outs.one rfl rfl ?_
  exact ⟨rfl, (Ext.trans e1 e2)⟩

theorem cbad_spec (d : Dt.Dot) (w : World) :
    Ret Tryz.prog 90 #[Dt.dv (d)] w (fun v w' => v = .bool (Cn.badD d) ∧ Le w w') := by
  refine enter (args := [Dt.dv (d)]) (n := 6) Tryz.func90 rfl rfl (Nat.le_of_ble_eq_true rfl) ?_
  refine C.seqK fun K1 hK1 => ?_
  refine C.region ?_
  refine O.box (v := Dt.dv (d)) rfl (fun b1 w1 hb1 hz1 e1 => ?_)
  have z1 := e1.size
  have h1 := hz1.own
  have hl1 := h1.lt
  refine O.asg ?_
  refine O.nil ?_
  refine hK1 _ _ ?_
  refine C.seqK fun K2 hK2 => ?_
  refine C.region ?_
  refine O.loadOA Tryz.isAgg51 Tryz.sizeOf51 rfl h1 (Nat.le_of_ble_eq_true rfl) ?_
  refine O.call Tryz.call91 (args1 rfl) (valid_spec d _) ?_
  rintro v_4 w2 ⟨rfl, e2⟩
  have z2 := e2.size
  refine O.not rfl ?_
  refine O.asg ?_
  refine O.nil ?_
  refine hK2 _ _ ?_
  refine C.ret ?_
  refine Outs.one rfl rfl ?_
  exact ⟨rfl, (Ext.trans e1 e2)⟩

theorem pred_vbad (M : Nat → Prop) (w : World) : Pred Tryz.prog M w (.func (.func 88) #[] #[]) Dt.dv Cn.badD := ⟨88, [], rfl, Tryz.call88, fun d w' _ => vbad_spec d w'⟩
theorem pred_cbad (M : Nat → Prop) (w : World) : Pred Tryz.prog M w (.func (.func 90) #[] #[]) Dt.dv Cn.badD := ⟨90, [], rfl, Tryz.call90, fun d w' _ => cbad_spec d w'⟩
theorem indexV_spec (v0 vf : Value) (l : List Dt.Dot) (F M : Nat → Prop) (p : Dt.Dot → Bool) (w : World) (hl : Sl Dt.dotF.enc w F v0 l) (hp : Pred Tryz.prog M w vf Dt.dv p) :
    Ret Tryz.prog 62 #[v0, vf] w (fun v w' => v = .int .i64 (Cn.idx p l) ∧ Le w w') := by
  have hle := hl.le
  refine enter (args := [v0, vf]) (n := 19) Tryz.func62 rfl rfl (Nat.le_of_ble_eq_true rfl) ?_
  refine C.seqK fun K1 hK1 => ?_
  refine C.region ?_
  refine O.asg ?_
  refine O.nil ?_
  refine hK1 _ _ ?_
  refine C.seqK fun K2 hK2 => ?_
  refine C.seqK fun K3 hK3 => ?_
  refine C.region ?_
  refine O.mv ?_
  refine O.len Tryz.underlying23 rfl hl ?_
  refine O.mv ?_
  refine O.nil ?_
  refine hK3 _ _ ?_
  refine C.block fun K4 hK4 => ?_
  refine C.loop0 (σ := Nat) (fun f0 w0 k f wz => f 8 = .int .i64 (k) ∧ f 0 = f0 0 ∧ f 1 = f0 1 ∧ f 7 = f0 7 ∧ Le w wz ∧ k ≤ l.length ∧ ∀ i, ∀ h : i < l.length, i < k → p l[i] = false) (fun k => l.length - k) 0 ?_ ?_
  ·
    refine ⟨rfl, rfl, rfl, rfl, (Le.refl _), ?_⟩
    exact ⟨Nat.zero_le _, fun i h k => absurd k (Nat.not_lt_zero _)⟩
  ·
    rintro k f_1 w1 ⟨s8_1, s0_1, s1_1, s7_1, e_1, ⟨hk, hI⟩⟩
    have z_1 := e_1.size
    refine C.seqK fun K5 hK5 => ?_
    refine C.region ?_
    refine O.lssI s8_1 s7_1 ?_
    refine O.nil ?_
    refine hK5 _ _ ?_
    refine C.seqK fun K6 hK6 => ?_
    refine C.condD rfl (fun c9 => ?_) (fun c9 => ?_)
    ·
      have hk2 : k < l.length := by omega
      refine C.skip ?_
      refine hK6 _ _ ?_
      refine C.seqK fun K7 hK7 => ?_
      refine C.block fun K8 hK8 => ?_
      refine C.seqK fun K9 hK9 => ?_
      refine C.region ?_
      refine O.mv ?_
      refine O.asg ?_
      refine O.nil ?_
      refine hK9 _ _ ?_
      refine C.seqK fun K10 hK10 => ?_
      refine C.region ?_
      refine O.mv ?_
      refine O.mv ?_
      refine O.mv ?_
      refine O.idx Tryz.underlying23 Tryz.sizeOf51 rfl s0_1 (hl.keep e_1) s8_1 (by omega) (fun a14 h14 => ?_)
      refine O.loadG (G := Dt.dotF) Tryz.isAgg51 Tryz.sizeOf51 rfl h14 ?_
      refine O.callP (_) (hp.keep e_1) s1_1 rfl (fun w2 e2 => ?_)
      have z2 := e2.size
      refine O.nil ?_
      refine hK10 _ _ ?_
      refine C.cond rfl (fun c16 => ?_) (fun c16 => ?_)
      ·
        simp only [Int.toNat_natCast] at c16
        refine C.seqK fun K11 hK11 => ?_
        refine C.region ?_
        refine O.mv ?_
        refine O.asg ?_
        refine O.nil ?_
        refine hK11 _ _ ?_
        refine C.ret ?_
        refine Outs.one rfl s8_1 ?_
        first
        | exact ⟨congrArg (Value.int .i64) (Cn.idx_yes hk2 c16 hI).symm, (Ext.trans e_1 e2)⟩
        | exact ⟨congrArg (Value.int .i64) (Cn.idx_no fun i hi => hI i hi (by omega)).symm, (Ext.trans e_1 e2)⟩
      ·
        simp only [Int.toNat_natCast] at c16
        refine C.skip ?_
        refine hK8 _ _ ?_
        refine hK7 _ _ ?_
        refine C.region ?_
        refine O.addI s8_1 rfl (by unfold InI; omega) ?_
        refine O.mv ?_
        refine O.nil ?_
        refine ⟨k + 1, ⟨rfl, s0_1, s1_1, s7_1, (Ext.trans e_1 e2), ?_⟩, by first | omega | (simp only []; omega)⟩
        refine ⟨by omega, fun i hi hik => ?_⟩
        rcases Nat.lt_or_eq_of_le (Nat.le_of_lt_succ hik) with h | rfl
        · exact hI i hi h
        · exact c16
    ·
      refine C.exit ?_
      refine hK4 _ _ ?_
      refine hK2 _ _ ?_
      refine C.seqK fun K12 hK12 => ?_
      refine C.region ?_
      refine O.asg ?_
      refine O.nil ?_
      refine hK12 _ _ ?_
      refine C.ret ?_
      refine Outs.one rfl rfl ?_
      first
      | exact ⟨congrArg (Value.int .i64) (Cn.idx_yes hk2 c16 hI).symm, e_1⟩
      | exact ⟨congrArg (Value.int .i64) (Cn.idx_no fun i hi => hI i hi (by omega)).symm, e_1⟩

theorem indexD_spec (v0 vf : Value) (l : List Dt.Dot) (F M : Nat → Prop) (p : Dt.Dot → Bool) (w : World) (hl : Sl Dt.dotF.enc w F v0 l) (hp : Pred Tryz.prog M w vf Dt.dv p) :
    Ret Tryz.prog 67 #[v0, vf] w (fun v w' => v = .int .i64 (Cn.idx p l) ∧ Le w w') := by
  have hle := hl.le
  refine enter (args := [v0, vf]) (n := 19) Tryz.func67 rfl rfl (Nat.le_of_ble_eq_true rfl) ?_
  refine C.seqK fun K1 hK1 => ?_
  refine C.region ?_
  refine O.asg ?_
  refine O.nil ?_
  refine hK1 _ _ ?_
  refine C.seqK fun K2 hK2 => ?_
  refine C.seqK fun K3 hK3 => ?_
  refine C.region ?_
  refine O.mv ?_
  refine O.len Tryz.underlying22 rfl hl ?_
  refine O.mv ?_
  refine O.nil ?_
  refine hK3 _ _ ?_
  refine C.block fun K4 hK4 => ?_
  refine C.loop0 (σ := Nat) (fun f0 w0 k f wz => f 8 = .int .i64 (k) ∧ f 0 = f0 0 ∧ f 1 = f0 1 ∧ f 7 = f0 7 ∧ Le w wz ∧ k ≤ l.length ∧ ∀ i, ∀ h : i < l.length, i < k → p l[i] = false) (fun k => l.length - k) 0 ?_ ?_
  ·
    refine ⟨rfl, rfl, rfl, rfl, (Le.refl _), ?_⟩
    exact ⟨Nat.zero_le _, fun i h k => absurd k (Nat.not_lt_zero _)⟩
  ·
    rintro k f_1 w1 ⟨s8_1, s0_1, s1_1, s7_1, e_1, ⟨hk, hI⟩⟩
    have z_1 := e_1.size
    refine C.seqK fun K5 hK5 => ?_
    refine C.region ?_
    refine O.lssI s8_1 s7_1 ?_
    refine O.nil ?_
    refine hK5 _ _ ?_
    refine C.seqK fun K6 hK6 => ?_
    refine C.condD rfl (fun c9 => ?_) (fun c9 => ?_)
    ·
      have hk2 : k < l.length := by omega
      refine C.skip ?_
      refine hK6 _ _ ?_
      refine C.seqK fun K7 hK7 => ?_
      refine C.block fun K8 hK8 => ?_
      refine C.seqK fun K9 hK9 => ?_
      refine C.region ?_
      refine O.mv ?_
      refine O.asg ?_
      refine O.nil ?_
      refine hK9 _ _ ?_
      refine C.seqK fun K10 hK10 => ?_
      refine C.region ?_
      refine O.mv ?_
      refine O.mv ?_
      refine O.mv ?_
      refine O.idx Tryz.underlying22 Tryz.sizeOf51 rfl s0_1 (hl.keep e_1) s8_1 (by omega) (fun a14 h14 => ?_)
      refine O.loadG (G := Dt.dotF) Tryz.isAgg51 Tryz.sizeOf51 rfl h14 ?_
      refine O.callP (_) (hp.keep e_1) s1_1 rfl (fun w2 e2 => ?_)
      have z2 := e2.size
      refine O.nil ?_
      refine hK10 _ _ ?_
      refine C.cond rfl (fun c16 => ?_) (fun c16 => ?_)
      ·
        simp only [Int.toNat_natCast] at c16
        refine C.seqK fun K11 hK11 => ?_
        refine C.region ?_
        refine O.mv ?_
        refine O.asg ?_
        refine O.nil ?_
        refine hK11 _ _ ?_
        refine C.ret ?_
        refine Outs.one rfl s8_1 ?_
        first
        | exact ⟨congrArg (Value.int .i64) (Cn.idx_yes hk2 c16 hI).symm, (Ext.trans e_1 e2)⟩
        | exact ⟨congrArg (Value.int .i64) (Cn.idx_no fun i hi => hI i hi (by omega)).symm, (Ext.trans e_1 e2)⟩
      ·
        simp only [Int.toNat_natCast] at c16
        refine C.skip ?_
        refine hK8 _ _ ?_
        refine hK7 _ _ ?_
        refine C.region ?_
        refine O.addI s8_1 rfl (by unfold InI; omega) ?_
        refine O.mv ?_
        refine O.nil ?_
        refine ⟨k + 1, ⟨rfl, s0_1, s1_1, s7_1, (Ext.trans e_1 e2), ?_⟩, by first | omega | (simp only []; omega)⟩
        refine ⟨by omega, fun i hi hik => ?_⟩
        rcases Nat.lt_or_eq_of_le (Nat.le_of_lt_succ hik) with h | rfl
        · exact hI i hi h
        · exact c16
    ·
      refine C.exit ?_
      refine hK4 _ _ ?_
      refine hK2 _ _ ?_
      refine C.seqK fun K12 hK12 => ?_
      refine C.region ?_
      refine O.asg ?_
      refine O.nil ?_
      refine hK12 _ _ ?_
      refine C.ret ?_
      refine Outs.one rfl rfl ?_
      first
      | exact ⟨congrArg (Value.int .i64) (Cn.idx_yes hk2 c16 hI).symm, e_1⟩
      | exact ⟨congrArg (Value.int .i64) (Cn.idx_no fun i hi => hI i hi (by omega)).symm, e_1⟩

theorem containsV_spec (v0 vf : Value) (l : List Dt.Dot) (F M : Nat → Prop) (p : Dt.Dot → Bool) (w : World) (hl : Sl Dt.dotF.enc w F v0 l) (hp : Pred Tryz.prog M w vf Dt.dv p) :
    Ret Tryz.prog 87 #[v0, vf] w (fun v w' => v = .bool (l.any p) ∧ Le w w') := by
  refine enter (args := [v0, vf]) (n := 9) Tryz.func87 rfl rfl (Nat.le_of_ble_eq_true rfl) ?_
  refine C.seqK fun K1 hK1 => ?_
  refine C.region ?_
  refine O.asg ?_
  refine O.nil ?_
  refine hK1 _ _ ?_
  refine C.seqK fun K2 hK2 => ?_
  refine C.region ?_
  refine O.mv ?_
  refine O.mv ?_
  refine O.call Tryz.call62 (args2 rfl rfl) (indexV_spec _ _ _ _ _ _ _ hl hp) ?_
  rintro v_7 w1 ⟨rfl, e1⟩
  have z1 := e1.size
  refine O.geqI rfl rfl ?_
  refine O.asg ?_
  refine O.nil ?_
  refine hK2 _ _ ?_
  refine C.ret ?_
  refine Outs.one rfl rfl ?_
  exact ⟨congrArg Value.bool (Cn.idx_any l), e1⟩

theorem containsD_spec (v0 vf : Value) (l : List Dt.Dot) (F M : Nat → Prop) (p : Dt.Dot → Bool) (w : World) (hl : Sl Dt.dotF.enc w F v0 l) (hp : Pred Tryz.prog M w vf Dt.dv p) :
    Ret Tryz.prog 43 #[v0, vf] w (fun v w' => v = .bool (l.any p) ∧ Le w w') := by
  refine enter (args := [v0, vf]) (n := 9) Tryz.func43 rfl rfl (Nat.le_of_ble_eq_true rfl) ?_
  refine C.seqK fun K1 hK1 => ?_
  refine C.region ?_
  refine O.asg ?_
  refine O.nil ?_
  refine hK1 _ _ ?_
  refine C.seqK fun K2 hK2 => ?_
  refine C.region ?_
  refine O.mv ?_
  refine O.mv ?_
  refine O.call Tryz.call67 (args2 rfl rfl) (indexD_spec _ _ _ _ _ _ _ hl hp) ?_
  rintro v_7 w1 ⟨rfl, e1⟩
  have z1 := e1.size
  refine O.geqI rfl rfl ?_
  refine O.asg ?_
  refine O.nil ?_
  refine hK2 _ _ ?_
  refine C.ret ?_
  refine Outs.one rfl rfl ?_
  exact ⟨congrArg Value.bool (Cn.idx_any l), e1⟩

theorem vecValid_spec (v0 : Value) (l : List Dt.Dot) (F : Nat → Prop) (w : World) (hl : Sl Dt.dotF.enc w F v0 l) :
    Ret Tryz.prog 64 #[v0] w (fun v w' => v = .bool (Cn.vecValid l) ∧ Le w w') := by
  have hle := hl.le
  refine enter (args := [v0]) (n := 25) Tryz.func64 rfl rfl (Nat.le_of_ble_eq_true rfl) ?_
  refine C.seqK fun K1 hK1 => ?_
  refine C.region ?_
  refine O.asg ?_
  refine O.nil ?_
  refine hK1 _ _ ?_
  refine C.seqK fun K2 hK2 => ?_
  refine C.seqK fun K3 hK3 => ?_
  refine C.region ?_
  refine O.asg ?_
  refine O.nil ?_
  refine hK3 _ _ ?_
  refine C.block fun K4 hK4 => ?_
  refine C.loop0 (σ := Nat) (fun f0 w0 k f wz => f 3 = .int .i64 ((k : Int) + 1) ∧ f 0 = f0 0 ∧ Le w wz ∧ ∀ i, ∀ h : i + 1 < l.length, i < k → decide (l[i].1 < l[i + 1].1) = true) (fun k => l.length - k) 0 ?_ ?_
  ·
    refine ⟨(Eq.trans rfl (i64_eq (by omega))), rfl, (Le.refl _), ?_⟩
    exact fun i h k => absurd k (Nat.not_lt_zero _)
  ·
    rintro k f_1 w1 ⟨s3_1, s0_1, e_1, hI⟩
    have z_1 := e_1.size
    refine C.seqK fun K5 hK5 => ?_
    refine C.seqK fun K6 hK6 => ?_
    refine C.region ?_
    refine O.mv ?_
    refine O.mv ?_
    refine O.len Tryz.underlying23 s0_1 (hl.keep e_1) ?_
    refine O.lssI s3_1 rfl ?_
    refine O.nil ?_
    refine hK6 _ _ ?_
    refine C.condD rfl (fun c7 => ?_) (fun c7 => ?_)
    ·
      have hk2 : k + 1 < l.length := by omega
      have x0 : ((k : Int) + 1 - 1).toNat = k := by omega
      have x1 : ((k : Int) + 1).toNat = k + 1 := by omega
      refine C.skip ?_
      refine hK5 _ _ ?_
      refine C.seqK fun K7 hK7 => ?_
      refine C.block fun K8 hK8 => ?_
      refine C.seqK fun K9 hK9 => ?_
      refine C.draw (by kernel_rfl) fun w2 e2 => ?_
      have z2 := e2.size
      refine D.take (i := 0) rfl rfl rfl rfl (by kernel_rfl) (Le.refl _) ⟨pure _, rfl⟩ (fun w_ hw_ N_ hN => (O.mv (O.nil hN))) ?_
      refine D.take (i := 1) rfl rfl rfl rfl (by kernel_rfl) (Le.refl _) ⟨pure _, rfl⟩ (fun w_ hw_ N_ hN => (O.mv (O.nil hN))) ?_
      refine D.take (i := 2) rfl rfl rfl rfl (by kernel_rfl) (Le.refl _) ⟨_, rfl⟩ (fun w_ hw_ N_ hN => (O.subI s3_1 rfl (by unfold InI; omega) (O.nil hN))) ?_
      obtain ⟨a13, h13, hr13⟩ := Sl.at (i := (k : Int) + 1 - 1) (P := Tryz.prog) Tryz.underlying23 Tryz.sizeOf51 rfl ((hl.keep e_1).keep e2) (by omega)
      refine D.take (i := 3) rfl rfl rfl rfl (by kernel_rfl) (Le.refl _) ⟨_, rfl⟩ (fun w_ hw_ N_ hN => (O.idxR s0_1 rfl hr13 (O.nil hN))) ?_
      refine D.take (i := 4) rfl rfl rfl rfl (by kernel_rfl) (Le.refl _) ⟨_, rfl⟩ (fun w_ hw_ N_ hN => (O.fieldAt Tryz.underlying51 rfl Tryz.sizeOf3 (by decide) rfl (O.nil hN))) ?_
      refine D.take (i := 5) rfl rfl rfl rfl (by kernel_rfl) (Le.refl _) ⟨_, rfl⟩ (fun w_ hw_ N_ hN => (O.loadAtF (G := Dt.dotF) Tryz.isAgg3 rfl rfl (h13.keep hw_) (O.nil hN))) ?_
      refine D.take (i := 6) rfl rfl rfl rfl (by kernel_rfl) (Le.refl _) ⟨pure _, rfl⟩ (fun w_ hw_ N_ hN => (O.mv (O.nil hN))) ?_
      refine D.take (i := 7) rfl rfl rfl rfl (by kernel_rfl) (Le.refl _) ⟨pure _, rfl⟩ (fun w_ hw_ N_ hN => (O.mv (O.nil hN))) ?_
      obtain ⟨a18, h18, hr18⟩ := Sl.at (i := (k : Int) + 1) (P := Tryz.prog) Tryz.underlying23 Tryz.sizeOf51 rfl ((hl.keep e_1).keep e2) (by omega)
      refine D.take (i := 8) rfl rfl rfl rfl (by kernel_rfl) (Le.refl _) ⟨_, rfl⟩ (fun w_ hw_ N_ hN => (O.idxR s0_1 s3_1 hr18 (O.nil hN))) ?_
      refine D.take (i := 9) rfl rfl rfl rfl (by kernel_rfl) (Le.refl _) ⟨_, rfl⟩ (fun w_ hw_ N_ hN => (O.fieldAt Tryz.underlying51 rfl Tryz.sizeOf3 (by decide) rfl (O.nil hN))) ?_
      refine D.take (i := 10) rfl rfl rfl rfl (by kernel_rfl) (Le.refl _) ⟨_, rfl⟩ (fun w_ hw_ N_ hN => (O.loadAtF (G := Dt.dotF) Tryz.isAgg3 rfl rfl (h18.keep hw_) (O.nil hN))) ?_
      refine D.take (i := 11) rfl rfl rfl rfl (by kernel_rfl) (Le.refl _) ⟨_, rfl⟩ (fun w_ hw_ N_ hN => (O.geqI rfl rfl (O.nil hN))) ?_
      refine D.done (by kernel_rfl) ?_
      refine hK9 _ _ ?_
      refine C.condD rfl (fun c21 => ?_) (fun c21 => ?_)
      ·
        simp only [x0, x1] at c21
        refine C.seqK fun K10 hK10 => ?_
        refine C.region ?_
        refine O.asg ?_
        refine O.nil ?_
        refine hK10 _ _ ?_
        refine C.ret ?_
        refine Outs.one rfl rfl ?_
        first
        | (refine ⟨congrArg Value.bool ?_, (Ext.trans e_1 e2)⟩
           have q : Cn.incr l = false := Cn.adj_no hk2 (Nat.lt_of_succ_lt hk2) rfl (decide_eq_false (by omega))
           unfold Cn.vecValid
           rw [q]
           rfl)
        | (refine ⟨congrArg Value.bool ?_, (Ext.trans e_1 e2)⟩
           have q : Cn.incr l = true := Cn.adj_yes (fun i hi => hI i hi (by omega))
           unfold Cn.vecValid
           rw [q]
           rfl)
      ·
        simp only [x0, x1] at c21
        refine C.skip ?_
        refine hK8 _ _ ?_
        refine hK7 _ _ ?_
        refine C.region ?_
        refine O.mv ?_
        refine O.addI s3_1 rfl (by unfold InI; omega) ?_
        refine O.asg ?_
        refine O.nil ?_
        refine ⟨k + 1, ⟨(Eq.trans rfl (i64_eq (by omega))), s0_1, (Ext.trans e_1 e2), ?_⟩, by first | omega | (simp only []; omega)⟩
        intro i hi hik
        rcases Nat.lt_or_eq_of_le (Nat.le_of_lt_succ hik) with h | rfl
        · exact hI i hi h
        · exact decide_eq_true (by omega)
    ·
      refine C.exit ?_
      refine hK4 _ _ ?_
      refine hK2 _ _ ?_
      refine C.seqK fun K11 hK11 => ?_
      refine C.region ?_
      refine O.mv ?_
      refine O.call Tryz.call87 (args2 s0_1 rfl) (containsV_spec _ _ _ _ _ _ _ (hl.keep e_1) (pred_vbad (fun _ => False) _)) ?_
      rintro v_23 w3 ⟨rfl, e3⟩
      have z3 := e3.size
      refine O.not rfl ?_
      refine O.asg ?_
      refine O.nil ?_
      refine hK11 _ _ ?_
      refine C.ret ?_
      refine Outs.one rfl rfl ?_
      first
      | (refine ⟨congrArg Value.bool ?_, (Ext.trans e_1 e3)⟩
         have q : Cn.incr l = false := Cn.adj_no hk2 (Nat.lt_of_succ_lt hk2) rfl (decide_eq_false (by omega))
         unfold Cn.vecValid
         rw [q]
         rfl)
      | (refine ⟨congrArg Value.bool ?_, (Ext.trans e_1 e3)⟩
         have q : Cn.incr l = true := Cn.adj_yes (fun i hi => hI i hi (by omega))
         unfold Cn.vecValid
         rw [q]
         rfl)

theorem get1_spec (d : Dt.Dot) (bc : Nat) (r : Int) (w : World) (ho : Own w bc 3 [.int .i64 r]) :
    Ret Tryz.prog 63 #[Dt.dv (d), .pointer (some ⟨bc, 0, none⟩)] w (fun v w' => v = .bool (decide (d.1 = r)) ∧ Le w w') := by
  refine enter (args := [Dt.dv (d), .pointer (some ⟨bc, 0, none⟩)]) (n := 8) Tryz.func63 rfl rfl (Nat.le_of_ble_eq_true rfl) ?_
  refine C.seqK fun K1 hK1 => ?_
  refine C.region ?_
  refine O.box (v := Dt.dv (d)) rfl (fun b2 w1 hb2 hz2 e1 => ?_)
  have z1 := e1.size
  have h2 := hz2.own
  have hl2 := h2.lt
  refine O.asg ?_
  refine O.nil ?_
  refine hK1 _ _ ?_
  refine C.seqK fun K2 hK2 => ?_
  refine C.region ?_
  refine O.fieldAd Tryz.underlying51 rfl Tryz.sizeOf3 (by decide) rfl ?_
  refine O.loadO Tryz.isAgg3 rfl h2 rfl ?_
  refine O.loadO Tryz.isAgg3 rfl (ho.keep e1) rfl ?_
  refine O.eqlI rfl rfl ?_
  refine O.asg ?_
  refine O.nil ?_
  refine hK2 _ _ ?_
  refine C.ret ?_
  refine Outs.one rfl rfl ?_
  exact ⟨rfl, e1⟩

theorem pred_get (bc : Nat) (r : Int) (M : Nat → Prop) (w : World) (ho : Own w bc 3 [.int .i64 r]) (hM : ¬ M bc) : Pred Tryz.prog M w (.func (.func 63) #[] #[.pointer (some ⟨bc, 0, none⟩)]) Dt.dv (fun d => decide (d.1 = r)) := ⟨63, [.pointer (some ⟨bc, 0, none⟩)], rfl, Tryz.call63, fun d w' e => get1_spec d bc r w' (ho.keepM e hM)⟩
theorem get_spec (v0 : Value) (l : List Dt.Dot) (F : Nat → Prop) (r : Int) (w : World) (hl : Sl Dt.dotF.enc w F v0 l) :
    Ret Tryz.prog 41 #[v0, .int .i64 (r)] w (fun v w' => v = .int .i64 (Cn.get l r) ∧ Le w w') := by
  have hle := hl.le
  have hge := Cn.idx_ge (p := fun d : Dt.Dot => decide (d.1 = r)) l
  refine enter (args := [v0, .int .i64 (r)]) (n := 16) Tryz.func41 rfl rfl (Nat.le_of_ble_eq_true rfl) ?_
  refine C.seqK fun K1 hK1 => ?_
  refine C.region ?_
  refine O.box (v := .int .i64 (r)) rfl (fun b3 w1 hb3 hz3 e1 => ?_)
  have z1 := e1.size
  have h3 := hz3.own
  have hl3 := h3.lt
  refine O.asg ?_
  refine O.nil ?_
  refine hK1 _ _ ?_
  refine C.seqK fun K2 hK2 => ?_
  refine C.region ?_
  refine O.mv ?_
  refine O.makeF (v1 := []) rfl rfl ?_
  refine O.call Tryz.call62 (args2 rfl rfl) (indexV_spec _ _ _ _ (fun _ => False) _ _ (hl.keep e1) (pred_get b3 r _ _ h3 not_false)) ?_
  rintro v_8 w2 ⟨rfl, e2⟩
  have z2 := e2.size
  refine O.asg ?_
  refine O.nil ?_
  refine hK2 _ _ ?_
  refine C.seqK fun K3 hK3 => ?_
  refine C.seqK fun K4 hK4 => ?_
  refine C.region ?_
  refine O.mv ?_
  refine O.lssI rfl rfl ?_
  refine O.nil ?_
  refine hK4 _ _ ?_
  refine C.condD rfl (fun c10 => ?_) (fun c10 => ?_)
  ·
    refine C.seqK fun K5 hK5 => ?_
    refine C.region ?_
    refine O.asg ?_
    refine O.nil ?_
    refine hK5 _ _ ?_
    refine C.ret ?_
    refine Outs.one rfl rfl ?_
    first
    | exact ⟨congrArg (Value.int .i64) (Cn.get_no c10).symm, (Ext.trans e1 e2)⟩
    | (obtain ⟨hk, q⟩ := Cn.get_yes2 c10
       exact ⟨congrArg (Value.int .i64) q.symm, (Ext.trans e1 e2)⟩)
  ·
    refine C.skip ?_
    refine hK3 _ _ ?_
    refine C.seqK fun K6 hK6 => ?_
    refine C.region ?_
    refine O.mv ?_
    refine O.mv ?_
    refine O.idx Tryz.underlying23 Tryz.sizeOf51 rfl rfl ((hl.keep e1).keep e2) rfl ⟨by omega, by have := Cn.idx_lt (p := fun d : Dt.Dot => decide (d.1 = r)) (l := l) (by omega); omega⟩ (fun a13 h13 => ?_)
    refine O.fieldAt Tryz.underlying51 rfl Tryz.sizeOf3 (by decide) rfl ?_
    refine O.loadAtF (G := Dt.dotF) Tryz.isAgg3 rfl rfl h13 ?_
    refine O.asg ?_
    refine O.nil ?_
    refine hK6 _ _ ?_
    refine C.ret ?_
    refine Outs.one rfl rfl ?_
    first
    | exact ⟨congrArg (Value.int .i64) (Cn.get_no c10).symm, (Ext.trans e1 e2)⟩
    | (obtain ⟨hk, q⟩ := Cn.get_yes2 c10
       exact ⟨congrArg (Value.int .i64) q.symm, (Ext.trans e1 e2)⟩)

theorem cvalid_spec (v0 : Value) (l : List Dt.Dot) (F : Nat → Prop) (w : World) (hl : Sl Dt.dotF.enc w F v0 l) :
    Ret Tryz.prog 66 #[v0] w (fun v w' => v = .bool (!l.any Cn.badD) ∧ Le w w') := by
  refine enter (args := [v0]) (n := 6) Tryz.func66 rfl rfl (Nat.le_of_ble_eq_true rfl) ?_
  refine C.seqK fun K1 hK1 => ?_
  refine C.region ?_
  refine O.asg ?_
  refine O.nil ?_
  refine hK1 _ _ ?_
  refine C.seqK fun K2 hK2 => ?_
  refine C.region ?_
  refine O.mv ?_
  refine O.call Tryz.call43 (args2 rfl rfl) (containsD_spec _ _ _ _ _ _ _ hl (pred_cbad (fun _ => False) _)) ?_
  rintro v_4 w1 ⟨rfl, e1⟩
  have z1 := e1.size
  refine O.not rfl ?_
  refine O.asg ?_
  refine O.nil ?_
  refine hK2 _ _ ?_
  refine C.ret ?_
  refine Outs.one rfl rfl ?_
  exact ⟨rfl, e1⟩

theorem ctxValid_spec (v1 v2 : Value) (x : Cn.Ctx) (F : Nat → Prop) (w : World) (hv : Sl Dt.dotF.enc w F v1 x.1) (hc : Sl Dt.dotF.enc w F v2 x.2) :
    Ret Tryz.prog 42 #[.agg #[v1, v2]] w (fun v w' => v = .bool (Cn.ctxValid x) ∧ Le w w') := by
  refine enter (args := [.agg #[v1, v2]]) (n := 16) Tryz.func42 rfl rfl (Nat.le_of_ble_eq_true rfl) ?_
  refine C.seqK fun K1 hK1 => ?_
  refine C.region ?_
  refine O.box (v := .agg #[v1, v2]) rfl (fun b1 w1 hb1 hz1 e1 => ?_)
  have z1 := e1.size
  have h1 := hz1.own
  have hl1 := h1.lt
  refine O.asg ?_
  refine O.nil ?_
  refine hK1 _ _ ?_
  refine C.seqK fun K2 hK2 => ?_
  refine C.region ?_
  refine O.fieldAd Tryz.underlying25 rfl Tryz.sizeOf23 (by decide) rfl ?_
  refine O.loadO Tryz.isAgg23 rfl h1 rfl ?_
  refine O.call Tryz.call64 (args1 rfl) (vecValid_spec _ _ _ _ (hv.keep e1)) ?_
  rintro v_5 w2 ⟨rfl, e2⟩
  have z2 := e2.size
  refine O.mv ?_
  refine O.split (x := .tmp 6) rfl (fun c6 => ?_) (fun c6 => ?_)
  ·
    refine O.yes rfl (isT' rfl c6) ?_
    refine O.fieldAd Tryz.underlying25 rfl Tryz.sizeOf22 (by decide) rfl ?_
    refine O.yes rfl (isT' rfl c6) ?_
    refine O.loadO Tryz.isAgg22 rfl (h1.keep e2) rfl ?_
    refine O.yes rfl (isT' rfl c6) ?_
    refine O.call Tryz.call65 (args1 rfl) (isSet_spec _ _ _ _ ((hc.keep e1).keep e2)) ?_
    rintro v_9 w3 ⟨rfl, e3⟩
    have z3 := e3.size
    refine O.pickT (isT' rfl c6) ?_
    refine O.mv ?_
    refine O.split (x := .tmp 11) rfl (fun c11 => ?_) (fun c11 => ?_)
    ·
      refine O.yes rfl (isT' rfl c11) ?_
      refine O.fieldAd Tryz.underlying25 rfl Tryz.sizeOf22 (by decide) rfl ?_
      refine O.yes rfl (isT' rfl c11) ?_
      refine O.loadO Tryz.isAgg22 rfl ((h1.keep e2).keep e3) rfl ?_
      refine O.yes rfl (isT' rfl c11) ?_
      refine O.call Tryz.call66 (args1 rfl) (cvalid_spec _ _ _ _ (((hc.keep e1).keep e2).keep e3)) ?_
      rintro v_14 w4 ⟨rfl, e4⟩
      have z4 := e4.size
      refine O.pickT (isT' rfl c11) ?_
      refine O.asg ?_
      refine O.nil ?_
      refine hK2 _ _ ?_
      refine C.ret ?_
      refine Outs.one rfl rfl ?_
      refine ⟨congrArg Value.bool ?_, (Ext.trans (Ext.trans (Ext.trans e1 e2) e3) e4)⟩
      unfold Cn.ctxValid
      first
      | (rw [c6]; rfl)
      | (rw [c6, c11]; rfl)
    ·
      refine O.no rfl (noB (isF' rfl c11) rfl) ?_
      refine O.no rfl (noB (isF' rfl c11) rfl) ?_
      refine O.no rfl (noB (isF' rfl c11) rfl) ?_
      refine O.pickF (isF' rfl c11) ?_
      refine O.asg ?_
      refine O.nil ?_
      refine hK2 _ _ ?_
      refine C.ret ?_
      refine Outs.one rfl rfl ?_
      refine ⟨congrArg Value.bool ?_, (Ext.trans (Ext.trans e1 e2) e3)⟩
      unfold Cn.ctxValid
      first
      | (rw [c6]; rfl)
      | (rw [c6, c11]; rfl)
  ·
    refine O.no rfl (noB (isF' rfl c6) rfl) ?_
    refine O.no rfl (noB (isF' rfl c6) rfl) ?_
    refine O.no rfl (noB (isF' rfl c6) rfl) ?_
    refine O.pickF (isF' rfl c6) ?_
    refine O.mv ?_
    refine O.no rfl (noB rfl rfl) ?_
    refine O.no rfl (noB rfl rfl) ?_
    refine O.no rfl (noB rfl rfl) ?_
    refine O.pickF rfl ?_
    refine O.asg ?_
    refine O.nil ?_
    refine hK2 _ _ ?_
    refine C.ret ?_
    refine Outs.one rfl rfl ?_
    refine ⟨congrArg Value.bool ?_, (Ext.trans e1 e2)⟩
    unfold Cn.ctxValid
    first
    | (rw [c6]; rfl)
    | (rw [c6, c11]; rfl)

theorem near_spec (d : Dt.Dot) (bc : Nat) (v1 v2 : Value) (x : Cn.Ctx) (F : Nat → Prop) (w : World) (ho : Own w bc 25 [v1, v2]) (hv : Sl Dt.dotF.enc w F v1 x.1) (hg : ∀ r, 0 ≤ Cn.get x.1 r ∧ Cn.get x.1 r ≤ 4294967295) :
    Ret Tryz.prog 40 #[Dt.dv (d), .pointer (some ⟨bc, 0, none⟩)] w (fun v w' => v = .bool (Cn.near x.1 d) ∧ Le w w') := by
  refine enter (args := [Dt.dv (d), .pointer (some ⟨bc, 0, none⟩)]) (n := 13) Tryz.func40 rfl rfl (Nat.le_of_ble_eq_true rfl) ?_
  refine C.seqK fun K1 hK1 => ?_
  refine C.region ?_
  refine O.box (v := Dt.dv (d)) rfl (fun b2 w1 hb2 hz2 e1 => ?_)
  have z1 := e1.size
  have h2 := hz2.own
  have hl2 := h2.lt
  refine O.asg ?_
  refine O.nil ?_
  refine hK1 _ _ ?_
  refine C.seqK fun K2 hK2 => ?_
  refine C.draw (by kernel_rfl) fun w2 e2 => ?_
  have z2 := e2.size
  refine D.take (i := 0) rfl rfl rfl rfl (by kernel_rfl) (Le.refl _) ⟨_, rfl⟩ (fun w_ hw_ N_ hN => (O.fieldAd Tryz.underlying51 rfl Tryz.sizeOf3 (by decide) rfl (O.nil hN))) ?_
  refine D.take (i := 1) rfl rfl rfl rfl (by kernel_rfl) (Le.refl _) ⟨_, rfl⟩ (fun w_ hw_ N_ hN => (O.loadO Tryz.isAgg3 rfl ((h2.keep e2).keep hw_) rfl (O.nil hN))) ?_
  refine D.take (i := 2) rfl rfl rfl rfl (by kernel_rfl) (Le.refl _) ⟨_, rfl⟩ (fun w_ hw_ N_ hN => (O.fieldAd Tryz.underlying25 rfl Tryz.sizeOf23 (by decide) rfl (O.nil hN))) ?_
  refine D.take (i := 3) rfl rfl rfl rfl (by kernel_rfl) (Le.refl _) ⟨_, rfl⟩ (fun w_ hw_ N_ hN => (O.loadO Tryz.isAgg23 rfl (((ho.keep e1).keep e2).keep hw_) rfl (O.nil hN))) ?_
  refine D.take (i := 4) rfl rfl rfl rfl (by kernel_rfl) (Le.refl _) ⟨_, rfl⟩ (fun w_ hw_ N_ hN => (O.fieldAd Tryz.underlying51 rfl Tryz.sizeOf3 (by decide) rfl (O.nil hN))) ?_
  refine D.take (i := 5) rfl rfl rfl rfl (by kernel_rfl) (Le.refl _) ⟨_, rfl⟩ (fun w_ hw_ N_ hN => (O.loadO Tryz.isAgg3 rfl ((h2.keep e2).keep hw_) rfl (O.nil hN))) ?_
  refine D.one (i := 6) rfl rfl (by kernel_rfl) ?_
  refine O.call Tryz.call41 (args2 rfl rfl) (get_spec _ x.1 _ d.1 _ ((hv.keep e1).keep e2)) ?_
  rintro v_10 w3 ⟨rfl, e3⟩
  have z3 := e3.size
  refine O.nil ⟨e3, ?_⟩
  have hgd := hg d.1
  refine D.take (i := 7) rfl rfl rfl rfl (by kernel_rfl) e3 ⟨_, rfl⟩ (fun w_ hw_ N_ hN => (O.addI rfl rfl (by unfold InI; omega) (O.nil hN))) ?_
  refine D.take (i := 8) rfl rfl rfl rfl (by kernel_rfl) e3 ⟨_, rfl⟩ (fun w_ hw_ N_ hN => (O.leqI rfl rfl (O.nil hN))) ?_
  refine D.take (i := 9) rfl rfl rfl rfl (by kernel_rfl) e3 ⟨pure _, rfl⟩ (fun w_ hw_ N_ hN => (O.asg (O.nil hN))) ?_
  refine D.done (by kernel_rfl) ?_
  refine hK2 _ _ ?_
  refine C.ret ?_
  refine Outs.one rfl rfl ?_
  exact ⟨rfl, (Ext.trans (Ext.trans e1 e2) e3)⟩

theorem pred_near (bc : Nat) (v1 v2 : Value) (x : Cn.Ctx) (F M : Nat → Prop) (w : World) (ho : Own w bc 25 [v1, v2]) (hv : Sl Dt.dotF.enc w F v1 x.1) (hg : ∀ r, 0 ≤ Cn.get x.1 r ∧ Cn.get x.1 r ≤ 4294967295) (hM : ¬ M bc) (hF : ∀ k, F k → ¬ M k) : Pred Tryz.prog M w (.func (.func 40) #[] #[.pointer (some ⟨bc, 0, none⟩)]) Dt.dv (Cn.near x.1) := ⟨40, [.pointer (some ⟨bc, 0, none⟩)], rfl, Tryz.call40, fun d w' e => near_spec d bc v1 v2 x F w' (ho.keepM e hM) (hv.keepM e hF) hg⟩
theorem isCompact_spec (v1 v2 : Value) (x : Cn.Ctx) (F : Nat → Prop) (w : World) (hv : Sl Dt.dotF.enc w F v1 x.1) (hc : Sl Dt.dotF.enc w F v2 x.2) :
    Ret Tryz.prog 17 #[.agg #[v1, v2]] w (fun v w' => v = .bool (Cn.isCompact x) ∧ Le w w') := by
  refine enter (args := [.agg #[v1, v2]]) (n := 14) Tryz.func17 rfl rfl (Nat.le_of_ble_eq_true rfl) ?_
  refine C.seqK fun K1 hK1 => ?_
  refine C.region ?_
  refine O.box (v := .agg #[v1, v2]) rfl (fun b1 w1 hb1 hz1 e1 => ?_)
  have z1 := e1.size
  have h1 := hz1.own
  have hl1 := h1.lt
  refine O.asg ?_
  refine O.nil ?_
  refine hK1 _ _ ?_
  refine C.seqK fun K2 hK2 => ?_
  refine C.region ?_
  refine O.makeF (v1 := []) rfl rfl ?_
  refine O.asg ?_
  refine O.nil ?_
  refine hK2 _ _ ?_
  refine C.seqK fun K3 hK3 => ?_
  refine C.region ?_
  refine O.loadOA Tryz.isAgg25 Tryz.sizeOf25 rfl h1 (Nat.le_of_ble_eq_true rfl) ?_
  refine O.call Tryz.call42 (args1 rfl) (ctxValid_spec v1 v2 x F _ (hv.keep e1) (hc.keep e1)) ?_
  rintro v_6 w2 ⟨rfl, e2⟩
  have z2 := e2.size
  refine O.mv ?_
  refine O.split (x := .tmp 7) rfl (fun c7 => ?_) (fun c7 => ?_)
  ·
    refine O.yes rfl (isT' rfl c7) ?_
    refine O.fieldAd Tryz.underlying25 rfl Tryz.sizeOf22 (by decide) rfl ?_
    refine O.yes rfl (isT' rfl c7) ?_
    refine O.loadO Tryz.isAgg22 rfl (h1.keep e2) rfl ?_
    refine O.yes rfl (isT' rfl c7) ?_
    refine O.mv ?_
    refine O.yes rfl (isT' rfl c7) ?_
    refine O.call Tryz.call43 (args2 rfl rfl) (containsD_spec _ _ _ _ (fun _ => False) _ _ ((hc.keep e1).keep e2) (pred_near b1 v1 v2 x F _ _ (h1.keep e2) ((hv.keep e1).keep e2) (Cn.get_bound c7) not_false (fun _ _ => not_false))) ?_
    rintro v_11 w3 ⟨rfl, e3⟩
    have z3 := e3.size
    refine O.yes rfl (isT' rfl c7) ?_
    refine O.not rfl ?_
    refine O.pickT (isT' rfl c7) ?_
    refine O.asg ?_
    refine O.nil ?_
    refine hK3 _ _ ?_
    refine C.ret ?_
    refine Outs.one rfl rfl ?_
    refine ⟨congrArg Value.bool ?_, (Ext.trans (Ext.trans e1 e2) e3)⟩
    unfold Cn.isCompact
    rw [c7]
    rfl
  ·
    refine O.no rfl (noB (isF' rfl c7) rfl) ?_
    refine O.no rfl (noB (isF' rfl c7) rfl) ?_
    refine O.no rfl (noB (isF' rfl c7) rfl) ?_
    refine O.no rfl (noB (isF' rfl c7) rfl) ?_
    refine O.no rfl (noB (isF' rfl c7) rfl) ?_
    refine O.pickF (isF' rfl c7) ?_
    refine O.asg ?_
    refine O.nil ?_
    refine hK3 _ _ ?_
    refine C.ret ?_
    refine Outs.one rfl rfl ?_
    refine ⟨congrArg Value.bool ?_, (Ext.trans e1 e2)⟩
    unfold Cn.isCompact
    rw [c7]
    rfl

theorem vecHas_spec (v0 : Value) (l : List Dt.Dot) (F : Nat → Prop) (d : Dt.Dot) (w : World) (hl : Sl Dt.dotF.enc w F v0 l) :
    Ret Tryz.prog 100 #[v0, Dt.dv (d)] w (fun v w' => v = .bool (Cn.vecHas l d) ∧ Le w w') := by
  refine enter (args := [v0, Dt.dv (d)]) (n := 16) Tryz.func100 rfl rfl (Nat.le_of_ble_eq_true rfl) ?_
  refine C.seqK fun K1 hK1 => ?_
  refine C.region ?_
  refine O.box (v := Dt.dv (d)) rfl (fun b3 w1 hb3 hz3 e1 => ?_)
  have z1 := e1.size
  have h3 := hz3.own
  have hl3 := h3.lt
  refine O.asg ?_
  refine O.nil ?_
  refine hK1 _ _ ?_
  refine C.seqK fun K2 hK2 => ?_
  refine C.draw (by kernel_rfl) fun w2 e2 => ?_
  have z2 := e2.size
  refine D.take (i := 0) rfl rfl rfl rfl (by kernel_rfl) (Le.refl _) ⟨_, rfl⟩ (fun w_ hw_ N_ hN => (O.loadOA Tryz.isAgg51 Tryz.sizeOf51 rfl ((h3.keep e2).keep hw_) (Nat.le_of_ble_eq_true rfl) (O.nil hN))) ?_
  refine D.one (i := 1) rfl rfl (by kernel_rfl) ?_
  refine O.call Tryz.call91 (args1 rfl) (valid_spec d _) ?_
  rintro v_6 w3 ⟨rfl, e3⟩
  have z3 := e3.size
  refine O.nil ⟨e3, ?_⟩
  refine D.take (i := 2) rfl rfl rfl rfl (by kernel_rfl) e3 ⟨pure _, rfl⟩ (fun w_ hw_ N_ hN => (O.mv (O.nil hN))) ?_
  refine D.splitD (x := .tmp 7) rfl (fun c7 => ?_) (fun c7 => ?_)
  ·
    refine D.takeYes (i := 3) rfl rfl rfl (by kernel_rfl) rfl (isT rfl c7) e3 ⟨_, rfl⟩ (fun w_ hw_ N_ hN => (O.fieldAd Tryz.underlying51 rfl Tryz.sizeOf3 (by decide) rfl (O.nil hN))) ?_
    refine D.takeYes (i := 4) rfl rfl rfl (by kernel_rfl) rfl (isT rfl c7) e3 ⟨_, rfl⟩ (fun w_ hw_ N_ hN => (O.loadO Tryz.isAgg3 rfl ((h3.keep e2).keep hw_) rfl (O.nil hN))) ?_
    refine D.takeYes (i := 5) rfl rfl rfl (by kernel_rfl) rfl (isT rfl c7) e3 ⟨pure _, rfl⟩ (fun w_ hw_ N_ hN => (O.mv (O.nil hN))) ?_
    refine D.takeYes (i := 6) rfl rfl rfl (by kernel_rfl) rfl (isT rfl c7) e3 ⟨_, rfl⟩ (fun w_ hw_ N_ hN => (O.fieldAd Tryz.underlying51 rfl Tryz.sizeOf3 (by decide) rfl (O.nil hN))) ?_
    refine D.takeYes (i := 7) rfl rfl rfl (by kernel_rfl) rfl (isT rfl c7) e3 ⟨_, rfl⟩ (fun w_ hw_ N_ hN => (O.loadO Tryz.isAgg3 rfl ((h3.keep e2).keep hw_) rfl (O.nil hN))) ?_
    refine D.oneYes (i := 8) rfl rfl (isT rfl c7) (by kernel_rfl) ?_
    refine O.call Tryz.call41 (args2 rfl rfl) (get_spec _ l _ d.1 _ (((hl.keep e1).keep e2).keep e3)) ?_
    rintro v_13 w4 ⟨rfl, e4⟩
    have z4 := e4.size
    refine O.nil ⟨(Ext.trans e3 e4), ?_⟩
    refine D.takeYes (i := 9) rfl rfl rfl (by kernel_rfl) rfl (isT rfl c7) (Ext.trans e3 e4) ⟨_, rfl⟩ (fun w_ hw_ N_ hN => (O.leqI rfl rfl (O.nil hN))) ?_
    refine D.take (i := 10) rfl rfl rfl rfl (by kernel_rfl) (Ext.trans e3 e4) pick_form (fun w_ hw_ N_ hN => (O.pickT (isT rfl c7) (O.nil hN))) ?_
    refine D.take (i := 11) rfl rfl rfl rfl (by kernel_rfl) (Ext.trans e3 e4) ⟨pure _, rfl⟩ (fun w_ hw_ N_ hN => (O.asg (O.nil hN))) ?_
    refine D.done (by kernel_rfl) ?_
    refine hK2 _ _ ?_
    refine C.ret ?_
    refine Outs.one rfl rfl ?_
    refine ⟨congrArg Value.bool ?_, (Ext.trans (Ext.trans (Ext.trans e1 e2) e3) e4)⟩
    unfold Cn.vecHas Cn.okD
    first
    | (rw [decide_eq_true c7]; rfl)
    | (rw [decide_eq_false c7]; rfl)
  ·
    refine D.takeNo (i := 3) rfl rfl (by kernel_rfl) e3 rfl (noB (isF rfl c7) rfl) ?_
    refine D.takeNo (i := 4) rfl rfl (by kernel_rfl) e3 rfl (noB (isF rfl c7) rfl) ?_
    refine D.takeNo (i := 5) rfl rfl (by kernel_rfl) e3 rfl (noB (isF rfl c7) rfl) ?_
    refine D.takeNo (i := 6) rfl rfl (by kernel_rfl) e3 rfl (noB (isF rfl c7) rfl) ?_
    refine D.takeNo (i := 7) rfl rfl (by kernel_rfl) e3 rfl (noB (isF rfl c7) rfl) ?_
    refine D.takeNo (i := 8) rfl rfl (by kernel_rfl) e3 rfl (noB (isF rfl c7) rfl) ?_
    refine D.takeNo (i := 9) rfl rfl (by kernel_rfl) e3 rfl (noB (isF rfl c7) rfl) ?_
    refine D.take (i := 10) rfl rfl rfl rfl (by kernel_rfl) e3 pick_form (fun w_ hw_ N_ hN => (O.pickF (isF rfl c7) (O.nil hN))) ?_
    refine D.take (i := 11) rfl rfl rfl rfl (by kernel_rfl) e3 ⟨pure _, rfl⟩ (fun w_ hw_ N_ hN => (O.asg (O.nil hN))) ?_
    refine D.done (by kernel_rfl) ?_
    refine hK2 _ _ ?_
    refine C.ret ?_
    refine Outs.one rfl rfl ?_
    refine ⟨congrArg Value.bool ?_, (Ext.trans (Ext.trans e1 e2) e3)⟩
    unfold Cn.vecHas Cn.okD
    first
    | (rw [decide_eq_true c7]; rfl)
    | (rw [decide_eq_false c7]; rfl)

theorem ctxHas_spec (v1 v2 : Value) (x : Cn.Ctx) (F : Nat → Prop) (d : Dt.Dot) (w : World) (hv : Sl Dt.dotF.enc w F v1 x.1) (hc : Sl Dt.dotF.enc w F v2 x.2) :
    Ret Tryz.prog 72 #[.agg #[v1, v2], Dt.dv (d)] w (fun v w' => v = .bool (Cn.ctxHas x d) ∧ Le w w') := by
  refine enter (args := [.agg #[v1, v2], Dt.dv (d)]) (n := 19) Tryz.func72 rfl rfl (Nat.le_of_ble_eq_true rfl) ?_
  refine C.seqK fun K1 hK1 => ?_
  refine C.region ?_
  refine O.box (v := .agg #[v1, v2]) rfl (fun b2 w1 hb2 hz2 e1 => ?_)
  have z1 := e1.size
  have h2 := hz2.own
  have hl2 := h2.lt
  refine O.box (v := Dt.dv (d)) rfl (fun b3 w2 hb3 hz3 e2 => ?_)
  have z2 := e2.size
  have h3 := hz3.own
  have hl3 := h3.lt
  refine O.asg ?_
  refine O.nil ?_
  refine hK1 _ _ ?_
  refine C.seqK fun K2 hK2 => ?_
  refine C.region ?_
  refine O.fieldAd Tryz.underlying25 rfl Tryz.sizeOf23 (by decide) rfl ?_
  refine O.loadO Tryz.isAgg23 rfl (h2.keep e2) rfl ?_
  refine O.loadOA Tryz.isAgg51 Tryz.sizeOf51 rfl h3 (Nat.le_of_ble_eq_true rfl) ?_
  refine O.call Tryz.call100 (args2 rfl rfl) (vecHas_spec _ x.1 _ d _ ((hv.keep e1).keep e2)) ?_
  rintro v_8 w3 ⟨rfl, e3⟩
  have z3 := e3.size
  refine O.mv ?_
  refine O.split (x := .tmp 9) rfl (fun c9 => ?_) (fun c9 => ?_)
  ·
    refine O.no rfl (noB (isT' rfl c9) rfl) ?_
    refine O.no rfl (noB (isT' rfl c9) rfl) ?_
    refine O.no rfl (noB (isT' rfl c9) rfl) ?_
    refine O.no rfl (noU rfl) ?_
    refine O.no rfl (noU rfl) ?_
    refine O.no rfl (noU rfl) ?_
    refine O.no rfl (noU rfl) ?_
    refine O.no rfl (noB (isT' rfl c9) rfl) ?_
    refine O.pickT (isT' rfl c9) ?_
    refine O.asg ?_
    refine O.nil ?_
    refine hK2 _ _ ?_
    refine C.ret ?_
    refine Outs.one rfl rfl ?_
    refine ⟨congrArg Value.bool ?_, (Ext.trans (Ext.trans e1 e2) e3)⟩
    unfold Cn.ctxHas Cn.okD
    first
    | (rw [c9]; rfl)
    | (rw [c9, decide_eq_true c12]; rfl)
    | (rw [c9, decide_eq_false c12]; rfl)
  ·
    refine O.yes rfl (isF' rfl c9) ?_
    refine O.loadOA Tryz.isAgg51 Tryz.sizeOf51 rfl (h3.keep e3) (Nat.le_of_ble_eq_true rfl) ?_
    refine O.yes rfl (isF' rfl c9) ?_
    refine O.call Tryz.call91 (args1 rfl) (valid_spec d _) ?_
    rintro v_11 w4 ⟨rfl, e4⟩
    have z4 := e4.size
    refine O.yes rfl (isF' rfl c9) ?_
    refine O.mv ?_
    refine O.splitD (x := .tmp 12) rfl (fun c12 => ?_) (fun c12 => ?_)
    ·
      refine O.yes rfl (isT rfl c12) ?_
      refine O.fieldAd Tryz.underlying25 rfl Tryz.sizeOf22 (by decide) rfl ?_
      refine O.yes rfl (isT rfl c12) ?_
      refine O.loadO Tryz.isAgg22 rfl (((h2.keep e2).keep e3).keep e4) rfl ?_
      refine O.yes rfl (isT rfl c12) ?_
      refine O.loadOA Tryz.isAgg51 Tryz.sizeOf51 rfl ((h3.keep e3).keep e4) (Nat.le_of_ble_eq_true rfl) ?_
      refine O.yes rfl (isT rfl c12) ?_
      refine O.call Tryz.call101 (args2 rfl rfl) (has_spec _ x.2 _ d _ ((((hc.keep e1).keep e2).keep e3).keep e4)) ?_
      rintro v_16 w5 ⟨rfl, e5⟩
      have z5 := e5.size
      refine O.yes rfl (isF' rfl c9) ?_
      refine O.pickT (isT rfl c12) ?_
      refine O.pickF (isF' rfl c9) ?_
      refine O.asg ?_
      refine O.nil ?_
      refine hK2 _ _ ?_
      refine C.ret ?_
      refine Outs.one rfl rfl ?_
      refine ⟨congrArg Value.bool ?_, (Ext.trans (Ext.trans (Ext.trans (Ext.trans e1 e2) e3) e4) e5)⟩
      unfold Cn.ctxHas Cn.okD
      first
      | (rw [c9]; rfl)
      | (rw [c9, decide_eq_true c12]; rfl)
      | (rw [c9, decide_eq_false c12]; rfl)
    ·
      refine O.no rfl (noB (isF rfl c12) rfl) ?_
      refine O.no rfl (noB (isF rfl c12) rfl) ?_
      refine O.no rfl (noB (isF rfl c12) rfl) ?_
      refine O.no rfl (noB (isF rfl c12) rfl) ?_
      refine O.yes rfl (isF' rfl c9) ?_
      refine O.pickF (isF rfl c12) ?_
      refine O.pickF (isF' rfl c9) ?_
      refine O.asg ?_
      refine O.nil ?_
      refine hK2 _ _ ?_
      refine C.ret ?_
      refine Outs.one rfl rfl ?_
      refine ⟨congrArg Value.bool ?_, (Ext.trans (Ext.trans (Ext.trans e1 e2) e3) e4)⟩
      unfold Cn.ctxHas Cn.okD
      first
      | (rw [c9]; rfl)
      | (rw [c9, decide_eq_true c12]; rfl)
      | (rw [c9, decide_eq_false c12]; rfl)

theorem miss1_spec (d : Dt.Dot) (bc : Nat) (v1 v2 : Value) (x : Cn.Ctx) (F : Nat → Prop) (w : World) (ho : Own w bc 25 [v1, v2]) (hv : Sl Dt.dotF.enc w F v1 x.1) (hc : Sl Dt.dotF.enc w F v2 x.2) :
    Ret Tryz.prog 71 #[Dt.dv (d), .pointer (some ⟨bc, 0, none⟩)] w (fun v w' => v = .bool (Cn.ctxHas x d) ∧ Le w w') := by
  refine enter (args := [Dt.dv (d), .pointer (some ⟨bc, 0, none⟩)]) (n := 7) Tryz.func71 rfl rfl (Nat.le_of_ble_eq_true rfl) ?_
  refine C.seqK fun K1 hK1 => ?_
  refine C.region ?_
  refine O.box (v := Dt.dv (d)) rfl (fun b2 w1 hb2 hz2 e1 => ?_)
  have z1 := e1.size
  have h2 := hz2.own
  have hl2 := h2.lt
  refine O.asg ?_
  refine O.nil ?_
  refine hK1 _ _ ?_
  refine C.seqK fun K2 hK2 => ?_
  refine C.region ?_
  refine O.loadOA Tryz.isAgg25 Tryz.sizeOf25 rfl (ho.keep e1) (Nat.le_of_ble_eq_true rfl) ?_
  refine O.loadOA Tryz.isAgg51 Tryz.sizeOf51 rfl h2 (Nat.le_of_ble_eq_true rfl) ?_
  refine O.call Tryz.call72 (args2 rfl rfl) (ctxHas_spec v1 v2 x F d _ (hv.keep e1) (hc.keep e1)) ?_
  rintro v_6 w2 ⟨rfl, e2⟩
  have z2 := e2.size
  refine O.asg ?_
  refine O.nil ?_
  refine hK2 _ _ ?_
  refine C.ret ?_
  refine Outs.one rfl rfl ?_
  exact ⟨rfl, (Ext.trans e1 e2)⟩

theorem pred_miss (bc : Nat) (v1 v2 : Value) (x : Cn.Ctx) (F M : Nat → Prop) (w : World) (ho : Own w bc 25 [v1, v2]) (hv : Sl Dt.dotF.enc w F v1 x.1) (hc : Sl Dt.dotF.enc w F v2 x.2) (hM : ¬ M bc) (hF : ∀ k, F k → ¬ M k) : Pred Tryz.prog M w (.func (.func 71) #[] #[.pointer (some ⟨bc, 0, none⟩)]) Dt.dv (Cn.ctxHas x) := ⟨71, [.pointer (some ⟨bc, 0, none⟩)], rfl, Tryz.call71, fun d w' e => miss1_spec d bc v1 v2 x F w' (ho.keepM e hM) (hv.keepM e hF) (hc.keepM e hF)⟩
end Go.Proofs.YtnkcmaoaagnopaaGreatDoor
end
section
/-
  The walks of marks, and of lists of dots compared. Conditions: slices as they lie in memory.
-/
namespace Go.Proofs.YtnkcmaoaagnopaaGreatDoor
open Go.Pn Go.RowKit

theorem inf53 : ∃ ie, Tryz.prog.info? 53 = some ie ∧ ie.size = 4 ∧ ie.bytes = 32 ∧ ie.zero = some (.agg #[.int .i64 0, .int .i64 0, .int .i64 0, .int .u64 0]) := by
  have h : (Tryz.prog.info? 53).isSome = true := by kernel_rfl
  exact ⟨(Tryz.prog.info? 53).get h, (Option.some_get h).symm, by kernel_rfl, by kernel_rfl, by kernel_rfl⟩
theorem inf56 : ∃ ie, Tryz.prog.info? 56 = some ie ∧ ie.size = 2 ∧ ie.bytes = 40 ∧ ie.zero = some (.agg #[.string ⟨#[]⟩, .slice none 0 0]) := by
  have h : (Tryz.prog.info? 56).isSome = true := by kernel_rfl
  exact ⟨(Tryz.prog.info? 56).get h, (Option.some_get h).symm, by kernel_rfl, by kernel_rfl, by kernel_rfl⟩
theorem okQ_spec (q : Int) (w : World) :
    Ret Tryz.prog 116 #[.int .i64 (q)] w (fun v w' => v = .bool (decide (1 ≤ q ∧ q ≤ 2147483647)) ∧ Le w w') := by
  refine enter (args := [.int .i64 (q)]) (n := 9) Tryz.func116 rfl rfl (Nat.le_of_ble_eq_true rfl) ?_
  refine C.seqK fun K1 hK1 => ?_
  refine C.region ?_
  refine O.asg ?_
  refine O.nil ?_
  refine hK1 _ _ ?_
  refine C.seqK fun K2 hK2 => ?_
  refine C.region ?_
  refine O.mv ?_
  refine O.geqI rfl rfl ?_
  refine O.mv ?_
  refine O.cut 3 (fun f f' => f' 8 = .bool (decide (1 ≤ q ∧ q ≤ 2147483647))) ?_ ?_
  ·
    refine O.splitD (x := .tmp 5) rfl (fun c5 => ?_) (fun c5 => ?_)
    ·
      refine O.yes rfl (isT rfl c5) ?_
      refine O.mv ?_
      refine O.yes rfl (isT rfl c5) ?_
      refine O.leqI rfl rfl ?_
      refine O.pickT (isT rfl c5) ?_
      refine O.nil ?_
      refine ⟨?_, rfl⟩
      first | exact rfl | exact Eq.trans rfl (congrArg Value.bool (dAnd (by assumption))) | exact Eq.trans rfl (congrArg Value.bool (dAndF (by assumption))) | exact Eq.trans rfl (congrArg Value.bool (dOr (by assumption))) | exact Eq.trans rfl (congrArg Value.bool (dOrT (by assumption)))
    ·
      refine O.no rfl (noB (isF rfl c5) rfl) ?_
      refine O.no rfl (noB (isF rfl c5) rfl) ?_
      refine O.pickF (isF rfl c5) ?_
      refine O.nil ?_
      refine ⟨?_, rfl⟩
      first | exact rfl | exact Eq.trans rfl (congrArg Value.bool (dAnd (by assumption))) | exact Eq.trans rfl (congrArg Value.bool (dAndF (by assumption))) | exact Eq.trans rfl (congrArg Value.bool (dOr (by assumption))) | exact Eq.trans rfl (congrArg Value.bool (dOrT (by assumption)))
  ·
    intro f_1 s8_1
    refine O.asg ?_
    refine O.nil ?_
    refine hK2 _ _ ?_
    refine C.ret ?_
    refine Outs.one rfl s8_1 ?_
    exact ⟨rfl, (Le.refl _)⟩

theorem okM_spec (m : MarkT) (w : World) :
    Ret Tryz.prog 96 #[mv (m)] w (fun v w' => v = .bool (Cn.okM m) ∧ Le w w') := by
  refine enter (args := [mv (m)]) (n := 16) Tryz.func96 rfl rfl (Nat.le_of_ble_eq_true rfl) ?_
  refine C.seqK fun K1 hK1 => ?_
  refine C.region ?_
  refine O.box (v := mv (m)) rfl (fun b1 w1 hb1 hz1 e1 => ?_)
  have z1 := e1.size
  have h1 := hz1.own
  have hl1 := h1.lt
  refine O.asg ?_
  refine O.nil ?_
  refine hK1 _ _ ?_
  refine C.seqK fun K2 hK2 => ?_
  refine C.region ?_
  refine O.fieldAd Tryz.underlying53 rfl Tryz.sizeOf51 (by decide) rfl ?_
  refine O.loadOA Tryz.isAgg51 Tryz.sizeOf51 rfl h1 (Nat.le_of_ble_eq_true rfl) ?_
  refine O.call Tryz.call91 (args1 rfl) (valid_spec m.1 _) ?_
  rintro v_5 w2 ⟨rfl, e2⟩
  have z2 := e2.size
  refine O.mv ?_
  refine O.splitD (x := .tmp 6) rfl (fun c6 => ?_) (fun c6 => ?_)
  ·
    refine O.yes rfl (isT rfl c6) ?_
    refine O.fieldAd Tryz.underlying53 rfl Tryz.sizeOf3 (by decide) rfl ?_
    refine O.yes rfl (isT rfl c6) ?_
    refine O.loadO Tryz.isAgg3 rfl (h1.keep e2) rfl ?_
    refine O.yes rfl (isT rfl c6) ?_
    refine O.call Tryz.call116 (args1 rfl) (okQ_spec m.2.1 _) ?_
    rintro v_9 w3 ⟨rfl, e3⟩
    have z3 := e3.size
    refine O.pickT (isT rfl c6) ?_
    refine O.mv ?_
    refine O.splitD (x := .tmp 11) rfl (fun c11 => ?_) (fun c11 => ?_)
    ·
      refine O.yes rfl (isT rfl c11) ?_
      refine O.fieldAd Tryz.underlying53 rfl Tryz.sizeOf49 (by decide) rfl ?_
      refine O.yes rfl (isT rfl c11) ?_
      refine O.loadO Tryz.isAgg49 rfl ((h1.keep e2).keep e3) rfl ?_
      refine O.yes rfl (isT rfl c11) ?_
      refine O.gtrU (m := 64) (b := 0#64) rfl rfl ?_
      refine O.pickT (isT rfl c11) ?_
      refine O.asg ?_
      refine O.nil ?_
      refine hK2 _ _ ?_
      refine C.ret ?_
      refine Outs.one rfl rfl ?_
      refine ⟨congrArg Value.bool ?_, (Ext.trans (Ext.trans e1 e2) e3)⟩
      unfold Cn.okM Cn.okD
      first
      | (rw [decide_eq_false c6]; rfl)
      | (rw [decide_eq_true c6, decide_eq_false c11]; rfl)
      | (rw [decide_eq_true c6, decide_eq_true c11]; rfl)
    ·
      refine O.no rfl (noB (isF rfl c11) rfl) ?_
      refine O.no rfl (noB (isF rfl c11) rfl) ?_
      refine O.no rfl (noB (isF rfl c11) rfl) ?_
      refine O.pickF (isF rfl c11) ?_
      refine O.asg ?_
      refine O.nil ?_
      refine hK2 _ _ ?_
      refine C.ret ?_
      refine Outs.one rfl rfl ?_
      refine ⟨congrArg Value.bool ?_, (Ext.trans (Ext.trans e1 e2) e3)⟩
      unfold Cn.okM Cn.okD
      first
      | (rw [decide_eq_false c6]; rfl)
      | (rw [decide_eq_true c6, decide_eq_false c11]; rfl)
      | (rw [decide_eq_true c6, decide_eq_true c11]; rfl)
  ·
    refine O.no rfl (noB (isF rfl c6) rfl) ?_
    refine O.no rfl (noB (isF rfl c6) rfl) ?_
    refine O.no rfl (noB (isF rfl c6) rfl) ?_
    refine O.pickF (isF rfl c6) ?_
    refine O.mv ?_
    refine O.no rfl (noB rfl rfl) ?_
    refine O.no rfl (noB rfl rfl) ?_
    refine O.no rfl (noB rfl rfl) ?_
    refine O.pickF rfl ?_
    refine O.asg ?_
    refine O.nil ?_
    refine hK2 _ _ ?_
    refine C.ret ?_
    refine Outs.one rfl rfl ?_
    refine ⟨congrArg Value.bool ?_, (Ext.trans e1 e2)⟩
    unfold Cn.okM Cn.okD
    first
    | (rw [decide_eq_false c6]; rfl)
    | (rw [decide_eq_true c6, decide_eq_false c11]; rfl)
    | (rw [decide_eq_true c6, decide_eq_true c11]; rfl)

theorem mbad_spec (m : MarkT) (w : World) :
    Ret Tryz.prog 95 #[mv (m)] w (fun v w' => v = .bool (Cn.badM m) ∧ Le w w') := by
  refine enter (args := [mv (m)]) (n := 6) Tryz.func95 rfl rfl (Nat.le_of_ble_eq_true rfl) ?_
  refine C.seqK fun K1 hK1 => ?_
  refine C.region ?_
  refine O.box (v := mv (m)) rfl (fun b1 w1 hb1 hz1 e1 => ?_)
  have z1 := e1.size
  have h1 := hz1.own
  have hl1 := h1.lt
  refine O.asg ?_
  refine O.nil ?_
  refine hK1 _ _ ?_
  refine C.seqK fun K2 hK2 => ?_
  refine C.region ?_
  refine O.loadOA Tryz.isAgg53 Tryz.sizeOf53 rfl h1 (Nat.le_of_ble_eq_true rfl) ?_
  refine O.call Tryz.call96 (args1 rfl) (okM_spec m _) ?_
  rintro v_4 w2 ⟨rfl, e2⟩
  have z2 := e2.size
  refine O.not rfl ?_
  refine O.asg ?_
  refine O.nil ?_
  refine hK2 _ _ ?_
  refine C.ret ?_
  refine Outs.one rfl rfl ?_
  exact ⟨rfl, (Ext.trans e1 e2)⟩

theorem pred_mbad (M : Nat → Prop) (w : World) : Pred Tryz.prog M w (.func (.func 95) #[] #[]) mv Cn.badM := ⟨95, [], rfl, Tryz.call95, fun d w' _ => mbad_spec d w'⟩
theorem indexM_spec (v0 vf : Value) (l : List MarkT) (F M : Nat → Prop) (p : MarkT → Bool) (w : World) (hl : Sl markF.enc w F v0 l) (hp : Pred Tryz.prog M w vf mv p) :
    Ret Tryz.prog 115 #[v0, vf] w (fun v w' => v = .int .i64 (Cn.idx p l) ∧ Le w w') := by
  have hle := hl.le
  refine enter (args := [v0, vf]) (n := 19) Tryz.func115 rfl rfl (Nat.le_of_ble_eq_true rfl) ?_
  refine C.seqK fun K1 hK1 => ?_
  refine C.region ?_
  refine O.asg ?_
  refine O.nil ?_
  refine hK1 _ _ ?_
  refine C.seqK fun K2 hK2 => ?_
  refine C.seqK fun K3 hK3 => ?_
  refine C.region ?_
  refine O.mv ?_
  refine O.len Tryz.underlying54 rfl hl ?_
  refine O.mv ?_
  refine O.nil ?_
  refine hK3 _ _ ?_
  refine C.block fun K4 hK4 => ?_
  refine C.loop0 (σ := Nat) (fun f0 w0 k f wz => f 8 = .int .i64 (k) ∧ f 0 = f0 0 ∧ f 1 = f0 1 ∧ f 7 = f0 7 ∧ Le w wz ∧ k ≤ l.length ∧ ∀ i, ∀ h : i < l.length, i < k → p l[i] = false) (fun k => l.length - k) 0 ?_ ?_
  ·
    refine ⟨rfl, rfl, rfl, rfl, (Le.refl _), ?_⟩
    exact ⟨Nat.zero_le _, fun i h k => absurd k (Nat.not_lt_zero _)⟩
  ·
    rintro k f_1 w1 ⟨s8_1, s0_1, s1_1, s7_1, e_1, ⟨hk, hI⟩⟩
    have z_1 := e_1.size
    refine C.seqK fun K5 hK5 => ?_
    refine C.region ?_
    refine O.lssI s8_1 s7_1 ?_
    refine O.nil ?_
    refine hK5 _ _ ?_
    refine C.seqK fun K6 hK6 => ?_
    refine C.condD rfl (fun c9 => ?_) (fun c9 => ?_)
    ·
      have hk2 : k < l.length := by omega
      refine C.skip ?_
      refine hK6 _ _ ?_
      refine C.seqK fun K7 hK7 => ?_
      refine C.block fun K8 hK8 => ?_
      refine C.seqK fun K9 hK9 => ?_
      refine C.region ?_
      refine O.mv ?_
      refine O.asg ?_
      refine O.nil ?_
      refine hK9 _ _ ?_
      refine C.seqK fun K10 hK10 => ?_
      refine C.region ?_
      refine O.mv ?_
      refine O.mv ?_
      refine O.mv ?_
      refine O.idx Tryz.underlying54 Tryz.sizeOf53 rfl s0_1 (hl.keep e_1) s8_1 (by omega) (fun a14 h14 => ?_)
      refine O.loadG (G := markF) Tryz.isAgg53 Tryz.sizeOf53 rfl h14 ?_
      refine O.callP (_) (hp.keep e_1) s1_1 rfl (fun w2 e2 => ?_)
      have z2 := e2.size
      refine O.nil ?_
      refine hK10 _ _ ?_
      refine C.cond rfl (fun c16 => ?_) (fun c16 => ?_)
      ·
        simp only [Int.toNat_natCast] at c16
        refine C.seqK fun K11 hK11 => ?_
        refine C.region ?_
        refine O.mv ?_
        refine O.asg ?_
        refine O.nil ?_
        refine hK11 _ _ ?_
        refine C.ret ?_
        refine Outs.one rfl s8_1 ?_
        first
        | exact ⟨congrArg (Value.int .i64) (Cn.idx_yes hk2 c16 hI).symm, (Ext.trans e_1 e2)⟩
        | exact ⟨congrArg (Value.int .i64) (Cn.idx_no fun i hi => hI i hi (by omega)).symm, (Ext.trans e_1 e2)⟩
      ·
        simp only [Int.toNat_natCast] at c16
        refine C.skip ?_
        refine hK8 _ _ ?_
        refine hK7 _ _ ?_
        refine C.region ?_
        refine O.addI s8_1 rfl (by unfold InI; omega) ?_
        refine O.mv ?_
        refine O.nil ?_
        refine ⟨k + 1, ⟨rfl, s0_1, s1_1, s7_1, (Ext.trans e_1 e2), ?_⟩, by first | omega | (simp only []; omega)⟩
        refine ⟨by omega, fun i hi hik => ?_⟩
        rcases Nat.lt_or_eq_of_le (Nat.le_of_lt_succ hik) with h | rfl
        · exact hI i hi h
        · exact c16
    ·
      refine C.exit ?_
      refine hK4 _ _ ?_
      refine hK2 _ _ ?_
      refine C.seqK fun K12 hK12 => ?_
      refine C.region ?_
      refine O.asg ?_
      refine O.nil ?_
      refine hK12 _ _ ?_
      refine C.ret ?_
      refine Outs.one rfl rfl ?_
      first
      | exact ⟨congrArg (Value.int .i64) (Cn.idx_yes hk2 c16 hI).symm, e_1⟩
      | exact ⟨congrArg (Value.int .i64) (Cn.idx_no fun i hi => hI i hi (by omega)).symm, e_1⟩

theorem containsM_spec (v0 vf : Value) (l : List MarkT) (F M : Nat → Prop) (p : MarkT → Bool) (w : World) (hl : Sl markF.enc w F v0 l) (hp : Pred Tryz.prog M w vf mv p) :
    Ret Tryz.prog 94 #[v0, vf] w (fun v w' => v = .bool (l.any p) ∧ Le w w') := by
  refine enter (args := [v0, vf]) (n := 9) Tryz.func94 rfl rfl (Nat.le_of_ble_eq_true rfl) ?_
  refine C.seqK fun K1 hK1 => ?_
  refine C.region ?_
  refine O.asg ?_
  refine O.nil ?_
  refine hK1 _ _ ?_
  refine C.seqK fun K2 hK2 => ?_
  refine C.region ?_
  refine O.mv ?_
  refine O.mv ?_
  refine O.call Tryz.call115 (args2 rfl rfl) (indexM_spec _ _ _ _ _ _ _ hl hp) ?_
  rintro v_7 w1 ⟨rfl, e1⟩
  have z1 := e1.size
  refine O.geqI rfl rfl ?_
  refine O.asg ?_
  refine O.nil ?_
  refine hK2 _ _ ?_
  refine C.ret ?_
  refine Outs.one rfl rfl ?_
  exact ⟨congrArg Value.bool (Cn.idx_any l), e1⟩

theorem qdots_spec (v0 : Value) (l : List MarkT) (F : Nat → Prop) (w : World) (hl : Sl markF.enc w F v0 l) (hn : l.length ≤ 1000000) :
    Ret Tryz.prog 73 #[v0] w (fun v w' => Le w w' ∧ OwnF Dt.dotF 51 w.heap.size w' v (Cn.mdots l)) := by
  have hle := hl.le
  obtain ⟨ie51, ti51, ts51, tb51, tz51⟩ := inf51
  refine enter (args := [v0]) (n := 19) Tryz.func73 rfl rfl (Nat.le_of_ble_eq_true rfl) ?_
  refine C.seqK fun K1 hK1 => ?_
  refine C.region ?_
  refine O.asg ?_
  refine O.nil ?_
  refine hK1 _ _ ?_
  refine C.seqK fun K2 hK2 => ?_
  refine C.region ?_
  refine O.asg ?_
  refine O.nil ?_
  refine hK2 _ _ ?_
  refine C.seqK fun K3 hK3 => ?_
  refine C.seqK fun K4 hK4 => ?_
  refine C.region ?_
  refine O.mv ?_
  refine O.len Tryz.underlying54 rfl hl ?_
  refine O.mv ?_
  refine O.nil ?_
  refine hK4 _ _ ?_
  refine C.block fun K5 hK5 => ?_
  refine C.loop0 (σ := Nat × Value) (fun f0 w0 ⟨k, o⟩ f wz => f 3 = o ∧ f 8 = .int .i64 (k) ∧ f 2 = f0 2 ∧ f 6 = f0 6 ∧ f 7 = f0 7 ∧ Le w wz ∧ OwnF Dt.dotF 51 w.heap.size wz o (Cn.mdots (l.take k)) ∧ k ≤ l.length) (fun ⟨k, o⟩ => l.length - k) (0, .slice none 0 0) ?_ ?_
  ·
    refine ⟨rfl, rfl, rfl, rfl, rfl, (Le.refl _), (OwnF.nil _ _ _ _), ?_⟩
    exact Nat.zero_le _
  ·
    rintro ⟨k, o⟩ f_1 w1 ⟨s3_1, s8_1, s2_1, s6_1, s7_1, e_1, r0_1, hk⟩
    have z_1 := e_1.size
    have r0_1s := r0_1.sl
    have hlk : (Cn.mdots (l.take k)).length = k := by unfold Cn.mdots; simp; omega
    refine C.seqK fun K6 hK6 => ?_
    refine C.region ?_
    refine O.lssI s8_1 s7_1 ?_
    refine O.nil ?_
    refine hK6 _ _ ?_
    refine C.seqK fun K7 hK7 => ?_
    refine C.condD rfl (fun c9 => ?_) (fun c9 => ?_)
    ·
      have hk2 : k < l.length := by omega
      refine C.skip ?_
      refine hK7 _ _ ?_
      refine C.seqK fun K8 hK8 => ?_
      refine C.block fun K9 hK9 => ?_
      refine C.seqK fun K10 hK10 => ?_
      refine C.region ?_
      refine O.idx Tryz.underlying54 Tryz.sizeOf53 rfl s6_1 (hl.keep e_1) s8_1 (by omega) (fun a10 h10 => ?_)
      refine O.loadG (G := markF) Tryz.isAgg53 Tryz.sizeOf53 rfl h10 ?_
      obtain ⟨u, hu⟩ : ∃ u : MarkT, u = l[k] := ⟨_, rfl⟩
      refine O.cast (v' := mv u) (by rw [hu]; rfl) ?_
      refine O.alloc Tryz.zeroValue53 (fun b5 w2 hb5 hz5 e2 => ?_)
      have z2 := e2.size
      have h5 := hz5.own
      have hl5 := h5.lt
      refine O.storeA (vs := [.int .i64 u.1.1, .int .i64 u.1.2, .int .i64 u.2.1, .int .u64 (u.2.2.toNat : Int)]) Tryz.sizeOf53 rfl rfl rfl (by simp [Value.oneCell']) h5 (Nat.le_of_ble_eq_true rfl) (fun w3 hs3 e3 z3 => ?_)
      refine O.nil ?_
      refine hK10 _ _ ?_
      refine C.region ?_
      refine O.mv ?_
      refine O.fieldAd Tryz.underlying53 rfl Tryz.sizeOf51 (by decide) rfl ?_
      refine O.loadOA Tryz.isAgg51 Tryz.sizeOf51 rfl hs3 (Nat.le_of_ble_eq_true rfl) ?_
      refine O.litG (G := Dt.dotF) [u.1] Tryz.underlying22 ti51 ts51 tz51 rfl (by decide) (by decide) rfl (fun b15 w4 hb15 hz15 e4 => ?_)
      have z4 := e4.size
      have h15 := hz15.own
      have hq15 := Sl.litG (n := 1) h15 rfl (by unfold maxLen; omega)
      refine O.appF (G := Dt.dotF) Tryz.underlying22 ti51 tz51 ts51 rfl s3_1 rfl (((r0_1.keep e2).keepM e3 (fun k hk h => by have := r0_1.bk_ge k hk; (try dsimp only at h); omega)).keep e4) hq15 (by rw [tb51]; simp; omega) (by unfold maxLen; simp; omega) (by omega) (fun v16 w5 h16 e5 => ?_)
      have z5 := e5.size
      have h16s := h16.sl
      refine O.asg ?_
      refine O.nil ?_
      refine hK9 _ _ ?_
      refine hK8 _ _ ?_
      refine C.region ?_
      refine O.addI s8_1 rfl (by unfold InI; omega) ?_
      refine O.mv ?_
      refine O.nil ?_
      refine ⟨(k + 1, _), ⟨rfl, rfl, s2_1, s6_1, s7_1, (Ext.new (Ext.trans (Ext.new (Ext.trans e_1 e2) e3 (by rintro i hi rfl; omega)) e4) e5 (by intro i hi h; have := (((r0_1.keep e2).keepM e3 (fun k hk h => by have := r0_1.bk_ge k hk; (try dsimp only at h); omega)).keep e4).bk_ge i h; omega)), (by rw [show Cn.mdots (l.take (k + 1)) = Cn.mdots (l.take k) ++ [u.1] from by rw [hu]; exact Cn.map_take _ hk2]; exact h16), ?_⟩, by first | omega | (simp only []; omega)⟩
      omega
    ·
      refine C.exit ?_
      refine hK5 _ _ ?_
      refine hK3 _ _ ?_
      refine C.seqK fun K11 hK11 => ?_
      refine C.region ?_
      refine O.mv ?_
      refine O.asg ?_
      refine O.nil ?_
      refine hK11 _ _ ?_
      refine C.ret ?_
      refine Outs.one rfl s3_1 ?_
      obtain rfl : k = l.length := by omega
      rw [List.take_length] at r0_1
      exact ⟨e_1, r0_1⟩

theorem isList_spec (v0 : Value) (l : List MarkT) (F : Nat → Prop) (w : World) (hl : Sl markF.enc w F v0 l) (hn : l.length ≤ 1000000) :
    Ret Tryz.prog 93 #[v0] w (fun v w' => v = .bool (Dt.isSet (Cn.mdots l)) ∧ Le w w') := by
  refine enter (args := [v0]) (n := 6) Tryz.func93 rfl rfl (Nat.le_of_ble_eq_true rfl) ?_
  refine C.seqK fun K1 hK1 => ?_
  refine C.region ?_
  refine O.asg ?_
  refine O.nil ?_
  refine hK1 _ _ ?_
  refine C.seqK fun K2 hK2 => ?_
  refine C.region ?_
  refine O.mv ?_
  refine O.call Tryz.call73 (args1 rfl) (qdots_spec _ _ _ _ hl hn) ?_
  rintro v_4 w1 ⟨e1, h4⟩
  have z1 := e1.size
  have h4s := h4.sl
  refine O.call Tryz.call65 (args1 rfl) (isSet_spec _ _ _ _ h4s) ?_
  rintro v_5 w2 ⟨rfl, e2⟩
  have z2 := e2.size
  refine O.asg ?_
  refine O.nil ?_
  refine hK2 _ _ ?_
  refine C.ret ?_
  refine Outs.one rfl rfl ?_
  exact ⟨rfl, (Ext.trans e1 e2)⟩

theorem sameD_spec (v0 : Value) (a : List Dt.Dot) (v1 : Value) (b : List Dt.Dot) (F F2 : Nat → Prop) (w : World) (ha : Sl Dt.dotF.enc w F v0 a) (hb : Sl Dt.dotF.enc w F2 v1 b) :
    Ret Tryz.prog 48 #[v0, v1] w (fun v w' => v = .bool (decide (a = b)) ∧ Le w w') := by
  have hale := ha.le
  have hble := hb.le
  refine enter (args := [v0, v1]) (n := 26) Tryz.func48 rfl rfl (Nat.le_of_ble_eq_true rfl) ?_
  refine C.seqK fun K1 hK1 => ?_
  refine C.region ?_
  refine O.asg ?_
  refine O.nil ?_
  refine hK1 _ _ ?_
  refine C.seqK fun K2 hK2 => ?_
  refine C.seqK fun K3 hK3 => ?_
  refine C.region ?_
  refine O.mv ?_
  refine O.len Tryz.underlying22 rfl ha ?_
  refine O.mv ?_
  refine O.len Tryz.underlying22 rfl hb ?_
  refine O.neqI rfl rfl ?_
  refine O.nil ?_
  refine hK3 _ _ ?_
  refine C.condD rfl (fun c10 => ?_) (fun c10 => ?_)
  ·
    refine C.seqK fun K4 hK4 => ?_
    refine C.region ?_
    refine O.asg ?_
    refine O.nil ?_
    refine hK4 _ _ ?_
    refine C.ret ?_
    refine Outs.one rfl rfl ?_
    first
    | exact ⟨congrArg Value.bool (decide_eq_false (fun h => c10 (congrArg (fun l : List Dt.Dot => (l.length : Int)) h))).symm, (Le.refl _)⟩
    | exact ⟨congrArg Value.bool (decide_eq_false (fun h => c25 (by simp only [h]))).symm, (Le.refl _)⟩
    | (have hk2 : k = a.length := by omega
       subst hk2
       rw [List.take_length, List.take_of_length_le (by omega)] at hI
       exact ⟨congrArg Value.bool (decide_eq_true hI).symm, (Le.refl _)⟩)
  ·
    have hlen : a.length = b.length := by omega
    refine C.skip ?_
    refine hK2 _ _ ?_
    refine C.seqK fun K5 hK5 => ?_
    refine C.seqK fun K6 hK6 => ?_
    refine C.region ?_
    refine O.asg ?_
    refine O.nil ?_
    refine hK6 _ _ ?_
    refine C.block fun K7 hK7 => ?_
    refine C.loop0 (σ := Nat) (fun f0 w0 k f wz => f 5 = .int .i64 (k) ∧ f 0 = f0 0 ∧ f 1 = f0 1 ∧ Le w wz ∧ k ≤ a.length ∧ a.take k = b.take k) (fun k => a.length - k) 0 ?_ ?_
    ·
      refine ⟨rfl, rfl, rfl, (Le.refl _), ?_⟩
      exact ⟨Nat.zero_le _, rfl⟩
    ·
      rintro k f_1 w1 ⟨s5_1, s0_1, s1_1, e_1, ⟨hk, hI⟩⟩
      have z_1 := e_1.size
      refine C.seqK fun K8 hK8 => ?_
      refine C.seqK fun K9 hK9 => ?_
      refine C.region ?_
      refine O.mv ?_
      refine O.mv ?_
      refine O.len Tryz.underlying22 s0_1 (ha.keep e_1) ?_
      refine O.lssI s5_1 rfl ?_
      refine O.nil ?_
      refine hK9 _ _ ?_
      refine C.condD rfl (fun c14 => ?_) (fun c14 => ?_)
      ·
        refine C.skip ?_
        refine hK8 _ _ ?_
        refine C.seqK fun K10 hK10 => ?_
        refine C.block fun K11 hK11 => ?_
        refine C.seqK fun K12 hK12 => ?_
        refine C.draw (by kernel_rfl) fun w2 e2 => ?_
        have z2 := e2.size
        refine D.take (i := 0) rfl rfl rfl rfl (by kernel_rfl) (Le.refl _) ⟨pure _, rfl⟩ (fun w_ hw_ N_ hN => (O.mv (O.nil hN))) ?_
        refine D.take (i := 1) rfl rfl rfl rfl (by kernel_rfl) (Le.refl _) ⟨pure _, rfl⟩ (fun w_ hw_ N_ hN => (O.mv (O.nil hN))) ?_
        obtain ⟨a19, h19, hr19⟩ := Sl.at (i := (k : Int)) (P := Tryz.prog) Tryz.underlying22 Tryz.sizeOf51 rfl ((ha.keep e_1).keep e2) (by omega)
        refine D.take (i := 2) rfl rfl rfl rfl (by kernel_rfl) (Le.refl _) ⟨_, rfl⟩ (fun w_ hw_ N_ hN => (O.idxR s0_1 s5_1 hr19 (O.nil hN))) ?_
        refine D.take (i := 3) rfl rfl rfl rfl (by kernel_rfl) (Le.refl _) ⟨_, rfl⟩ (fun w_ hw_ N_ hN => (O.loadG (G := Dt.dotF) Tryz.isAgg51 Tryz.sizeOf51 rfl (h19.keep hw_) (O.nil hN))) ?_
        refine D.take (i := 4) rfl rfl rfl rfl (by kernel_rfl) (Le.refl _) ⟨pure _, rfl⟩ (fun w_ hw_ N_ hN => (O.mv (O.nil hN))) ?_
        refine D.take (i := 5) rfl rfl rfl rfl (by kernel_rfl) (Le.refl _) ⟨pure _, rfl⟩ (fun w_ hw_ N_ hN => (O.mv (O.nil hN))) ?_
        obtain ⟨a23, h23, hr23⟩ := Sl.at (i := (k : Int)) (P := Tryz.prog) Tryz.underlying22 Tryz.sizeOf51 rfl ((hb.keep e_1).keep e2) (by omega)
        refine D.take (i := 6) rfl rfl rfl rfl (by kernel_rfl) (Le.refl _) ⟨_, rfl⟩ (fun w_ hw_ N_ hN => (O.idxR s1_1 s5_1 hr23 (O.nil hN))) ?_
        refine D.take (i := 7) rfl rfl rfl rfl (by kernel_rfl) (Le.refl _) ⟨_, rfl⟩ (fun w_ hw_ N_ hN => (O.loadG (G := Dt.dotF) Tryz.isAgg51 Tryz.sizeOf51 rfl (h23.keep hw_) (O.nil hN))) ?_
        refine D.take (i := 8) rfl rfl rfl rfl (by kernel_rfl) (Le.refl _) ⟨_, rfl⟩ (fun w_ hw_ N_ hN => (O.neqP Tryz.underlying51 (by decide) (by decide) rfl rfl Tryz.underlying3 Tryz.underlying3 Tryz.isAgg3 Tryz.isAgg3 (by kernel_rfl) (by kernel_rfl) rfl rfl (O.nil hN))) ?_
        refine D.done (by kernel_rfl) ?_
        refine hK12 _ _ ?_
        refine C.condD rfl (fun c25 => ?_) (fun c25 => ?_)
        ·
          refine C.seqK fun K13 hK13 => ?_
          refine C.region ?_
          refine O.asg ?_
          refine O.nil ?_
          refine hK13 _ _ ?_
          refine C.ret ?_
          refine Outs.one rfl rfl ?_
          first
          | exact ⟨congrArg Value.bool (decide_eq_false (fun h => c10 (congrArg (fun l : List Dt.Dot => (l.length : Int)) h))).symm, (Ext.trans e_1 e2)⟩
          | exact ⟨congrArg Value.bool (decide_eq_false (fun h => c25 (by simp only [h]))).symm, (Ext.trans e_1 e2)⟩
          | (have hk2 : k = a.length := by omega
             subst hk2
             rw [List.take_length, List.take_of_length_le (by omega)] at hI
             exact ⟨congrArg Value.bool (decide_eq_true hI).symm, (Ext.trans e_1 e2)⟩)
        ·
          refine C.skip ?_
          refine hK11 _ _ ?_
          refine hK10 _ _ ?_
          refine C.region ?_
          refine O.mv ?_
          refine O.addI s5_1 rfl (by unfold InI; omega) ?_
          refine O.asg ?_
          refine O.nil ?_
          refine ⟨k + 1, ⟨rfl, s0_1, s1_1, (Ext.trans e_1 e2), ?_⟩, by first | omega | (simp only []; omega)⟩
          have hka : k < a.length := by omega
          have hkb : k < b.length := by omega
          have hq : a[k] = b[k] := Decidable.of_not_not c25
          refine ⟨by omega, ?_⟩
          rw [List.take_succ_eq_append_getElem hka, List.take_succ_eq_append_getElem hkb, hI, hq]
      ·
        refine C.exit ?_
        refine hK7 _ _ ?_
        refine hK5 _ _ ?_
        refine C.seqK fun K14 hK14 => ?_
        refine C.region ?_
        refine O.asg ?_
        refine O.nil ?_
        refine hK14 _ _ ?_
        refine C.ret ?_
        refine Outs.one rfl rfl ?_
        first
        | exact ⟨congrArg Value.bool (decide_eq_false (fun h => c10 (congrArg (fun l : List Dt.Dot => (l.length : Int)) h))).symm, e_1⟩
        | exact ⟨congrArg Value.bool (decide_eq_false (fun h => c25 (by simp only [h]))).symm, e_1⟩
        | (have hk2 : k = a.length := by omega
           subst hk2
           rw [List.take_length, List.take_of_length_le (by omega)] at hI
           exact ⟨congrArg Value.bool (decide_eq_true hI).symm, e_1⟩)

end Go.Proofs.YtnkcmaoaagnopaaGreatDoor
end
section
/-
  The walks of dots: sets. Conditions: slices as they lie in memory.
-/
namespace Go.Proofs.YtnkcmaoaagnopaaGreatDoor
open Go.Pn Go.RowKit

set_option maxHeartbeats 2000000 in
theorem compact_a_spec (g cap B : Nat) (l : List Dt.Dot) (w : World) (ho : OwnF Dt.dotF 51 B w (.slice (some ⟨g, 0, none⟩) l.length cap) l) (hn : l.length ≤ 1000000000000) :
    Ret Tryz.prog 99 #[.slice (some ⟨g, 0, none⟩) l.length cap] w (fun v w' => v = .slice (some ⟨g, 0, none⟩) (Dt.compact l).length cap ∧ OwnF Dt.dotF 51 B w' v (Dt.compact l) ∧ Ext (fun k => k = g) w w') := by
  have hs0 := ho.sl
  have hcap := ho.le_cap
  refine enter (args := [.slice (some ⟨g, 0, none⟩) l.length cap]) (n := 61) Tryz.func99 rfl rfl (Nat.le_of_ble_eq_true rfl) ?_
  refine C.seqK fun K1 hK1 => ?_
  refine C.region ?_
  refine O.asg ?_
  refine O.nil ?_
  refine hK1 _ _ ?_
  refine C.seqK fun K2 hK2 => ?_
  refine C.seqK fun K3 hK3 => ?_
  refine C.region ?_
  refine O.mv ?_
  refine O.len Tryz.underlying22 rfl hs0 ?_
  refine O.lssI rfl rfl ?_
  refine O.nil ?_
  refine hK3 _ _ ?_
  refine C.condD rfl (fun c8 => ?_) (fun c8 => ?_)
  ·
    refine C.seqK fun K4 hK4 => ?_
    refine C.region ?_
    refine O.mv ?_
    refine O.asg ?_
    refine O.nil ?_
    refine hK4 _ _ ?_
    refine C.ret ?_
    refine Outs.one rfl rfl ?_
    first
    | (have q0 : Dt.compact l = l := by
         rcases hq : l with _ | ⟨a, _ | ⟨b, r⟩⟩
         · rfl
         · rfl
         · rw [hq] at c8; simp at c8; omega
       refine ⟨congrArg (fun x : List Dt.Dot => Value.slice (some ⟨g, 0, none⟩) x.length cap) q0.symm, ?_, (Ext.refl _ _)⟩
       rw [q0]
       exact ho)
    | (have q0 : Dt.compact l = l := Dt.compact_distinct (fun i hi => hI i hi (by omega))
       refine ⟨congrArg (fun x : List Dt.Dot => Value.slice (some ⟨g, 0, none⟩) x.length cap) q0.symm, ?_, (Ext.refl _ _)⟩
       rw [q0]
       exact ho)
    | (have q1 : c.take m = Dt.compact l := by rw [hT, hj3, List.take_length]
       have q2 : (Dt.compact l).length = m := by rw [← q1, List.length_take]; omega
       refine ⟨congrArg (fun x : Nat => Value.slice (some ⟨g, 0, none⟩) x cap) q2.symm, ?_, (Ext.refl _ _)⟩
       have hf := ho
       obtain ⟨X, hX⟩ : ∃ X : List Dt.Dot, X = c.take m ++ List.replicate (l.length - m) ((0, 0) : Dt.Dot) := ⟨_, rfl⟩
       have hx : X.length = l.length := by rw [hX]; simp; omega
       rw [← hX, ← hx] at hf
       replace hf := hf.first (k := m) (by rw [hx]; omega)
       rw [hX, List.take_append_of_le_length (by simp; omega), List.take_take, Nat.min_self, q1] at hf
       exact hf)
  ·
    have hn2 : 2 ≤ l.length := by omega
    refine C.skip ?_
    refine hK2 _ _ ?_
    refine C.seqK fun K5 hK5 => ?_
    refine C.seqK fun K6 hK6 => ?_
    refine C.region ?_
    refine O.asg ?_
    refine O.nil ?_
    refine hK6 _ _ ?_
    refine C.block fun K7 hK7 => ?_
    refine C.loop0 (σ := Nat) (fun f0 w0 k f wz => f 3 = .int .i64 (k) ∧ f 0 = f0 0 ∧ Le w wz ∧ OwnF Dt.dotF 51 B wz (.slice (some ⟨g, 0, none⟩) l.length cap) l ∧ 1 ≤ k ∧ k ≤ l.length ∧ ∀ i, ∀ h : i + 1 < l.length, i + 1 < k → l[i] ≠ l[i + 1]) (fun k => l.length - k) 1 ?_ ?_
    ·
      refine ⟨rfl, rfl, (Le.refl _), ho, ?_⟩
      exact ⟨by omega, by omega, fun i h k => absurd k (by omega)⟩
    ·
      rintro k f_1 w1 ⟨s3_1, s0_1, e_1, r0_1, ⟨hk1, hk, hI⟩⟩
      have z_1 := e_1.size
      have r0_1s := r0_1.sl
      refine C.seqK fun K8 hK8 => ?_
      refine C.seqK fun K9 hK9 => ?_
      refine C.region ?_
      refine O.mv ?_
      refine O.mv ?_
      refine O.len Tryz.underlying22 s0_1 r0_1s ?_
      refine O.lssI s3_1 rfl ?_
      refine O.nil ?_
      refine hK9 _ _ ?_
      refine C.condD rfl (fun c13 => ?_) (fun c13 => ?_)
      ·
        have hk2 : k < l.length := by omega
        have x0 : ((k : Int)).toNat = k := by omega
        have x1 : ((k : Int) - 1).toNat = k - 1 := by omega
        refine C.skip ?_
        refine hK8 _ _ ?_
        refine C.seqK fun K10 hK10 => ?_
        refine C.block fun K11 hK11 => ?_
        refine C.seqK fun K12 hK12 => ?_
        refine C.draw (by kernel_rfl) fun w2 e2 => ?_
        have z2 := e2.size
        refine D.take (i := 0) rfl rfl rfl rfl (by kernel_rfl) (Le.refl _) ⟨pure _, rfl⟩ (fun w_ hw_ N_ hN => (O.mv (O.nil hN))) ?_
        refine D.take (i := 1) rfl rfl rfl rfl (by kernel_rfl) (Le.refl _) ⟨pure _, rfl⟩ (fun w_ hw_ N_ hN => (O.mv (O.nil hN))) ?_
        obtain ⟨a18, h18, hr18⟩ := Sl.at (i := (k : Int)) (P := Tryz.prog) Tryz.underlying22 Tryz.sizeOf51 rfl (r0_1s.keep e2) (by omega)
        refine D.take (i := 2) rfl rfl rfl rfl (by kernel_rfl) (Le.refl _) ⟨_, rfl⟩ (fun w_ hw_ N_ hN => (O.idxR s0_1 s3_1 hr18 (O.nil hN))) ?_
        refine D.take (i := 3) rfl rfl rfl rfl (by kernel_rfl) (Le.refl _) ⟨_, rfl⟩ (fun w_ hw_ N_ hN => (O.loadG (G := Dt.dotF) Tryz.isAgg51 Tryz.sizeOf51 rfl (h18.keep hw_) (O.nil hN))) ?_
        refine D.take (i := 4) rfl rfl rfl rfl (by kernel_rfl) (Le.refl _) ⟨pure _, rfl⟩ (fun w_ hw_ N_ hN => (O.mv (O.nil hN))) ?_
        refine D.take (i := 5) rfl rfl rfl rfl (by kernel_rfl) (Le.refl _) ⟨pure _, rfl⟩ (fun w_ hw_ N_ hN => (O.mv (O.nil hN))) ?_
        refine D.take (i := 6) rfl rfl rfl rfl (by kernel_rfl) (Le.refl _) ⟨_, rfl⟩ (fun w_ hw_ N_ hN => (O.subI s3_1 rfl (by unfold InI; omega) (O.nil hN))) ?_
        obtain ⟨a23, h23, hr23⟩ := Sl.at (i := (k : Int) - 1) (P := Tryz.prog) Tryz.underlying22 Tryz.sizeOf51 rfl (r0_1s.keep e2) (by omega)
        refine D.take (i := 7) rfl rfl rfl rfl (by kernel_rfl) (Le.refl _) ⟨_, rfl⟩ (fun w_ hw_ N_ hN => (O.idxR s0_1 rfl hr23 (O.nil hN))) ?_
        refine D.take (i := 8) rfl rfl rfl rfl (by kernel_rfl) (Le.refl _) ⟨_, rfl⟩ (fun w_ hw_ N_ hN => (O.loadG (G := Dt.dotF) Tryz.isAgg51 Tryz.sizeOf51 rfl (h23.keep hw_) (O.nil hN))) ?_
        refine D.take (i := 9) rfl rfl rfl rfl (by kernel_rfl) (Le.refl _) ⟨_, rfl⟩ (fun w_ hw_ N_ hN => (O.eqlP Tryz.underlying51 (by decide) (by decide) rfl rfl Tryz.underlying3 Tryz.underlying3 Tryz.isAgg3 Tryz.isAgg3 (by kernel_rfl) (by kernel_rfl) rfl rfl (O.nil hN))) ?_
        refine D.done (by kernel_rfl) ?_
        refine hK12 _ _ ?_
        refine C.condD rfl (fun c25 => ?_) (fun c25 => ?_)
        ·
          simp only [x0, x1] at c25
          refine C.seqK fun K13 hK13 => ?_
          refine C.region ?_
          refine O.mv ?_
          refine O.mv ?_
          refine O.subHi Tryz.underlying22 Tryz.sizeOf51 s0_1 s3_1 (by omega) (by omega) ?_
          refine O.asg ?_
          refine O.nil ?_
          refine hK13 _ _ ?_
          refine C.seqK fun K14 hK14 => ?_
          refine C.seqK fun K15 hK15 => ?_
          refine C.region ?_
          refine O.asg ?_
          refine O.nil ?_
          refine hK15 _ _ ?_
          refine C.block fun K16 hK16 => ?_
          refine C.loop0 (σ := Nat × Nat × List Dt.Dot) (fun f0 w0 ⟨j, m, c⟩ f w => f 5 = .int .i64 (j) ∧ f 3 = .int .i64 (m) ∧ f 0 = f0 0 ∧ f 2 = f0 2 ∧ f 4 = f0 4 ∧ Ext (fun k => k = g) w0 w ∧ OwnF Dt.dotF 51 B w (.slice (some ⟨g, 0, none⟩) l.length cap) c ∧ c.length = l.length ∧ 1 ≤ j ∧ k + j ≤ l.length ∧ 1 ≤ m ∧ m + 1 ≤ k + j ∧ c.take m = Dt.compact (l.take (k + j)) ∧ ∀ i, ∀ h1 : i < c.length, ∀ h2 : i < l.length, k + j ≤ i + 1 → c[i] = l[i]) (fun ⟨j, m, c⟩ => l.length - (k + j)) (1, k, l) ?_ ?_
          ·
            refine ⟨rfl, s3_1, rfl, rfl, rfl, Ext.refl _ _, (r0_1.keep e2), ?_⟩
            refine ⟨rfl, by omega, by omega, by omega, by omega, ?_, fun i _ _ _ => rfl⟩
            rw [Dt.compact_take hk1 hk2, if_pos c25.symm, List.append_nil, Dt.compact_distinct]
            intro i hi
            simp only [List.getElem_take]
            exact hI i (by simp at hi; omega) (by simp at hi; omega)
          ·
            rintro ⟨j, m, c⟩ f_2 w3 ⟨s5_2, s3_2, s0_2, s2_2, s4_2, e_2, r0_2, ⟨hcl, hj1, hj, hm1, hm, hT, hS⟩⟩
            have z_2 := e_2.size
            have r0_2s := r0_2.sl
            have hp4 := r0_2
            rw [← hcl] at hp4
            replace hp4 := hp4.part (k := k) (by omega)
            rw [hcl] at hp4
            refine C.seqK fun K17 hK17 => ?_
            refine C.seqK fun K18 hK18 => ?_
            refine C.region ?_
            refine O.mv ?_
            refine O.mv ?_
            refine O.len Tryz.underlying22 s4_2 hp4 ?_
            refine O.lssI s5_2 rfl ?_
            refine O.nil ?_
            refine hK18 _ _ ?_
            refine C.condD rfl (fun c32 => ?_) (fun c32 => ?_)
            ·
              have hj2 : k + j < c.length := by simp at c32; omega
              have y1 : ((j : Int)).toNat = j := by omega
              have y2 : ((j : Int) - 1).toNat = j - 1 := by omega
              have y3 : k + (j - 1) = k + j - 1 := by omega
              refine C.skip ?_
              refine hK17 _ _ ?_
              refine C.seqK fun K19 hK19 => ?_
              refine C.block fun K20 hK20 => ?_
              refine C.seqK fun K21 hK21 => ?_
              refine C.draw (by kernel_rfl) fun w4 e4 => ?_
              have z4 := e4.size
              refine D.take (i := 0) rfl rfl rfl rfl (by kernel_rfl) (Le.refl _) ⟨pure _, rfl⟩ (fun w_ hw_ N_ hN => (O.mv (O.nil hN))) ?_
              refine D.take (i := 1) rfl rfl rfl rfl (by kernel_rfl) (Le.refl _) ⟨pure _, rfl⟩ (fun w_ hw_ N_ hN => (O.mv (O.nil hN))) ?_
              obtain ⟨a37, h37, hr37⟩ := Sl.at (i := (j : Int)) (P := Tryz.prog) Tryz.underlying22 Tryz.sizeOf51 rfl (hp4.keep e4) (by simp; omega)
              refine D.take (i := 2) rfl rfl rfl rfl (by kernel_rfl) (Le.refl _) ⟨_, rfl⟩ (fun w_ hw_ N_ hN => (O.idxR s4_2 s5_2 hr37 (O.nil hN))) ?_
              refine D.take (i := 3) rfl rfl rfl rfl (by kernel_rfl) (Le.refl _) ⟨_, rfl⟩ (fun w_ hw_ N_ hN => (O.loadG (G := Dt.dotF) Tryz.isAgg51 Tryz.sizeOf51 rfl (h37.keep hw_) (O.nil hN))) ?_
              refine D.take (i := 4) rfl rfl rfl rfl (by kernel_rfl) (Le.refl _) ⟨pure _, rfl⟩ (fun w_ hw_ N_ hN => (O.mv (O.nil hN))) ?_
              refine D.take (i := 5) rfl rfl rfl rfl (by kernel_rfl) (Le.refl _) ⟨pure _, rfl⟩ (fun w_ hw_ N_ hN => (O.mv (O.nil hN))) ?_
              refine D.take (i := 6) rfl rfl rfl rfl (by kernel_rfl) (Le.refl _) ⟨_, rfl⟩ (fun w_ hw_ N_ hN => (O.subI s5_2 rfl (by unfold InI; omega) (O.nil hN))) ?_
              obtain ⟨a42, h42, hr42⟩ := Sl.at (i := (j : Int) - 1) (P := Tryz.prog) Tryz.underlying22 Tryz.sizeOf51 rfl (hp4.keep e4) (by simp; omega)
              refine D.take (i := 7) rfl rfl rfl rfl (by kernel_rfl) (Le.refl _) ⟨_, rfl⟩ (fun w_ hw_ N_ hN => (O.idxR s4_2 rfl hr42 (O.nil hN))) ?_
              refine D.take (i := 8) rfl rfl rfl rfl (by kernel_rfl) (Le.refl _) ⟨_, rfl⟩ (fun w_ hw_ N_ hN => (O.loadG (G := Dt.dotF) Tryz.isAgg51 Tryz.sizeOf51 rfl (h42.keep hw_) (O.nil hN))) ?_
              refine D.take (i := 9) rfl rfl rfl rfl (by kernel_rfl) (Le.refl _) ⟨_, rfl⟩ (fun w_ hw_ N_ hN => (O.neqP Tryz.underlying51 (by decide) (by decide) rfl rfl Tryz.underlying3 Tryz.underlying3 Tryz.isAgg3 Tryz.isAgg3 (by kernel_rfl) (by kernel_rfl) rfl rfl (O.nil hN))) ?_
              refine D.done (by kernel_rfl) ?_
              refine hK21 _ _ ?_
              refine C.condD rfl (fun c44 => ?_) (fun c44 => ?_)
              ·
                simp only [y1, y2, List.getElem_drop] at c44
                rw [hS (k + j) hj2 (by omega) (by omega), hS (k + (j - 1)) (by omega) (by omega) (by omega)] at c44
                simp only [y3] at c44
                refine C.seqK fun K22 hK22 => ?_
                refine C.region ?_
                refine O.mv ?_
                refine O.mv ?_
                refine O.mv ?_
                refine O.mv ?_
                refine O.idx Tryz.underlying22 Tryz.sizeOf51 rfl s4_2 (hp4.keep e4) s5_2 (by simp; omega) (fun a49 h49 => ?_)
                refine O.loadG (G := Dt.dotF) Tryz.isAgg51 Tryz.sizeOf51 rfl h49 ?_
                obtain ⟨u, hu⟩ : ∃ u : Dt.Dot, u = l[k + j]'(by omega) := ⟨_, rfl⟩
                refine O.cast (v' := .agg (Dt.dotF.e u).toArray) (by subst hu; simp only [y1, List.getElem_drop]; rw [hS (k + j) hj2 (by omega) (by omega)]) ?_
                refine O.idxO Tryz.underlying22 Tryz.sizeOf51 (Eq.trans s0_2 s0_1) s3_2 (by omega) ?_
                refine O.cast (v' := .pointer (some ⟨g, m * Dt.dotF.sz, none⟩)) (by rw [Nat.zero_add, Int.toNat_natCast]; rfl) ?_
                have ho51 := (r0_2.keep e4)
                rw [← hcl] at ho51
                refine O.storeG (G := Dt.dotF) (_) Tryz.sizeOf51 rfl rfl ho51 (by omega) (fun w5 hs5 e5 z5 => ?_)
                rw [hcl] at hs5
                refine O.nil ?_
                refine hK22 _ _ ?_
                refine C.region ?_
                refine O.mv ?_
                refine O.addI s3_2 rfl (by unfold InI; omega) ?_
                refine O.cast (v' := .int .i64 ((m + 1 : Nat) : Int)) rfl ?_
                refine O.asg ?_
                refine O.nil ?_
                refine hK20 _ _ ?_
                refine hK19 _ _ ?_
                refine C.region ?_
                refine O.mv ?_
                refine O.addI s5_2 rfl (by unfold InI; omega) ?_
                refine O.asg ?_
                refine O.nil ?_
                refine ⟨(j + 1, _, _), ⟨rfl, rfl, s0_2, s2_2, s4_2, (Ext.trans (Ext.trans e_2 (Le.to e4)) (e5)), hs5, ?_⟩, by first | omega | (simp only []; omega)⟩
                first
                | (refine ⟨by rw [List.length_set]; exact hcl, by omega, by omega, by omega, by omega, ?_, fun i h1 h2 h3 => ?_⟩
                   · rw [List.take_succ_eq_append_getElem (by rw [List.length_set]; omega), List.take_set, List.set_eq_of_length_le (by simp; omega), hT, show k + (j + 1) = k + j + 1 from rfl, Dt.compact_take (by omega) (by omega), if_neg (fun h => c44 h.symm), List.getElem_set_self, hu]
                   · rw [List.getElem_set_ne (by omega)]
                     exact hS i (by rw [List.length_set] at h1; exact h1) h2 (by omega))
                | (refine ⟨hcl, by omega, by omega, hm1, by omega, ?_, fun i h1 h2 h3 => hS i h1 h2 (by omega)⟩
                   rw [hT, show k + (j + 1) = k + j + 1 from rfl, Dt.compact_take (by omega) (by omega), if_pos (Decidable.of_not_not c44).symm, List.append_nil])
              ·
                simp only [y1, y2, List.getElem_drop] at c44
                rw [hS (k + j) hj2 (by omega) (by omega), hS (k + (j - 1)) (by omega) (by omega) (by omega)] at c44
                simp only [y3] at c44
                refine C.skip ?_
                refine hK20 _ _ ?_
                refine hK19 _ _ ?_
                refine C.region ?_
                refine O.mv ?_
                refine O.addI s5_2 rfl (by unfold InI; omega) ?_
                refine O.asg ?_
                refine O.nil ?_
                refine ⟨(j + 1, _, _), ⟨rfl, s3_2, s0_2, s2_2, s4_2, (Ext.trans e_2 (Le.to e4)), (r0_2.keep e4), ?_⟩, by first | omega | (simp only []; omega)⟩
                first
                | (refine ⟨by rw [List.length_set]; exact hcl, by omega, by omega, by omega, by omega, ?_, fun i h1 h2 h3 => ?_⟩
                   · rw [List.take_succ_eq_append_getElem (by rw [List.length_set]; omega), List.take_set, List.set_eq_of_length_le (by simp; omega), hT, show k + (j + 1) = k + j + 1 from rfl, Dt.compact_take (by omega) (by omega), if_neg (fun h => c44 h.symm), List.getElem_set_self, hu]
                   · rw [List.getElem_set_ne (by omega)]
                     exact hS i (by rw [List.length_set] at h1; exact h1) h2 (by omega))
                | (refine ⟨hcl, by omega, by omega, hm1, by omega, ?_, fun i h1 h2 h3 => hS i h1 h2 (by omega)⟩
                   rw [hT, show k + (j + 1) = k + j + 1 from rfl, Dt.compact_take (by omega) (by omega), if_pos (Decidable.of_not_not c44).symm, List.append_nil])
            ·
              have hj3 : k + j = l.length := by simp at c32; omega
              refine C.exit ?_
              refine hK16 _ _ ?_
              refine hK14 _ _ ?_
              refine C.seqK fun K23 hK23 => ?_
              refine C.region ?_
              refine O.mv ?_
              refine O.mv ?_
              refine O.subHi Tryz.underlying22 Tryz.sizeOf51 (Eq.trans s0_2 s0_1) s3_2 (by omega) (by omega) ?_
              have hkw6 := r0_2
              rw [← hcl] at hkw6
              refine O.clearG (G := Dt.dotF) (zx := (0, 0)) (k := m) Tryz.underlying22 Tryz.zeroValue51 rfl (by rw [hcl]; exact rfl) hkw6 (by omega) (fun w6 hc6 e6 z6 => ?_)
              rw [hcl] at hc6
              refine O.nil ?_
              refine hK23 _ _ ?_
              refine C.seqK fun K24 hK24 => ?_
              refine C.region ?_
              refine O.mv ?_
              refine O.mv ?_
              refine O.subLo Tryz.underlying22 Tryz.sizeOf51 (Eq.trans s0_2 s0_1) s3_2 (by omega) (by omega) ?_
              refine O.asg ?_
              refine O.nil ?_
              refine hK24 _ _ ?_
              refine C.ret ?_
              refine Outs.one rfl rfl ?_
              first
              | (have q0 : Dt.compact l = l := by
                   rcases hq : l with _ | ⟨a, _ | ⟨b, r⟩⟩
                   · rfl
                   · rfl
                   · rw [hq] at c8; simp at c8; omega
                 refine ⟨congrArg (fun x : List Dt.Dot => Value.slice (some ⟨g, 0, none⟩) x.length cap) q0.symm, ?_, (Ext.trans (Ext.trans (Ext.trans (Le.to e_1) (Le.to e2)) e_2) e6)⟩
                 rw [q0]
                 exact hc6)
              | (have q0 : Dt.compact l = l := Dt.compact_distinct (fun i hi => hI i hi (by omega))
                 refine ⟨congrArg (fun x : List Dt.Dot => Value.slice (some ⟨g, 0, none⟩) x.length cap) q0.symm, ?_, (Ext.trans (Ext.trans (Ext.trans (Le.to e_1) (Le.to e2)) e_2) e6)⟩
                 rw [q0]
                 exact hc6)
              | (have q1 : c.take m = Dt.compact l := by rw [hT, hj3, List.take_length]
                 have q2 : (Dt.compact l).length = m := by rw [← q1, List.length_take]; omega
                 refine ⟨congrArg (fun x : Nat => Value.slice (some ⟨g, 0, none⟩) x cap) q2.symm, ?_, (Ext.trans (Ext.trans (Ext.trans (Le.to e_1) (Le.to e2)) e_2) e6)⟩
                 have hf := hc6
                 obtain ⟨X, hX⟩ : ∃ X : List Dt.Dot, X = c.take m ++ List.replicate (l.length - m) ((0, 0) : Dt.Dot) := ⟨_, rfl⟩
                 have hx : X.length = l.length := by rw [hX]; simp; omega
                 rw [← hX, ← hx] at hf
                 replace hf := hf.first (k := m) (by rw [hx]; omega)
                 rw [hX, List.take_append_of_le_length (by simp; omega), List.take_take, Nat.min_self, q1] at hf
                 exact hf)
        ·
          simp only [x0, x1] at c25
          refine C.skip ?_
          refine hK11 _ _ ?_
          refine hK10 _ _ ?_
          refine C.region ?_
          refine O.mv ?_
          refine O.addI s3_1 rfl (by unfold InI; omega) ?_
          refine O.asg ?_
          refine O.nil ?_
          refine ⟨k + 1, ⟨rfl, s0_1, (Ext.trans e_1 e2), (r0_1.keep e2), ?_⟩, by first | omega | (simp only []; omega)⟩
          refine ⟨by omega, by omega, fun i hi hik => ?_⟩
          rcases Nat.lt_or_eq_of_le (Nat.le_of_lt_succ hik) with h | rfl
          · exact hI i hi h
          · exact fun h => c25 h.symm
      ·
        refine C.exit ?_
        refine hK7 _ _ ?_
        refine hK5 _ _ ?_
        refine C.seqK fun K25 hK25 => ?_
        refine C.region ?_
        refine O.mv ?_
        refine O.asg ?_
        refine O.nil ?_
        refine hK25 _ _ ?_
        refine C.ret ?_
        refine Outs.one rfl s0_1 ?_
        first
        | (have q0 : Dt.compact l = l := by
             rcases hq : l with _ | ⟨a, _ | ⟨b, r⟩⟩
             · rfl
             · rfl
             · rw [hq] at c8; simp at c8; omega
           refine ⟨congrArg (fun x : List Dt.Dot => Value.slice (some ⟨g, 0, none⟩) x.length cap) q0.symm, ?_, (Le.to e_1)⟩
           rw [q0]
           exact r0_1)
        | (have q0 : Dt.compact l = l := Dt.compact_distinct (fun i hi => hI i hi (by omega))
           refine ⟨congrArg (fun x : List Dt.Dot => Value.slice (some ⟨g, 0, none⟩) x.length cap) q0.symm, ?_, (Le.to e_1)⟩
           rw [q0]
           exact r0_1)
        | (have q1 : c.take m = Dt.compact l := by rw [hT, hj3, List.take_length]
           have q2 : (Dt.compact l).length = m := by rw [← q1, List.length_take]; omega
           refine ⟨congrArg (fun x : Nat => Value.slice (some ⟨g, 0, none⟩) x cap) q2.symm, ?_, (Le.to e_1)⟩
           have hf := r0_1
           obtain ⟨X, hX⟩ : ∃ X : List Dt.Dot, X = c.take m ++ List.replicate (l.length - m) ((0, 0) : Dt.Dot) := ⟨_, rfl⟩
           have hx : X.length = l.length := by rw [hX]; simp; omega
           rw [← hX, ← hx] at hf
           replace hf := hf.first (k := m) (by rw [hx]; omega)
           rw [hX, List.take_append_of_le_length (by simp; omega), List.take_take, Nat.min_self, q1] at hf
           exact hf)

end Go.Proofs.YtnkcmaoaagnopaaGreatDoor
end
section
/-
  DERIVED: THE SHELF's CONTRACTS AT THIS DUMP, IN PLAIN WORDS (tools/lay-plain.mjs out of 'TrydSort.lean', which tools/lay-shelf.mjs wrote): THE SAME DECLARATIONS UNDER THE SAME NAMES: 'import', 'namespace', 'open', 'def', 'theorem' AND NOTHING ELSE: no command of the shelf's: FOR A HAND-IN. Each laying: the table of numbers ('.._ren') and one theorem, a field a fact of the dump's own or the kernel's comparison; each contract: ONE APPLICATION.
-/
namespace Go.Proofs
open Go.Shelf
def Tryz.sortF_ren : Go.Shelf.Ren := ⟨fun | 6 => 98 | 15 => 118 | 14 => 117 | 28 => 143 | 29 => 144 | 20 => 135 | 21 => 136 | 22 => 137 | 23 => 138 | 24 => 139 | 25 => 140 | 26 => 141 | 27 => 142 | 46 => 157 | 47 => 158 | 48 => 159 | 49 => 160 | 50 => 161 | 57 => 171 | n => n, fun | 22 => 22 | 24 => 51 | 25 => 135 | 3 => 3 | 39 => 155 | 0 => 0 | 53 => 48 | 55 => 49 | 4 => 4 | 46 => 182 | 45 => 181 | 50 => 186 | 5 => 5 | 9 => 9 | 66 => 200 | 70 => 203 | 76 => 209 | 77 => 210 | n => n, fun | n => n⟩
theorem Tryz.sortF : Go.Proofs.SlLaysF0.n6 Tryz.prog Tryz.sortF_ren := {
  mixed := by kernel_rfl
  f6 := ⟨Tryz.f98.name, by decide, Tryz.func98.trans (congrArg some (by kernel_rfl))⟩
  f14 := ⟨Tryz.f117.name, by decide, Tryz.func117.trans (congrArg some (by kernel_rfl))⟩
  f15 := Tryz.func118.trans (congrArg some (by kernel_rfl))
  f20 := ⟨Tryz.f135.name, by decide, Tryz.func135.trans (congrArg some (by kernel_rfl))⟩
  f21 := ⟨Tryz.f136.name, by decide, Tryz.func136.trans (congrArg some (by kernel_rfl))⟩
  f22 := ⟨Tryz.f137.name, by decide, Tryz.func137.trans (congrArg some (by kernel_rfl))⟩
  f23 := ⟨Tryz.f138.name, by decide, Tryz.func138.trans (congrArg some (by kernel_rfl))⟩
  f24 := ⟨Tryz.f139.name, by decide, Tryz.func139.trans (congrArg some (by kernel_rfl))⟩
  f25 := ⟨Tryz.f140.name, by decide, Tryz.func140.trans (congrArg some (by kernel_rfl))⟩
  f26 := ⟨Tryz.f141.name, by decide, Tryz.func141.trans (congrArg some (by kernel_rfl))⟩
  f27 := ⟨Tryz.f142.name, by decide, Tryz.func142.trans (congrArg some (by kernel_rfl))⟩
  f28 := Tryz.func143.trans (congrArg some (by kernel_rfl))
  f29 := Tryz.func144.trans (congrArg some (by kernel_rfl))
  f46 := ⟨Tryz.f157.name, by decide, Tryz.func157.trans (congrArg some (by kernel_rfl))⟩
  f47 := Tryz.func158.trans (congrArg some (by kernel_rfl))
  f48 := Tryz.func159.trans (congrArg some (by kernel_rfl))
  f49 := ⟨Tryz.f160.name, by decide, Tryz.func160.trans (congrArg some (by kernel_rfl))⟩
  f50 := ⟨Tryz.f161.name, by decide, Tryz.func161.trans (congrArg some (by kernel_rfl))⟩
  f57 := ⟨Tryz.f171.name, by decide, Tryz.func171.trans (congrArg some (by kernel_rfl))⟩
  t0 := Tryz.underlying0
  a0 := Tryz.isAgg0
  z0 := Tryz.sizeOf0
  v0 := Tryz.zeroValue0
  t3 := Tryz.underlying3
  a3 := Tryz.isAgg3
  z3 := Tryz.sizeOf3
  v3 := Tryz.zeroValue3
  t4 := Tryz.underlying4
  a4 := Tryz.isAgg4
  z4 := Tryz.sizeOf4
  v4 := Tryz.zeroValue4
  t5 := Tryz.underlying5
  a5 := Tryz.isAgg5
  z5 := Tryz.sizeOf5
  v5 := Tryz.zeroValue5
  t9 := Tryz.underlying9
  a9 := Tryz.isAgg9
  z9 := Tryz.sizeOf9
  v9 := Tryz.zeroValue9
  t22 := Tryz.underlying22
  a22 := Tryz.isAgg22
  z22 := Tryz.sizeOf22
  v22 := Tryz.zeroValue22
  t25 := Tryz.underlying135
  a25 := Tryz.isAgg135
  z25 := Tryz.sizeOf135
  v25 := Tryz.zeroValue135
  t39 := Tryz.underlying155
  a39 := Tryz.isAgg155
  z39 := Tryz.sizeOf155
  v39 := Tryz.zeroValue155
  t45 := Tryz.underlying181
  a45 := Tryz.isAgg181
  z45 := Tryz.sizeOf181
  v45 := Tryz.zeroValue181
  t46 := Tryz.underlying182
  a46 := Tryz.isAgg182
  z46 := Tryz.sizeOf182
  v46 := Tryz.zeroValue182
  t50 := Tryz.underlying186
  a50 := Tryz.isAgg186
  z50 := Tryz.sizeOf186
  v50 := Tryz.zeroValue186
  t53 := Tryz.underlying48
  a53 := Tryz.isAgg48
  z53 := Tryz.sizeOf48
  v53 := Tryz.zeroValue48
  t55 := Tryz.underlying49
  a55 := Tryz.isAgg49
  z55 := Tryz.sizeOf49
  v55 := Tryz.zeroValue49
  t66 := Tryz.underlying200
  a66 := Tryz.isAgg200
  z66 := Tryz.sizeOf200
  v66 := Tryz.zeroValue200
  t70 := Tryz.underlying203
  a70 := Tryz.isAgg203
  z70 := Tryz.sizeOf203
  v70 := Tryz.zeroValue203
  t76 := Tryz.underlying209
  a76 := Tryz.isAgg209
  z76 := Tryz.sizeOf209
  v76 := Tryz.zeroValue209
  t77 := Tryz.underlying210
  a77 := Tryz.isAgg210
  z77 := Tryz.sizeOf210
  v77 := Tryz.zeroValue210 }
end Go.Proofs
end
section
/-
  DERIVED: THE SHELF's CONTRACTS AT THIS DUMP, IN PLAIN WORDS (tools/lay-plain.mjs out of 'TryzShelf.lean', which tools/lay-shelf.mjs wrote): THE SAME DECLARATIONS UNDER THE SAME NAMES: 'import', 'namespace', 'open', 'def', 'theorem' AND NOTHING ELSE: no command of the shelf's: FOR A HAND-IN. Each laying: the table of numbers ('.._ren') and one theorem, a field a fact of the dump's own or the kernel's comparison; each contract: ONE APPLICATION.
-/
namespace Go.Proofs
open Go.Shelf
def Tryz.lays160_ren : Go.Shelf.Ren := ⟨fun | 160 => 113 | 232 => 128 | 231 => 127 | 227 => 129 | 234 => 131 | 233 => 130 | 236 => 133 | 235 => 132 | 228 => 152 | 271 => 155 | 151 => 154 | 197 => 153 | 120 => 166 | 152 => 165 | 260 => 164 | 137 => 172 | 119 => 173 | 224 => 169 | 225 => 168 | 217 => 167 | 266 => 174 | n => n, fun | 9 => 9 | 4 => 4 | 3 => 3 | 5 => 5 | 117 => 175 | 116 => 174 | 0 => 0 | 124 => 178 | 21 => 21 | 105 => 197 | 46 => 155 | 119 => 212 | 139 => 215 | 138 => 214 | n => n, fun | 3 => 1 | 4 => 2 | n => n⟩
theorem Tryz.lays160 : Go.Proofs.Lays.n160 Tryz.prog Tryz.lays160_ren := {
  mixed := by kernel_rfl
  f119 := Tryz.func173.trans (congrArg some (by kernel_rfl))
  f120 := Tryz.func166.trans (congrArg some (by kernel_rfl))
  f137 := Tryz.func172.trans (congrArg some (by kernel_rfl))
  f151 := Tryz.func154.trans (congrArg some (by kernel_rfl))
  f152 := Tryz.func165.trans (congrArg some (by kernel_rfl))
  f160 := Tryz.func113.trans (congrArg some (by kernel_rfl))
  f197 := Tryz.func153.trans (congrArg some (by kernel_rfl))
  f217 := Tryz.func167.trans (congrArg some (by kernel_rfl))
  f224 := Tryz.func169.trans (congrArg some (by kernel_rfl))
  f225 := Tryz.func168.trans (congrArg some (by kernel_rfl))
  f227 := Tryz.func129.trans (congrArg some (by kernel_rfl))
  f228 := Tryz.func152.trans (congrArg some (by kernel_rfl))
  f231 := Tryz.func127.trans (congrArg some (by kernel_rfl))
  f232 := Tryz.func128.trans (congrArg some (by kernel_rfl))
  f233 := Tryz.func130.trans (congrArg some (by kernel_rfl))
  f234 := Tryz.func131.trans (congrArg some (by kernel_rfl))
  f235 := Tryz.func132.trans (congrArg some (by kernel_rfl))
  f236 := Tryz.func133.trans (congrArg some (by kernel_rfl))
  f260 := Tryz.func164.trans (congrArg some (by kernel_rfl))
  f266 := Tryz.func174.trans (congrArg some (by kernel_rfl))
  f271 := Tryz.func155.trans (congrArg some (by kernel_rfl))
  t0 := Tryz.underlying0
  a0 := Tryz.isAgg0
  z0 := Tryz.sizeOf0
  v0 := Tryz.zeroValue0
  t3 := Tryz.underlying3
  a3 := Tryz.isAgg3
  z3 := Tryz.sizeOf3
  v3 := Tryz.zeroValue3
  t4 := Tryz.underlying4
  a4 := Tryz.isAgg4
  z4 := Tryz.sizeOf4
  v4 := Tryz.zeroValue4
  t5 := Tryz.underlying5
  a5 := Tryz.isAgg5
  z5 := Tryz.sizeOf5
  v5 := Tryz.zeroValue5
  t9 := Tryz.underlying9
  a9 := Tryz.isAgg9
  z9 := Tryz.sizeOf9
  v9 := Tryz.zeroValue9
  t21 := Tryz.underlying21
  a21 := Tryz.isAgg21
  z21 := Tryz.sizeOf21
  v21 := Tryz.zeroValue21
  t46 := Tryz.underlying155
  a46 := Tryz.isAgg155
  z46 := Tryz.sizeOf155
  v46 := Tryz.zeroValue155
  t105 := Tryz.underlying197
  a105 := Tryz.isAgg197
  z105 := Tryz.sizeOf197
  v105 := Tryz.zeroValue197
  t116 := Tryz.underlying174
  a116 := Tryz.isAgg174
  z116 := Tryz.sizeOf174
  t117 := Tryz.underlying175
  a117 := Tryz.isAgg175
  z117 := Tryz.sizeOf175
  v117 := Tryz.zeroValue175
  t119 := Tryz.underlying212
  a119 := Tryz.isAgg212
  z119 := Tryz.sizeOf212
  t124 := Tryz.underlying178
  a124 := Tryz.isAgg178
  z124 := Tryz.sizeOf178
  v124 := Tryz.zeroValue178
  t138 := Tryz.underlying214
  a138 := Tryz.isAgg214
  z138 := Tryz.sizeOf214
  v138 := Tryz.zeroValue214
  t139 := Tryz.underlying215
  a139 := Tryz.isAgg215
  z139 := Tryz.sizeOf215
  v139 := Tryz.zeroValue215
  g3 := by kernel_rfl
  g4 := by kernel_rfl }
open Go.RowKit in
/-- strings.Trim: "Trim returns a slice of the string s with all leading and trailing Unicode code points contained in cutset removed.": AT A cutset OF ONE ASCII BYTE. THE WORLD BEHIND IT: as it was, or (where s is not empty) with ONE DRAW MORE off the tape: the statement 'return trimLeftByte(trimRightByte(s, c), c)' draws its order of evaluation. (LAID: no walk: one application.) -/
theorem Tryz.strings_Trim_one (s : ByteArray) (c : UInt8) (hc : c.toNat < 128) (w : World) (hs : s.size ≤ 9223372036854775807) :
    Calls Tryz.prog 113 #[.string s, .string ⟨#[c]⟩] w fun e w' => e = .returned (.string ⟨(Lib.trimB s.data.toList c).toArray⟩) ∧ (w' = w ∨ w' = w.drew) := Any.strings_Trim_one Tryz.lays160 s c hc w hs
def Tryz.lays125_ren : Go.Shelf.Ren := ⟨fun | 125 => 118 | 128 => 143 | 129 => 144 | n => n, fun | 46 => 155 | 3 => 3 | 51 => 48 | 53 => 49 | 4 => 4 | 5 => 5 | 9 => 9 | n => n, fun | n => n⟩
theorem Tryz.lays125 : Go.Proofs.Lays.n125 Tryz.prog Tryz.lays125_ren := {
  mixed := by kernel_rfl
  f125 := Tryz.func118.trans (congrArg some (by kernel_rfl))
  f128 := Tryz.func143.trans (congrArg some (by kernel_rfl))
  f129 := Tryz.func144.trans (congrArg some (by kernel_rfl))
  t3 := Tryz.underlying3
  a3 := Tryz.isAgg3
  z3 := Tryz.sizeOf3
  v3 := Tryz.zeroValue3
  t4 := Tryz.underlying4
  a4 := Tryz.isAgg4
  z4 := Tryz.sizeOf4
  v4 := Tryz.zeroValue4
  t5 := Tryz.underlying5
  a5 := Tryz.isAgg5
  z5 := Tryz.sizeOf5
  v5 := Tryz.zeroValue5
  t9 := Tryz.underlying9
  a9 := Tryz.isAgg9
  z9 := Tryz.sizeOf9
  v9 := Tryz.zeroValue9
  t46 := Tryz.underlying155
  a46 := Tryz.isAgg155
  z46 := Tryz.sizeOf155
  v46 := Tryz.zeroValue155
  t51 := Tryz.underlying48
  a51 := Tryz.isAgg48
  z51 := Tryz.sizeOf48
  v51 := Tryz.zeroValue48
  t53 := Tryz.underlying49
  a53 := Tryz.isAgg49
  z53 := Tryz.sizeOf49
  v53 := Tryz.zeroValue49 }
/-- bits.Len: "Len returns the minimum number of bits required to represent x; the result is 0 for x == 0.": IT RETURNS 'Lib.bitLen x'; the world is as it was. (A uint has 64 bits in the model.) ITS CALLEE bits.Len64 IS MET BY ITS OWN CONTRACT OFF THE SHELF (lay that first). (LAID: no walk: one application.) -/
theorem Tryz.bits_Len (x : Int) (w : World) (h0 : 0 ≤ x) (h1 : x ≤ 18446744073709551615) :
    Calls Tryz.prog 118 #[.int .u64 x] w fun e w' => e = .returned (.int .i64 (Lib.bitLen x.toNat)) ∧ w' = w := Any.bits_Len Tryz.lays125 x w h0 h1
def Tryz.lays144_ren : Go.Shelf.Ren := ⟨fun | 144 => 114 | 143 => 134 | 219 => 156 | 217 => 167 | 225 => 168 | 224 => 169 | 267 => 170 | 266 => 174 | 314 => 175 | n => n, fun | 9 => 9 | 4 => 4 | 3 => 3 | 5 => 5 | 46 => 155 | 146 => 217 | 51 => 48 | n => n, fun | 1 => 0 | n => n⟩
theorem Tryz.lays144 : Go.Proofs.Lays.n144 Tryz.prog Tryz.lays144_ren := {
  mixed := by kernel_rfl
  f143 := Tryz.func134.trans (congrArg some (by kernel_rfl))
  f144 := Tryz.func114.trans (congrArg some (by kernel_rfl))
  f217 := Tryz.func167.trans (congrArg some (by kernel_rfl))
  f219 := Tryz.func156.trans (congrArg some (by kernel_rfl))
  f224 := Tryz.func169.trans (congrArg some (by kernel_rfl))
  f225 := Tryz.func168.trans (congrArg some (by kernel_rfl))
  f266 := Tryz.func174.trans (congrArg some (by kernel_rfl))
  f267 := Tryz.func170.trans (congrArg some (by kernel_rfl))
  f314 := Tryz.func175.trans (congrArg some (by kernel_rfl))
  t3 := Tryz.underlying3
  a3 := Tryz.isAgg3
  z3 := Tryz.sizeOf3
  v3 := Tryz.zeroValue3
  t4 := Tryz.underlying4
  a4 := Tryz.isAgg4
  z4 := Tryz.sizeOf4
  v4 := Tryz.zeroValue4
  t5 := Tryz.underlying5
  a5 := Tryz.isAgg5
  z5 := Tryz.sizeOf5
  v5 := Tryz.zeroValue5
  t9 := Tryz.underlying9
  a9 := Tryz.isAgg9
  z9 := Tryz.sizeOf9
  v9 := Tryz.zeroValue9
  t46 := Tryz.underlying155
  a46 := Tryz.isAgg155
  z46 := Tryz.sizeOf155
  v46 := Tryz.zeroValue155
  t51 := Tryz.underlying48
  a51 := Tryz.isAgg48
  z51 := Tryz.sizeOf48
  v51 := Tryz.zeroValue48
  t146 := Tryz.underlying217
  a146 := Tryz.isAgg217
  z146 := Tryz.sizeOf217
  v146 := Tryz.zeroValue217
  g1 := by kernel_rfl }
open Go.RowKit Go.Lib in
/-- strings.Contains: "Contains reports whether substr is within s.": IT RETURNS 'Lib.contains s substr'; the world is as it was. (LAID: no walk: one application.) -/
theorem Tryz.strings_Contains (s sub : ByteArray) (m : Int) (w : World) (hs : s.size < 4294967281) (hm : w.cell? ⟨0, 0, none⟩ = some (.int .i64 m)) :
    Calls Tryz.prog 114 #[.string s, .string sub] w fun e w' => e = .returned (.bool (Lib.contains s.data.toList sub.data.toList)) ∧ w' = w := Any.strings_Contains Tryz.lays144 s sub m w hs hm
def Tryz.laysM144_ren : Go.Shelf.Ren := ⟨fun | 144 => 114 | 143 => 134 | 219 => 156 | 217 => 167 | 225 => 168 | 224 => 169 | 267 => 170 | 266 => 174 | 314 => 175 | n => n, fun | 9 => 9 | 4 => 4 | 3 => 3 | 5 => 5 | 46 => 155 | 146 => 217 | 51 => 48 | n => n, fun | 1 => 0 | n => n⟩
theorem Tryz.laysM144 : Go.Proofs.LaysM.n144 Tryz.prog Tryz.laysM144_ren := {
  mixed := by kernel_rfl
  f143 := Tryz.func134.trans (congrArg some (by kernel_rfl))
  f144 := Tryz.func114.trans (congrArg some (by kernel_rfl))
  f217 := Tryz.func167.trans (congrArg some (by kernel_rfl))
  f219 := Tryz.func156.trans (congrArg some (by kernel_rfl))
  f224 := Tryz.func169.trans (congrArg some (by kernel_rfl))
  f225 := Tryz.func168.trans (congrArg some (by kernel_rfl))
  f266 := Tryz.func174.trans (congrArg some (by kernel_rfl))
  f267 := Tryz.func170.trans (congrArg some (by kernel_rfl))
  f314 := Tryz.func175.trans (congrArg some (by kernel_rfl))
  t3 := Tryz.underlying3
  a3 := Tryz.isAgg3
  z3 := Tryz.sizeOf3
  v3 := Tryz.zeroValue3
  t4 := Tryz.underlying4
  a4 := Tryz.isAgg4
  z4 := Tryz.sizeOf4
  v4 := Tryz.zeroValue4
  t5 := Tryz.underlying5
  a5 := Tryz.isAgg5
  z5 := Tryz.sizeOf5
  v5 := Tryz.zeroValue5
  t9 := Tryz.underlying9
  a9 := Tryz.isAgg9
  z9 := Tryz.sizeOf9
  v9 := Tryz.zeroValue9
  t46 := Tryz.underlying155
  a46 := Tryz.isAgg155
  z46 := Tryz.sizeOf155
  v46 := Tryz.zeroValue155
  t51 := Tryz.underlying48
  a51 := Tryz.isAgg48
  z51 := Tryz.sizeOf48
  v51 := Tryz.zeroValue48
  t146 := Tryz.underlying217
  a146 := Tryz.isAgg217
  z146 := Tryz.sizeOf217
  v146 := Tryz.zeroValue217
  g1 := by kernel_rfl
  i3 := by kernel_rfl
  i4 := by kernel_rfl
  i5 := by kernel_rfl
  i9 := by kernel_rfl
  i46 := by kernel_rfl
  i51 := by kernel_rfl
  i146 := by kernel_rfl
  m1 := by kernel_rfl
  s1_3 := fun w h => Go.Proofs.cell_of_shapedOpen_int (zero := #[.int .i64 0]) (t := 3) h (of_decide_eq_true (by kernel_rfl)) (by kernel_rfl) rfl (by kernel_rfl) (by kernel_rfl) Tryz.underlying3 }
end Go.Proofs
end
section
/-
  The walks of dots: sets of lists. Conditions: slices as they lie in memory.
-/
namespace Go.Proofs.YtnkcmaoaagnopaaGreatDoor
open Go.Pn Go.RowKit Go.Proofs
attribute [local irreducible] O C D
theorem _root_.Go.Pn.OwnF.lst {α : Type} {G : Flat α} {ty : TypeId} {B : Nat} {w : World} {v : Value} {xs ys : List α} (h : OwnF G ty B w v xs) (e : xs = ys) : OwnF G ty B w v ys := e ▸ h


theorem blen_spec (w : World) : Ret Tryz.prog 118 #[.int .u64 ((0#64).toNat : Int)] w (fun v w' => (∃ k : Int, v = .int .i64 k) ∧ w' = w) := by
  refine Ret.of (Tryz.bits_Len 0 w (by decide) (by decide)) ?_
  rintro e w' ⟨rfl, rfl⟩
  exact ⟨_, rfl, ⟨_, rfl⟩, rfl⟩

theorem ins0_spec (w : World) :
    Ret Tryz.prog 135 #[.slice none 0 0, .int .i64 (0), .int .i64 (0), .func (.func 89) #[] #[]] w (fun v w' => v = .tuple #[] ∧ w' = w) := by
  refine enter (args := [.slice none 0 0, .int .i64 (0), .int .i64 (0), .func (.func 89) #[] #[]]) (n := 53) Tryz.func135 rfl rfl (Nat.le_of_ble_eq_true rfl) ?_
  refine C.seqK fun K1 hK1 => ?_
  refine C.region ?_
  refine O.mv ?_
  refine O.addI rfl rfl (by unfold InI; omega) ?_
  refine O.cast (v' := .int .i64 (1)) rfl ?_
  refine O.asg ?_
  refine O.nil ?_
  refine hK1 _ _ ?_
  refine C.block fun K2 hK2 => ?_
  refine C.loop0 (σ := Nat) (fun f0 w0 z f w => f 8 = .int .i64 (1) ∧ f 0 = f0 0 ∧ f 1 = f0 1 ∧ f 2 = f0 2 ∧ f 3 = f0 3 ∧ w = w0) (fun z => z) 0 ?_ ?_
  ·
    exact ⟨rfl, rfl, rfl, rfl, rfl, rfl⟩
  ·
    rintro z f_1 wx ⟨s8_1, s0_1, s1_1, s2_1, s3_1, rfl⟩
    refine C.seqK fun K3 hK3 => ?_
    refine C.seqK fun K4 hK4 => ?_
    refine C.region ?_
    refine O.mv ?_
    refine O.mv ?_
    refine O.lssI s8_1 s2_1 ?_
    refine O.cast (v' := .bool false) rfl ?_
    refine O.nil ?_
    refine hK4 _ _ ?_
    refine C.condF rfl ?_
    refine C.exit ?_
    refine hK2 _ _ ?_
    refine Outs.none rfl ?_
    exact ⟨rfl, rfl⟩

theorem pdq0_spec (lim : Int) (w : World) :
    Ret Tryz.prog 117 #[.slice none 0 0, .int .i64 (0), .int .i64 (0), .int .i64 (lim), .func (.func 89) #[] #[]] w (fun v w' => v = .tuple #[] ∧ w' = w) := by
  refine enter (args := [.slice none 0 0, .int .i64 (0), .int .i64 (0), .int .i64 (lim), .func (.func 89) #[] #[]]) (n := 148) Tryz.func117 rfl rfl (Nat.le_of_ble_eq_true rfl) ?_
  refine C.seqK fun K1 hK1 => ?_
  refine C.region ?_
  refine O.asg ?_
  refine O.nil ?_
  refine hK1 _ _ ?_
  refine C.seqK fun K2 hK2 => ?_
  refine C.region ?_
  refine O.asg ?_
  refine O.nil ?_
  refine hK2 _ _ ?_
  refine C.block fun K3 hK3 => ?_
  refine C.loop0 (σ := Nat) (fun f0 w0 z f w => f 1 = .int .i64 (0) ∧ f 2 = .int .i64 (0) ∧ f 10 = .bool (true) ∧ f 11 = .bool (true) ∧ f 0 = f0 0 ∧ f 4 = f0 4 ∧ w = w0) (fun z => z) 0 ?_ ?_
  ·
    exact ⟨rfl, rfl, rfl, rfl, rfl, rfl, rfl⟩
  ·
    rintro z f_1 wx ⟨s1_1, s2_1, s10_1, s11_1, s0_1, s4_1, rfl⟩
    refine C.block fun K4 hK4 => ?_
    refine C.seqK fun K5 hK5 => ?_
    refine C.region ?_
    refine O.mv ?_
    refine O.mv ?_
    refine O.subI s2_1 s1_1 (by unfold InI; omega) ?_
    refine O.cast (v' := .int .i64 (0)) rfl ?_
    refine O.asg ?_
    refine O.nil ?_
    refine hK5 _ _ ?_
    refine C.seqK fun K6 hK6 => ?_
    refine C.seqK fun K7 hK7 => ?_
    refine C.region ?_
    refine O.mv ?_
    refine O.leqI rfl rfl ?_
    refine O.cast (v' := .bool true) rfl ?_
    refine O.nil ?_
    refine hK7 _ _ ?_
    refine C.condT rfl ?_
    refine C.seqK fun K8 hK8 => ?_
    refine C.region ?_
    refine O.mv ?_
    refine O.mv ?_
    refine O.mv ?_
    refine O.mv ?_
    refine O.call Tryz.call135 (args4 s0_1 s1_1 s2_1 s4_1) (ins0_spec _) ?_
    rintro v_30 w1 ⟨rfl, hw_⟩
    replace hw_ := hw_.symm
    subst hw_
    refine O.nil ?_
    refine hK8 _ _ ?_
    refine C.ret ?_
    refine Outs.none rfl ?_
    exact ⟨rfl, rfl⟩

theorem sort0_spec (w : World) :
    Ret Tryz.prog 98 #[.slice none 0 0, .func (.func 89) #[] #[]] w (fun v w' => v = .tuple #[] ∧ w' = w) := by
  refine enter (args := [.slice none 0 0, .func (.func 89) #[] #[]]) (n := 14) Tryz.func98 rfl rfl (Nat.le_of_ble_eq_true rfl) ?_
  refine C.seqK fun K1 hK1 => ?_
  refine C.region ?_
  refine O.mv ?_
  refine O.lenL Tryz.underlying22 rfl ?_
  refine O.cast (v' := .int .i64 0) rfl ?_
  refine O.asg ?_
  refine O.nil ?_
  refine hK1 _ _ ?_
  refine C.region ?_
  refine O.mv ?_
  refine O.mv ?_
  refine O.mv ?_
  refine O.convIU (m' := 64) Tryz.underlying3 Tryz.underlying155 rfl rfl rfl ?_
  refine O.cast (v' := .int .u64 ((0#64).toNat : Int)) rfl ?_
  refine O.call Tryz.call118 (args1 rfl) (blen_spec _) ?_
  rintro v_11 w1 ⟨⟨kv11, rfl⟩, rfl⟩
  refine O.mv ?_
  refine O.call Tryz.call117 (args5 rfl rfl rfl rfl rfl) (pdq0_spec _ _) ?_
  rintro v_13 w1 ⟨rfl, hw_⟩
  replace hw_ := hw_.symm
  subst hw_
  refine O.nil ?_
  refine Outs.none rfl ?_
  exact ⟨rfl, rfl⟩

theorem compact0_spec (w : World) :
    Ret Tryz.prog 99 #[.slice none 0 0] w (fun v w' => v = .slice none 0 0 ∧ w' = w) := by
  refine enter (args := [.slice none 0 0]) (n := 61) Tryz.func99 rfl rfl (Nat.le_of_ble_eq_true rfl) ?_
  refine C.seqK fun K1 hK1 => ?_
  refine C.region ?_
  refine O.asg ?_
  refine O.nil ?_
  refine hK1 _ _ ?_
  refine C.seqK fun K2 hK2 => ?_
  refine C.seqK fun K3 hK3 => ?_
  refine C.region ?_
  refine O.mv ?_
  refine O.lenL Tryz.underlying22 rfl ?_
  refine O.cast (v' := .int .i64 0) rfl ?_
  refine O.lssI rfl rfl ?_
  refine O.cast (v' := .bool true) rfl ?_
  refine O.nil ?_
  refine hK3 _ _ ?_
  refine C.condT rfl ?_
  refine C.seqK fun K4 hK4 => ?_
  refine C.region ?_
  refine O.mv ?_
  refine O.asg ?_
  refine O.nil ?_
  refine hK4 _ _ ?_
  refine C.ret ?_
  refine Outs.one rfl rfl ?_
  exact ⟨rfl, rfl⟩


theorem swoD : Go.Sort.SWO (ltOf Dt.cmp) where
  irrefl x := by unfold ltOf; exact decide_eq_false (fun h => Dt.less_irrefl x ((Dt.cmp_lt x x).1 h))
  trans x y z h1 h2 := by
    unfold ltOf at *
    simp only [decide_eq_true_eq, Dt.cmp_lt] at *
    exact Dt.less_trans h1 h2
  ntrans x y z h1 h2 := by
    unfold ltOf at *
    simp only [decide_eq_false_iff_not, Dt.cmp_lt] at *
    intro h
    rcases Dt.less_total y z with k | k | k
    · exact h2 k
    · subst k; exact h1 h
    · exact h1 (Dt.less_trans h k)
theorem sortD_spec (v : Value) (l : List Dt.Dot) (B : Nat) (w : World) (h : OwnF Dt.dotF 51 B w v l) (hn : l.length ≤ 1000000000000) :
    Ret Tryz.prog 98 #[v, .func (.func 89) #[] #[]] w (fun r w' => r = .tuple #[] ∧ (∃ l' : List Dt.Dot, OwnF Dt.dotF 51 B w' v l' ∧ l'.Perm l ∧ l'.Pairwise (fun a b => ¬ Dt.Less b a)) ∧ Ext (bk v) w w') := by
  rcases h.1.2 with ⟨rfl, h0⟩ | ⟨g, cap, cur, rfl, _⟩
  · obtain rfl : l = [] := List.eq_nil_of_length_eq_zero h0
    refine (sort0_spec w).mono ?_
    rintro e w' ⟨rfl, rfl⟩
    exact ⟨rfl, ⟨[], h, List.Perm.refl _, List.Pairwise.nil⟩, Ext.refl _ _⟩
  · obtain ⟨hH, hlt⟩ := h.holdsK
    have eg : ∀ args w, (callFunc 89 args).run Tryz.prog w = .ok (.enter 89 args) w := enters_of Tryz.func89 (by kernel_rfl) rfl
    have hcmp : CmpLays Tryz.prog 89 #[] Dt.dotF.e Dt.dotF.sz Dt.cmp g 0 l.toArray.size w := fun m os dk hs x y =>
      (cmp_spec x y _).calls.mono fun e w' hh => by
        obtain ⟨v, he, hv, hle, hd⟩ := hh
        exact ⟨by rw [he, hv], grow_of_le hle hd⟩
    have hs : l.toArray.size < 4611686018427387904 := by simp; omega
    have hcon := AnyQ.slices_SortFunc Tryz.sortF Dt.dotF.sz Tryz.isAgg51 Tryz.sizeOf51 Dt.dotF.e Dt.dotF.len Dt.dotF.one Dt.cmp swoD 89 #[] g 0 cap l.toArray w eg hcmp hH hlt hs
    refine Ret.of hcon ?_
    rintro e w' ⟨rfl, d', m, os, hp, hso, rfl⟩
    obtain ⟨hd, _, hperm⟩ := hp
    have hd2 : d'.size = l.length := by simpa using hd
    obtain ⟨h1, h2⟩ := h.sortedK hd2 m os
    refine ⟨_, rfl, rfl, ⟨d'.toList, h1, ?_, ?_⟩, h2.mono fun k _ hk => hk⟩
    · have e1 : (l.toArray.extract 0 l.toArray.size).toList = l := by simp
      have e2 : (d'.extract 0 l.toArray.size).toList = d'.toList := by rw [← hd]; simp
      rw [e1, e2] at hperm
      exact hperm
    · rw [List.pairwise_iff_getElem]
      intro i j hi hj hij
      have hi2 : i < d'.size := by simpa using hi
      have hj2 : j < d'.size := by simpa using hj
      have h3 := hso i j (Nat.zero_le _) hij (by simpa [hd2] using hj)
      unfold ltOf at h3
      simp only [decide_eq_false_iff_not] at h3
      rw [Dt.cmp_lt, getElem!_pos d' i hi2, getElem!_pos d' j hj2] at h3
      simpa using h3
theorem compactD_spec (v : Value) (l : List Dt.Dot) (B : Nat) (w : World) (h : OwnF Dt.dotF 51 B w v l) (hn : l.length ≤ 1000000000000) :
    Ret Tryz.prog 99 #[v] w (fun r w' => OwnF Dt.dotF 51 B w' r (Dt.compact l) ∧ Ext (bk v) w w') := by
  rcases h.1.2 with ⟨rfl, h0⟩ | ⟨g, cap, cur, rfl, _⟩
  · obtain rfl : l = [] := List.eq_nil_of_length_eq_zero h0
    refine (compact0_spec w).mono ?_
    rintro e w' ⟨rfl, rfl⟩
    exact ⟨h, Ext.refl _ _⟩
  · refine (compact_a_spec g cap B l w h hn).mono ?_
    rintro e w' ⟨rfl, h1, h2⟩
    exact ⟨h1, h2.mono fun k _ hk => hk⟩

theorem set_spec (v0 : Value) (l : List Dt.Dot) (F : Nat → Prop) (w : World) (hl : Sl Dt.dotF.enc w F v0 l) (hn : l.length ≤ 1000000000000) :
    Ret Tryz.prog 70 #[v0] w (fun v w' => Le w w' ∧ OwnF Dt.dotF 51 w.heap.size w' v (Dt.set l)) := by
  refine enter (args := [v0]) (n := 10) Tryz.func70 rfl rfl (Nat.le_of_ble_eq_true rfl) ?_
  refine C.seqK fun K1 hK1 => ?_
  refine C.region ?_
  refine O.asg ?_
  refine O.nil ?_
  refine hK1 _ _ ?_
  refine C.seqK fun K2 hK2 => ?_
  refine C.region ?_
  refine O.mv ?_
  refine O.call Tryz.call97 (args1 rfl) (clone_spec _ _ _ _ hl hn) ?_
  rintro v_5 w1 ⟨e1, h5⟩
  have z1 := e1.size
  refine O.asg ?_
  refine O.nil ?_
  refine hK2 _ _ ?_
  refine C.seqK fun K3 hK3 => ?_
  refine C.region ?_
  refine O.mv ?_
  refine O.call Tryz.call98 (args2 rfl rfl) (sortD_spec _ _ _ _ h5 hn) ?_
  rintro v_7 w2 ⟨rfl, ⟨l7, hs7, hp7, ha7⟩, e2⟩
  have z2 := e2.size
  refine O.nil ?_
  refine hK3 _ _ ?_
  refine C.seqK fun K4 hK4 => ?_
  refine C.region ?_
  refine O.mv ?_
  refine O.call Tryz.call99 (args1 rfl) (compactD_spec _ _ _ _ hs7 (by rw [hp7.length_eq]; exact hn)) ?_
  rintro v_9 w3 ⟨h9, e3⟩
  have z3 := e3.size
  refine O.asg ?_
  refine O.nil ?_
  refine hK4 _ _ ?_
  refine C.ret ?_
  refine Outs.one rfl rfl ?_
  refine ⟨(Ext.new (Ext.new e1 e2 (by intro i hi h; have := h5.bk_ge i h; omega)) e3 (by intro i hi h; have := hs7.bk_ge i h; omega)), ?_⟩
  rw [← Dt.set_of_sorted hp7 ha7]
  exact h9

end Go.Proofs.YtnkcmaoaagnopaaGreatDoor
end
section
/-
  The walks of names and items. Conditions: slices as they lie in memory.
-/
namespace Go.Proofs.YtnkcmaoaagnopaaGreatDoor
open Go.Pn Go.RowKit Go.Proofs
attribute [local irreducible] O C D


/-- The library's variable that says up to which length a search is short. -/
structure Mx (w : World) : Prop where
  h : ∃ m : Int, CellIs w 0 (.int .i64 m)
theorem Mx.keep {w w' : World} (h : Mx w) (e : Le w w') : Mx w' := by obtain ⟨m, hm⟩ := h.h; exact ⟨m, hm.keep e⟩
theorem trim_spec (l : List UInt8) (w : World) (hl : l.length ≤ 281474976710656) : Ret Tryz.prog 113 #[str l, str [32]] w (fun v w' => v = str (Lib.trimB l 32) ∧ Le w w') := by
  refine Ret.of (Tryz.strings_Trim_one ⟨l.toArray⟩ 32 (by decide) w (by simp [ByteArray.size]; omega)) ?_
  rintro e w' ⟨rfl, rfl | rfl⟩
  · exact ⟨_, rfl, rfl, Le.refl _⟩
  · exact ⟨_, rfl, rfl, Le.drew w⟩
theorem has2_spec (l : List UInt8) (w : World) (hl : l.length ≤ 10000000) (mx : Mx w) : Ret Tryz.prog 114 #[str l, str [32, 32]] w (fun v w' => v = .bool (Lib.contains l [32, 32]) ∧ Le w w') := by
  obtain ⟨m, hm⟩ := mx.h
  refine Ret.of (Tryz.strings_Contains ⟨l.toArray⟩ ⟨[32, 32].toArray⟩ m w (by simp [ByteArray.size]; omega) hm) ?_
  rintro e w' ⟨rfl, rfl⟩
  exact ⟨_, rfl, rfl, Le.refl _⟩

theorem okName_spec (s : List UInt8) (w : World) (hl : s.length ≤ 1000000) (mx : Mx w) :
    Ret Tryz.prog 92 #[str (s)] w (fun v w' => v = .bool (Cn.okName s) ∧ Le w w') := by
  refine enter (args := [str (s)]) (n := 38) Tryz.func92 rfl rfl (Nat.le_of_ble_eq_true rfl) ?_
  refine C.seqK fun K1 hK1 => ?_
  refine C.region ?_
  refine O.asg ?_
  refine O.nil ?_
  refine hK1 _ _ ?_
  refine C.seqK fun K2 hK2 => ?_
  refine C.seqK fun K3 hK3 => ?_
  refine C.region ?_
  refine O.mv ?_
  refine O.strB Tryz.underlying9 Tryz.underlying32 Tryz.underlying5 rfl (by unfold maxLen; omega) (fun b6 cap6 w1 hb6 hc6 h6 hs6 e1 => ?_)
  have z1 := e1.size
  refine O.len Tryz.underlying32 rfl hs6 ?_
  refine O.mv ?_
  refine O.nil ?_
  refine hK3 _ _ ?_
  refine C.block fun K4 hK4 => ?_
  refine C.loop0 (σ := Nat) (fun f0 w0 k f w => f 8 = .int .i64 (k) ∧ f 0 = f0 0 ∧ f 6 = f0 6 ∧ f 7 = f0 7 ∧ Le w0 w ∧ k ≤ s.length ∧ ∀ i, ∀ h : i < s.length, i < k → Cn.okC s[i] = true) (fun k => s.length - k) 0 ?_ ?_
  ·
    refine ⟨rfl, rfl, rfl, rfl, Le.refl _, ?_⟩
    exact ⟨Nat.zero_le _, fun i h k => absurd k (Nat.not_lt_zero _)⟩
  ·
    rintro k f_1 w2 ⟨s8_1, s0_1, s6_1, s7_1, e_1, ⟨hk, hI⟩⟩
    have z_1 := e_1.size
    refine C.seqK fun K5 hK5 => ?_
    refine C.region ?_
    refine O.lssI s8_1 s7_1 ?_
    refine O.nil ?_
    refine hK5 _ _ ?_
    refine C.seqK fun K6 hK6 => ?_
    refine C.condD rfl (fun c9 => ?_) (fun c9 => ?_)
    ·
      have hk2 : k < s.length := by omega
      refine C.skip ?_
      refine hK6 _ _ ?_
      refine C.seqK fun K7 hK7 => ?_
      refine C.block fun K8 hK8 => ?_
      refine C.seqK fun K9 hK9 => ?_
      refine C.region ?_
      refine O.idx Tryz.underlying32 Tryz.sizeOf5 rfl s6_1 (hs6.keep e_1) s8_1 (by omega) (fun a10 h10 => ?_)
      refine O.loadB Tryz.isAgg5 rfl h10 ?_
      refine O.asg ?_
      refine O.nil ?_
      refine hK9 _ _ ?_
      refine C.seqK fun K10 hK10 => ?_
      refine C.region ?_
      refine O.mv ?_
      refine O.lssU (m := 8) (b := 32#8) rfl rfl ?_
      refine O.mv ?_
      refine O.splitD (x := .tmp 14) rfl (fun c14 => ?_) (fun c14 => ?_)
      ·
        simp only [Int.toNat_natCast] at c14
        refine O.no rfl (noB (isT rfl c14) rfl) ?_
        refine O.no rfl (noB (isT rfl c14) rfl) ?_
        refine O.pickT (isT rfl c14) ?_
        refine O.nil ?_
        refine hK10 _ _ ?_
        refine C.condT rfl ?_
        refine C.seqK fun K11 hK11 => ?_
        refine C.region ?_
        refine O.asg ?_
        refine O.nil ?_
        refine hK11 _ _ ?_
        refine C.ret ?_
        refine Outs.one rfl rfl ?_
        first
        | exact ⟨congrArg Value.bool (Cn.okName_all hk2 (Cn.okC_lo c14)).symm, (Ext.trans e1 e_1)⟩
        | exact ⟨congrArg Value.bool (Cn.okName_all hk2 (Cn.okC_hi c17)).symm, (Ext.trans e1 e_1)⟩
        | (refine ⟨congrArg Value.bool ?_, (Ext.trans e1 e_1)⟩
           unfold Cn.okName
           rw [hall]
           first
           | (rw [decide_eq_false (p := 1 ≤ s.length ∧ s.length ≤ 64) (by omega)]; rfl)
           | (rw [decide_eq_true (p := 1 ≤ s.length ∧ s.length ≤ 64) (by omega), decide_eq_false c33]; rfl)
           | (rw [decide_eq_true (p := 1 ≤ s.length ∧ s.length ≤ 64) (by omega), decide_eq_true c33]; rfl))
      ·
        simp only [Int.toNat_natCast] at c14
        refine O.yes rfl (isF rfl c14) ?_
        refine O.mv ?_
        refine O.yes rfl (isF rfl c14) ?_
        refine O.gtrU (m := 8) (b := 126#8) rfl rfl ?_
        refine O.pickF (isF rfl c14) ?_
        refine O.nil ?_
        refine hK10 _ _ ?_
        refine C.condD rfl (fun c17 => ?_) (fun c17 => ?_)
        ·
          simp only [Int.toNat_natCast] at c17
          refine C.seqK fun K12 hK12 => ?_
          refine C.region ?_
          refine O.asg ?_
          refine O.nil ?_
          refine hK12 _ _ ?_
          refine C.ret ?_
          refine Outs.one rfl rfl ?_
          first
          | exact ⟨congrArg Value.bool (Cn.okName_all hk2 (Cn.okC_lo c14)).symm, (Ext.trans e1 e_1)⟩
          | exact ⟨congrArg Value.bool (Cn.okName_all hk2 (Cn.okC_hi c17)).symm, (Ext.trans e1 e_1)⟩
          | (refine ⟨congrArg Value.bool ?_, (Ext.trans e1 e_1)⟩
             unfold Cn.okName
             rw [hall]
             first
             | (rw [decide_eq_false (p := 1 ≤ s.length ∧ s.length ≤ 64) (by omega)]; rfl)
             | (rw [decide_eq_true (p := 1 ≤ s.length ∧ s.length ≤ 64) (by omega), decide_eq_false c33]; rfl)
             | (rw [decide_eq_true (p := 1 ≤ s.length ∧ s.length ≤ 64) (by omega), decide_eq_true c33]; rfl))
        ·
          simp only [Int.toNat_natCast] at c17
          refine C.skip ?_
          refine hK8 _ _ ?_
          refine hK7 _ _ ?_
          refine C.region ?_
          refine O.addI s8_1 rfl (by unfold InI; omega) ?_
          refine O.mv ?_
          refine O.nil ?_
          refine ⟨k + 1, ⟨rfl, s0_1, s6_1, s7_1, e_1, ?_⟩, by first | omega | (simp only []; omega)⟩
          refine ⟨by omega, fun i hi hik => ?_⟩
          rcases Nat.lt_or_eq_of_le (Nat.le_of_lt_succ hik) with h | rfl
          · exact hI i hi h
          · exact Cn.okC_ok c14 c17
    ·
      have hall : s.all Cn.okC = true := Cn.all_yes fun i hi => hI i hi (by omega)
      refine C.exit ?_
      refine hK4 _ _ ?_
      refine hK2 _ _ ?_
      refine C.seqK fun K13 hK13 => ?_
      refine C.region ?_
      refine O.mv ?_
      refine O.lenS Tryz.underlying9 s0_1 ?_
      refine O.geqI rfl rfl ?_
      refine O.mv ?_
      refine O.cut 4 (fun f f' => f' 26 = .bool (decide ((s.length : Int) ≥ 1 ∧ (s.length : Int) ≤ 64)) ∧ f' 0 = f 0) ?_ ?_
      ·
        refine O.splitD (x := .tmp 22) rfl (fun c22 => ?_) (fun c22 => ?_)
        ·
          refine O.yes rfl (isT rfl c22) ?_
          refine O.mv ?_
          refine O.yes rfl (isT rfl c22) ?_
          refine O.lenS Tryz.underlying9 s0_1 ?_
          refine O.yes rfl (isT rfl c22) ?_
          refine O.leqI rfl rfl ?_
          refine O.pickT (isT rfl c22) ?_
          refine O.nil ?_
          refine ⟨⟨?_, rfl⟩, rfl⟩
          first | exact rfl | exact Eq.trans rfl (congrArg Value.bool (dAnd (by assumption))) | exact Eq.trans rfl (congrArg Value.bool (dAndF (by assumption))) | exact Eq.trans rfl (congrArg Value.bool (dOr (by assumption))) | exact Eq.trans rfl (congrArg Value.bool (dOrT (by assumption)))
        ·
          refine O.no rfl (noB (isF rfl c22) rfl) ?_
          refine O.no rfl (noB (isF rfl c22) rfl) ?_
          refine O.no rfl (noB (isF rfl c22) rfl) ?_
          refine O.pickF (isF rfl c22) ?_
          refine O.nil ?_
          refine ⟨⟨?_, rfl⟩, rfl⟩
          first | exact rfl | exact Eq.trans rfl (congrArg Value.bool (dAnd (by assumption))) | exact Eq.trans rfl (congrArg Value.bool (dAndF (by assumption))) | exact Eq.trans rfl (congrArg Value.bool (dOr (by assumption))) | exact Eq.trans rfl (congrArg Value.bool (dOrT (by assumption)))
      ·
        rintro f_2 ⟨s26_2, s0_2⟩
        refine O.mv ?_
        refine O.splitD (x := .tmp 27) s26_2 (fun c27 => ?_) (fun c27 => ?_)
        ·
          refine O.yes rfl (isT s26_2 c27) ?_
          refine O.mv ?_
          refine O.yes rfl (isT s26_2 c27) ?_
          refine O.call Tryz.call113 (args2 (Eq.trans s0_2 s0_1) rfl) (trim_spec s _ (by omega)) ?_
          rintro v_29 w3 ⟨rfl, e3⟩
          have z3 := e3.size
          refine O.yes rfl (isT s26_2 c27) ?_
          refine O.mv ?_
          refine O.yes rfl (isT s26_2 c27) ?_
          refine O.eqlS rfl (Eq.trans s0_2 s0_1) ?_
          refine O.pickT (isT s26_2 c27) ?_
          refine O.mv ?_
          refine O.splitD (x := .tmp 33) rfl (fun c33 => ?_) (fun c33 => ?_)
          ·
            refine O.yes rfl (isT rfl c33) ?_
            refine O.mv ?_
            refine O.yes rfl (isT rfl c33) ?_
            refine O.call Tryz.call114 (args2 (Eq.trans s0_2 s0_1) rfl) (has2_spec s _ (by omega) (((mx.keep e1).keep e_1).keep e3)) ?_
            rintro v_35 w4 ⟨rfl, e4⟩
            have z4 := e4.size
            refine O.yes rfl (isT rfl c33) ?_
            refine O.not rfl ?_
            refine O.pickT (isT rfl c33) ?_
            refine O.asg ?_
            refine O.nil ?_
            refine hK13 _ _ ?_
            refine C.ret ?_
            refine Outs.one rfl rfl ?_
            first
            | exact ⟨congrArg Value.bool (Cn.okName_all hk2 (Cn.okC_lo c14)).symm, (Ext.trans (Ext.trans (Ext.trans e1 e_1) e3) e4)⟩
            | exact ⟨congrArg Value.bool (Cn.okName_all hk2 (Cn.okC_hi c17)).symm, (Ext.trans (Ext.trans (Ext.trans e1 e_1) e3) e4)⟩
            | (refine ⟨congrArg Value.bool ?_, (Ext.trans (Ext.trans (Ext.trans e1 e_1) e3) e4)⟩
               unfold Cn.okName
               rw [hall]
               first
               | (rw [decide_eq_false (p := 1 ≤ s.length ∧ s.length ≤ 64) (by omega)]; rfl)
               | (rw [decide_eq_true (p := 1 ≤ s.length ∧ s.length ≤ 64) (by omega), decide_eq_false c33]; rfl)
               | (rw [decide_eq_true (p := 1 ≤ s.length ∧ s.length ≤ 64) (by omega), decide_eq_true c33]; rfl))
          ·
            refine O.no rfl (noB (isF rfl c33) rfl) ?_
            refine O.no rfl (noB (isF rfl c33) rfl) ?_
            refine O.no rfl (noB (isF rfl c33) rfl) ?_
            refine O.pickF (isF rfl c33) ?_
            refine O.asg ?_
            refine O.nil ?_
            refine hK13 _ _ ?_
            refine C.ret ?_
            refine Outs.one rfl rfl ?_
            first
            | exact ⟨congrArg Value.bool (Cn.okName_all hk2 (Cn.okC_lo c14)).symm, (Ext.trans (Ext.trans e1 e_1) e3)⟩
            | exact ⟨congrArg Value.bool (Cn.okName_all hk2 (Cn.okC_hi c17)).symm, (Ext.trans (Ext.trans e1 e_1) e3)⟩
            | (refine ⟨congrArg Value.bool ?_, (Ext.trans (Ext.trans e1 e_1) e3)⟩
               unfold Cn.okName
               rw [hall]
               first
               | (rw [decide_eq_false (p := 1 ≤ s.length ∧ s.length ≤ 64) (by omega)]; rfl)
               | (rw [decide_eq_true (p := 1 ≤ s.length ∧ s.length ≤ 64) (by omega), decide_eq_false c33]; rfl)
               | (rw [decide_eq_true (p := 1 ≤ s.length ∧ s.length ≤ 64) (by omega), decide_eq_true c33]; rfl))
        ·
          refine O.no rfl (noB (isF s26_2 c27) rfl) ?_
          refine O.no rfl (noB (isF s26_2 c27) rfl) ?_
          refine O.no rfl (noB (isF s26_2 c27) rfl) ?_
          refine O.no rfl (noB (isF s26_2 c27) rfl) ?_
          refine O.pickF (isF s26_2 c27) ?_
          refine O.mv ?_
          refine O.no rfl (noB rfl rfl) ?_
          refine O.no rfl (noB rfl rfl) ?_
          refine O.no rfl (noB rfl rfl) ?_
          refine O.pickF rfl ?_
          refine O.asg ?_
          refine O.nil ?_
          refine hK13 _ _ ?_
          refine C.ret ?_
          refine Outs.one rfl rfl ?_
          first
          | exact ⟨congrArg Value.bool (Cn.okName_all hk2 (Cn.okC_lo c14)).symm, (Ext.trans e1 e_1)⟩
          | exact ⟨congrArg Value.bool (Cn.okName_all hk2 (Cn.okC_hi c17)).symm, (Ext.trans e1 e_1)⟩
          | (refine ⟨congrArg Value.bool ?_, (Ext.trans e1 e_1)⟩
             unfold Cn.okName
             rw [hall]
             first
             | (rw [decide_eq_false (p := 1 ≤ s.length ∧ s.length ≤ 64) (by omega)]; rfl)
             | (rw [decide_eq_true (p := 1 ≤ s.length ∧ s.length ≤ 64) (by omega), decide_eq_false c33]; rfl)
             | (rw [decide_eq_true (p := 1 ≤ s.length ∧ s.length ≤ 64) (by omega), decide_eq_true c33]; rfl))

theorem badI_spec (x : ItemT) (vm : Value) (F : Nat → Prop) (w : World) (hm : Sl markF.enc w F vm x.2) (q1 : x.1.length ≤ 1000000) (q2 : x.2.length ≤ 1000000) (mx : Mx w) :
    Ret Tryz.prog 68 #[.agg #[str x.1, vm]] w (fun v w' => v = .bool (Cn.badI x) ∧ Le w w') := by
  refine enter (args := [.agg #[str x.1, vm]]) (n := 24) Tryz.func68 rfl rfl (Nat.le_of_ble_eq_true rfl) ?_
  refine C.seqK fun K1 hK1 => ?_
  refine C.region ?_
  refine O.box (v := .agg #[str x.1, vm]) rfl (fun b1 w1 hb1 hz1 e1 => ?_)
  have z1 := e1.size
  have h1 := hz1.own
  have hl1 := h1.lt
  refine O.asg ?_
  refine O.nil ?_
  refine hK1 _ _ ?_
  refine C.seqK fun K2 hK2 => ?_
  refine C.region ?_
  refine O.fieldAd Tryz.underlying56 rfl Tryz.sizeOf9 (by decide) rfl ?_
  refine O.loadO Tryz.isAgg9 rfl h1 rfl ?_
  refine O.call Tryz.call92 (args1 rfl) (okName_spec x.1 _ q1 (mx.keep e1)) ?_
  rintro v_5 w2 ⟨rfl, e2⟩
  have z2 := e2.size
  refine O.not rfl ?_
  refine O.mv ?_
  refine O.split (x := .tmp 7) rfl (fun c7 => ?_) (fun c7 => ?_)
  ·
    refine O.no rfl (noB (isT' rfl c7) rfl) ?_
    refine O.no rfl (noB (isT' rfl c7) rfl) ?_
    refine O.no rfl (noB (isT' rfl c7) rfl) ?_
    refine O.no rfl (noB (isT' rfl c7) rfl) ?_
    refine O.pickT (isT' rfl c7) ?_
    refine O.mv ?_
    refine O.no rfl (noB rfl rfl) ?_
    refine O.no rfl (noB rfl rfl) ?_
    refine O.no rfl (noB rfl rfl) ?_
    refine O.no rfl (noB rfl rfl) ?_
    refine O.pickT rfl ?_
    refine O.mv ?_
    refine O.no rfl (noB rfl rfl) ?_
    refine O.no rfl (noB rfl rfl) ?_
    refine O.no rfl (noB rfl rfl) ?_
    refine O.pickT rfl ?_
    refine O.asg ?_
    refine O.nil ?_
    refine hK2 _ _ ?_
    refine C.ret ?_
    refine Outs.one rfl rfl ?_
    refine ⟨congrArg Value.bool ?_, (Ext.trans e1 e2)⟩
    unfold Cn.badI
    first
    | (rw [c7]; rfl)
    | (rw [c7, decide_eq_true (p := x.2.length = 0) (by omega)]; rfl)
    | (rw [c7, decide_eq_false (p := x.2.length = 0) (by omega), c19]; rfl)
  ·
    refine O.yes rfl (isF' rfl c7) ?_
    refine O.fieldAd Tryz.underlying56 rfl Tryz.sizeOf54 (by decide) rfl ?_
    refine O.yes rfl (isF' rfl c7) ?_
    refine O.loadO Tryz.isAgg54 rfl (h1.keep e2) rfl ?_
    refine O.yes rfl (isF' rfl c7) ?_
    refine O.len Tryz.underlying54 rfl ((hm.keep e1).keep e2) ?_
    refine O.yes rfl (isF' rfl c7) ?_
    refine O.eqlI rfl rfl ?_
    refine O.pickF (isF' rfl c7) ?_
    refine O.mv ?_
    refine O.splitD (x := .tmp 13) rfl (fun c13 => ?_) (fun c13 => ?_)
    ·
      refine O.no rfl (noB (isT rfl c13) rfl) ?_
      refine O.no rfl (noB (isT rfl c13) rfl) ?_
      refine O.no rfl (noB (isT rfl c13) rfl) ?_
      refine O.no rfl (noB (isT rfl c13) rfl) ?_
      refine O.pickT (isT rfl c13) ?_
      refine O.mv ?_
      refine O.no rfl (noB rfl rfl) ?_
      refine O.no rfl (noB rfl rfl) ?_
      refine O.no rfl (noB rfl rfl) ?_
      refine O.pickT rfl ?_
      refine O.asg ?_
      refine O.nil ?_
      refine hK2 _ _ ?_
      refine C.ret ?_
      refine Outs.one rfl rfl ?_
      refine ⟨congrArg Value.bool ?_, (Ext.trans e1 e2)⟩
      unfold Cn.badI
      first
      | (rw [c7]; rfl)
      | (rw [c7, decide_eq_true (p := x.2.length = 0) (by omega)]; rfl)
      | (rw [c7, decide_eq_false (p := x.2.length = 0) (by omega), c19]; rfl)
    ·
      refine O.yes rfl (isF rfl c13) ?_
      refine O.fieldAd Tryz.underlying56 rfl Tryz.sizeOf54 (by decide) rfl ?_
      refine O.yes rfl (isF rfl c13) ?_
      refine O.loadO Tryz.isAgg54 rfl (h1.keep e2) rfl ?_
      refine O.yes rfl (isF rfl c13) ?_
      refine O.call Tryz.call93 (args1 rfl) (isList_spec _ x.2 _ _ ((hm.keep e1).keep e2) q2) ?_
      rintro v_16 w3 ⟨rfl, e3⟩
      have z3 := e3.size
      refine O.yes rfl (isF rfl c13) ?_
      refine O.not rfl ?_
      refine O.pickF (isF rfl c13) ?_
      refine O.mv ?_
      refine O.split (x := .tmp 19) rfl (fun c19 => ?_) (fun c19 => ?_)
      ·
        refine O.no rfl (noB (isT' rfl c19) rfl) ?_
        refine O.no rfl (noB (isT' rfl c19) rfl) ?_
        refine O.no rfl (noB (isT' rfl c19) rfl) ?_
        refine O.pickT (isT' rfl c19) ?_
        refine O.asg ?_
        refine O.nil ?_
        refine hK2 _ _ ?_
        refine C.ret ?_
        refine Outs.one rfl rfl ?_
        refine ⟨congrArg Value.bool ?_, (Ext.trans (Ext.trans e1 e2) e3)⟩
        unfold Cn.badI
        first
        | (rw [c7]; rfl)
        | (rw [c7, decide_eq_true (p := x.2.length = 0) (by omega)]; rfl)
        | (rw [c7, decide_eq_false (p := x.2.length = 0) (by omega), c19]; rfl)
      ·
        refine O.yes rfl (isF' rfl c19) ?_
        refine O.fieldAd Tryz.underlying56 rfl Tryz.sizeOf54 (by decide) rfl ?_
        refine O.yes rfl (isF' rfl c19) ?_
        refine O.loadO Tryz.isAgg54 rfl ((h1.keep e2).keep e3) rfl ?_
        refine O.yes rfl (isF' rfl c19) ?_
        refine O.call Tryz.call94 (args2 rfl rfl) (containsM_spec _ _ _ _ (fun _ => False) Cn.badM _ (((hm.keep e1).keep e2).keep e3) (pred_mbad _ _)) ?_
        rintro v_22 w4 ⟨rfl, e4⟩
        have z4 := e4.size
        refine O.pickF (isF' rfl c19) ?_
        refine O.asg ?_
        refine O.nil ?_
        refine hK2 _ _ ?_
        refine C.ret ?_
        refine Outs.one rfl rfl ?_
        refine ⟨congrArg Value.bool ?_, (Ext.trans (Ext.trans (Ext.trans e1 e2) e3) e4)⟩
        unfold Cn.badI
        first
        | (rw [c7]; rfl)
        | (rw [c7, decide_eq_true (p := x.2.length = 0) (by omega)]; rfl)
        | (rw [c7, decide_eq_false (p := x.2.length = 0) (by omega), c19]; rfl)

set_option maxHeartbeats 1000000 in
theorem idots_spec (v0 : Value) (l : List ItemT) (F : Nat → Prop) (w : World) (hl : Sl itemE w F v0 l) (hF : ∀ k, F k → k < w.heap.size) (hn : l.length ≤ 1000000) (hS : ∀ x ∈ l, x.1.length ≤ 1000000 ∧ x.2.length ≤ 1000000) :
    Ret Tryz.prog 47 #[v0] w (fun v w' => Le w w' ∧ OwnF Dt.dotF 51 w.heap.size w' v (Cn.dotsOf l)) := by
  have hle := hl.le
  obtain ⟨ie51, ti51, ts51, tb51, tz51⟩ := inf51
  refine enter (args := [v0]) (n := 20) Tryz.func47 rfl rfl (Nat.le_of_ble_eq_true rfl) ?_
  refine C.seqK fun K1 hK1 => ?_
  refine C.region ?_
  refine O.asg ?_
  refine O.nil ?_
  refine hK1 _ _ ?_
  refine C.seqK fun K2 hK2 => ?_
  refine C.region ?_
  refine O.asg ?_
  refine O.nil ?_
  refine hK2 _ _ ?_
  refine C.seqK fun K3 hK3 => ?_
  refine C.seqK fun K4 hK4 => ?_
  refine C.region ?_
  refine O.mv ?_
  refine O.len Tryz.underlying26 rfl hl ?_
  refine O.mv ?_
  refine O.nil ?_
  refine hK4 _ _ ?_
  refine C.block fun K5 hK5 => ?_
  refine C.loop0 (σ := Nat × Value) (fun f0 w0 ⟨k, o⟩ f wz => f 3 = o ∧ f 8 = .int .i64 (k) ∧ f 2 = f0 2 ∧ f 6 = f0 6 ∧ f 7 = f0 7 ∧ Le w wz ∧ OwnF Dt.dotF 51 w.heap.size wz o ((l.take k).flatMap fun x => Cn.mdots x.2) ∧ k ≤ l.length) (fun ⟨k, o⟩ => l.length - k) (0, .slice none 0 0) ?_ ?_
  ·
    refine ⟨rfl, rfl, rfl, rfl, rfl, (Le.refl _), (OwnF.nil _ _ _ _), ?_⟩
    exact Nat.zero_le _
  ·
    rintro ⟨k, o⟩ f_1 w1 ⟨s3_1, s8_1, s2_1, s6_1, s7_1, e_1, r0_1, hk⟩
    have z_1 := e_1.size
    have r0_1s := r0_1.sl
    have hlk : ((l.take k).flatMap fun x => Cn.mdots x.2).length ≤ k * 1000000 := Cn.flat_take (b := 1000000) (fun x hx => (hS x hx).2) hk
    refine C.seqK fun K6 hK6 => ?_
    refine C.region ?_
    refine O.lssI s8_1 s7_1 ?_
    refine O.nil ?_
    refine hK6 _ _ ?_
    refine C.seqK fun K7 hK7 => ?_
    refine C.condD rfl (fun c9 => ?_) (fun c9 => ?_)
    ·
      have hk2 : k < l.length := by omega
      refine C.skip ?_
      refine hK7 _ _ ?_
      refine C.seqK fun K8 hK8 => ?_
      refine C.block fun K9 hK9 => ?_
      refine C.seqK fun K10 hK10 => ?_
      refine C.region ?_
      refine O.idx Tryz.underlying26 Tryz.sizeOf56 rfl s6_1 (hl.keep e_1) s8_1 (by omega) (fun a10 h10 => ?_)
      refine O.loadE (E := itemE) Tryz.isAgg56 Tryz.sizeOf56 rfl rfl h10 (fun cs11 hcs11 => ?_)
      obtain ⟨vm11, rfl, hm11⟩ := hcs11
      obtain ⟨u, hu⟩ : ∃ u : ItemT, u = l[k] := ⟨_, rfl⟩
      have hSu := hS u (by rw [hu]; exact List.getElem_mem _)
      refine O.cast (v' := .agg #[str u.1, vm11]) (by rw [hu]; rfl) ?_
      have hm11 : Sl markF.enc w1 F vm11 u.2 := by rw [hu]; exact hm11
      refine O.alloc Tryz.zeroValue56 (fun b5 w2 hb5 hz5 e2 => ?_)
      have z2 := e2.size
      have h5 := hz5.own
      have hl5 := h5.lt
      refine O.storeA (vs := [str u.1, vm11]) Tryz.sizeOf56 rfl rfl rfl (ones2 hm11.oneC) h5 (Nat.le_of_ble_eq_true rfl) (fun w3 hs3 e3 z3 => ?_)
      refine O.nil ?_
      refine hK10 _ _ ?_
      refine C.region ?_
      refine O.mv ?_
      refine O.fieldAd Tryz.underlying56 rfl Tryz.sizeOf54 (by decide) rfl ?_
      refine O.loadO Tryz.isAgg54 rfl hs3 rfl ?_
      refine O.call Tryz.call73 (args1 rfl) (qdots_spec _ u.2 _ _ ((hm11.keep e2).keepM e3 (by intro k hk h; first | (have q1 := hF k hk; (try dsimp only at h); omega) | (have q1 := hF2 k hk; (try dsimp only at h); omega) | (have q1 := hFb k hk; (try dsimp only at h); omega) | ((try dsimp only at hk); (try dsimp only at h); omega))) (by omega)) ?_
      rintro v_15 w4 ⟨e4, h15⟩
      have z4 := e4.size
      have h15s := h15.sl
      have hlu : (Cn.mdots u.2).length = u.2.length := by unfold Cn.mdots; simp
      refine O.appF (G := Dt.dotF) Tryz.underlying22 ti51 tz51 ts51 rfl s3_1 rfl (((r0_1.keep e2).keepM e3 (fun k hk h => by have := r0_1.bk_ge k hk; (try dsimp only at h); omega)).keep e4) h15s (by rw [tb51]; omega) (by unfold maxLen; omega) (by omega) (fun v16 w5 h16 e5 => ?_)
      have z5 := e5.size
      have h16s := h16.sl
      refine O.asg ?_
      refine O.nil ?_
      refine hK9 _ _ ?_
      refine hK8 _ _ ?_
      refine C.region ?_
      refine O.addI s8_1 rfl (by unfold InI; omega) ?_
      refine O.mv ?_
      refine O.nil ?_
      refine ⟨(k + 1, _), ⟨rfl, rfl, s2_1, s6_1, s7_1, (Ext.new (Ext.trans (Ext.new (Ext.trans e_1 e2) e3 (by rintro i hi rfl; omega)) e4) e5 (by intro i hi h; have := (((r0_1.keep e2).keepM e3 (fun k hk h => by have := r0_1.bk_ge k hk; (try dsimp only at h); omega)).keep e4).bk_ge i h; omega)), (by rw [show (l.take (k + 1)).flatMap (fun x => Cn.mdots x.2) = (l.take k).flatMap (fun x => Cn.mdots x.2) ++ Cn.mdots u.2 from by rw [hu]; exact Cn.flatMap_take _ hk2]; exact h16), ?_⟩, by first | omega | (simp only []; omega)⟩
      omega
    ·
      refine C.exit ?_
      refine hK5 _ _ ?_
      refine hK3 _ _ ?_
      refine C.seqK fun K11 hK11 => ?_
      refine C.region ?_
      refine O.mv ?_
      refine O.call Tryz.call70 (args1 s3_1) (set_spec _ ((l.take k).flatMap fun x => Cn.mdots x.2) _ _ r0_1s (by omega)) ?_
      rintro v_19 w6 ⟨e6, h19⟩
      have z6 := e6.size
      refine O.asg ?_
      refine O.nil ?_
      refine hK11 _ _ ?_
      refine C.ret ?_
      refine Outs.one rfl rfl ?_
      obtain rfl : k = l.length := by omega
      rw [List.take_length] at h19
      exact ⟨(Ext.trans e_1 e6), h19.low (by omega)⟩

set_option maxHeartbeats 1000000 in
theorem itemsValid_spec (v0 : Value) (l : List ItemT) (F : Nat → Prop) (w : World) (hl : Sl itemE w F v0 l) (hF : ∀ k, F k → k < w.heap.size) (hn : l.length ≤ 1000000) (hS : ∀ x ∈ l, x.1.length ≤ 1000000 ∧ x.2.length ≤ 1000000) (mx : Mx w) :
    Ret Tryz.prog 45 #[v0] w (fun v w' => v = .bool (Cn.itemsValid l) ∧ Le w w') := by
  have hle := hl.le
  refine enter (args := [v0]) (n := 41) Tryz.func45 rfl rfl (Nat.le_of_ble_eq_true rfl) ?_
  refine C.seqK fun K1 hK1 => ?_
  refine C.region ?_
  refine O.asg ?_
  refine O.nil ?_
  refine hK1 _ _ ?_
  refine C.seqK fun K2 hK2 => ?_
  refine C.region ?_
  refine O.asg ?_
  refine O.nil ?_
  refine hK2 _ _ ?_
  refine C.seqK fun K3 hK3 => ?_
  refine C.seqK fun K4 hK4 => ?_
  refine C.region ?_
  refine O.mv ?_
  refine O.len Tryz.underlying26 rfl hl ?_
  refine O.mv ?_
  refine O.nil ?_
  refine hK4 _ _ ?_
  refine C.block fun K5 hK5 => ?_
  refine C.loop0 (σ := Nat) (fun f0 w0 k f wz => f 3 = .int .i64 ((Cn.count (l.take k) : Nat)) ∧ f 8 = .int .i64 (k) ∧ f 0 = f0 0 ∧ f 6 = f0 6 ∧ f 7 = f0 7 ∧ Le w wz ∧ k ≤ l.length ∧ (∀ i, ∀ h : i < l.length, i < k → Cn.badI l[i] = false) ∧ ∀ i, ∀ h : i + 1 < l.length, i + 1 < k → Op.bytesLess l[i].1 l[i + 1].1 = true) (fun k => l.length - k) 0 ?_ ?_
  ·
    refine ⟨(Eq.trans rfl rfl), rfl, rfl, rfl, rfl, (Le.refl _), ?_⟩
    exact ⟨Nat.zero_le _, fun i h k => absurd k (Nat.not_lt_zero _), fun i h k => absurd k (Nat.not_lt_zero _)⟩
  ·
    rintro k f_1 w1 ⟨s3_1, s8_1, s0_1, s6_1, s7_1, e_1, ⟨hk, hI, hJ⟩⟩
    have z_1 := e_1.size
    have hck : Cn.count (l.take k) ≤ k * 1000000 := Cn.count_take_le (b := 1000000) (fun x hx => (hS x hx).2) hk
    refine C.seqK fun K6 hK6 => ?_
    refine C.region ?_
    refine O.lssI s8_1 s7_1 ?_
    refine O.nil ?_
    refine hK6 _ _ ?_
    refine C.seqK fun K7 hK7 => ?_
    refine C.condD rfl (fun c9 => ?_) (fun c9 => ?_)
    ·
      have hk2 : k < l.length := by omega
      refine C.skip ?_
      refine hK7 _ _ ?_
      refine C.seqK fun K8 hK8 => ?_
      refine C.block fun K9 hK9 => ?_
      refine C.seqK fun K10 hK10 => ?_
      refine C.region ?_
      refine O.mv ?_
      refine O.idx Tryz.underlying26 Tryz.sizeOf56 rfl s6_1 (hl.keep e_1) s8_1 (by omega) (fun a11 h11 => ?_)
      refine O.loadE (E := itemE) Tryz.isAgg56 Tryz.sizeOf56 rfl rfl h11 (fun cs12 hcs12 => ?_)
      obtain ⟨vm12, rfl, hm12⟩ := hcs12
      obtain ⟨u, hu⟩ : ∃ u : ItemT, u = l[k] := ⟨_, rfl⟩
      have hSu := hS u (by rw [hu]; exact List.getElem_mem _)
      refine O.cast (v' := .agg #[str u.1, vm12]) (by rw [hu]; rfl) ?_
      have hm12 : Sl markF.enc w1 F vm12 u.2 := by rw [hu]; exact hm12
      refine O.alloc Tryz.zeroValue56 (fun b5 w2 hb5 hz5 e2 => ?_)
      have z2 := e2.size
      have h5 := hz5.own
      have hl5 := h5.lt
      refine O.asg ?_
      refine O.storeA (vs := [str u.1, vm12]) Tryz.sizeOf56 rfl rfl rfl (ones2 hm12.oneC) h5 (Nat.le_of_ble_eq_true rfl) (fun w3 hs3 e3 z3 => ?_)
      refine O.nil ?_
      refine hK10 _ _ ?_
      refine C.seqK fun K11 hK11 => ?_
      refine C.seqK fun K12 hK12 => ?_
      refine C.draw (by kernel_rfl) fun w4 e4 => ?_
      have z4 := e4.size
      refine D.take (i := 0) rfl rfl rfl rfl (by kernel_rfl) (Le.refl _) ⟨_, rfl⟩ (fun w_ hw_ N_ hN => (O.loadOA Tryz.isAgg56 Tryz.sizeOf56 rfl ((hs3.keep e4).keep hw_) (Nat.le_of_ble_eq_true rfl) (O.nil hN))) ?_
      refine D.one (i := 1) rfl rfl (by kernel_rfl) ?_
      refine O.call Tryz.call68 (args1 rfl) (badI_spec u vm12 F _ (((hm12.keep e2).keepM e3 (by intro k hk h; first | (have q1 := hF k hk; (try dsimp only at h); omega) | (have q1 := hF2 k hk; (try dsimp only at h); omega) | (have q1 := hFb k hk; (try dsimp only at h); omega) | ((try dsimp only at hk); (try dsimp only at h); omega))).keep e4) hSu.1 (by omega) (mx.keep (Ext.trans (Ext.new (Ext.trans e_1 e2) e3 (by rintro i hi rfl; omega)) e4))) ?_
      rintro v_14 w5 ⟨rfl, e5⟩
      have z5 := e5.size
      refine O.nil ⟨e5, ?_⟩
      refine D.take (i := 2) rfl rfl rfl rfl (by kernel_rfl) e5 ⟨pure _, rfl⟩ (fun w_ hw_ N_ hN => (O.mv (O.nil hN))) ?_
      refine D.split (x := .tmp 15) rfl (fun c15 => ?_) (fun c15 => ?_)
      ·
        refine D.takeNo (i := 3) rfl rfl (by kernel_rfl) e5 rfl (noB (isT' rfl c15) rfl) ?_
        refine D.takeNo (i := 4) rfl rfl (by kernel_rfl) e5 rfl (noB (isT' rfl c15) rfl) ?_
        refine D.takeNo (i := 5) rfl rfl (by kernel_rfl) e5 rfl (noB (isT' rfl c15) rfl) ?_
        refine D.takeNo (i := 6) rfl rfl (by kernel_rfl) e5 rfl (noU rfl) ?_
        refine D.takeNo (i := 7) rfl rfl (by kernel_rfl) e5 rfl (noU rfl) ?_
        refine D.takeNo (i := 8) rfl rfl (by kernel_rfl) e5 rfl (noU rfl) ?_
        refine D.takeNo (i := 9) rfl rfl (by kernel_rfl) e5 rfl (noU rfl) ?_
        refine D.takeNo (i := 10) rfl rfl (by kernel_rfl) e5 rfl (noU rfl) ?_
        refine D.takeNo (i := 11) rfl rfl (by kernel_rfl) e5 rfl (noU rfl) ?_
        refine D.takeNo (i := 12) rfl rfl (by kernel_rfl) e5 rfl (noU rfl) ?_
        refine D.takeNo (i := 13) rfl rfl (by kernel_rfl) e5 rfl (noU rfl) ?_
        refine D.takeNo (i := 14) rfl rfl (by kernel_rfl) e5 rfl (noU rfl) ?_
        refine D.takeNo (i := 15) rfl rfl (by kernel_rfl) e5 rfl (noB (isT' rfl c15) rfl) ?_
        refine D.take (i := 16) rfl rfl rfl rfl (by kernel_rfl) e5 pick_form (fun w_ hw_ N_ hN => (O.pickT (isT' rfl c15) (O.nil hN))) ?_
        refine D.done (by kernel_rfl) ?_
        refine hK12 _ _ ?_
        refine C.condT rfl ?_
        refine C.seqK fun K13 hK13 => ?_
        refine C.region ?_
        refine O.asg ?_
        refine O.nil ?_
        refine hK13 _ _ ?_
        refine C.ret ?_
        refine Outs.one rfl rfl ?_
        first
        | (refine ⟨congrArg Value.bool ?_, (Ext.trans (Ext.trans (Ext.new (Ext.trans e_1 e2) e3 (by rintro i hi rfl; omega)) e4) e5)⟩
           have q : l.any Cn.badI = true := Cn.any_yes hk2 (by rw [← hu]; exact c15)
           unfold Cn.itemsValid
           rw [q]
           rfl)
        | (refine ⟨congrArg Value.bool ?_, (Ext.trans (Ext.trans (Ext.new (Ext.trans e_1 e2) e3 (by rintro i hi rfl; omega)) e4) e5)⟩
           have q : Cn.names l = false := Cn.adj_no (j := k - 1) hk2 (by omega) (by omega) (by rw [← hu]; simpa using c29)
           unfold Cn.itemsValid
           rw [q, Bool.false_and, Bool.and_false])
        | (refine ⟨congrArg Value.bool ?_, (Ext.trans (Ext.trans (Ext.new (Ext.trans e_1 e2) e3 (by rintro i hi rfl; omega)) e4) e5)⟩
           obtain rfl : k = l.length := by omega
           have q1 : l.any Cn.badI = false := Cn.any_no fun i hi => hI i hi hi
           have q2 : Cn.names l = true := Cn.adj_yes fun i hi => hJ i hi hi
           unfold Cn.itemsValid
           rw [q1, q2, List.take_length]
           exact decide_eq_decide.2 Int.ofNat_inj)
      ·
        refine D.takeYes (i := 3) rfl rfl rfl (by kernel_rfl) rfl (isF' rfl c15) e5 ⟨pure _, rfl⟩ (fun w_ hw_ N_ hN => (O.mv (O.nil hN))) ?_
        refine D.takeYes (i := 4) rfl rfl rfl (by kernel_rfl) rfl (isF' rfl c15) e5 ⟨_, rfl⟩ (fun w_ hw_ N_ hN => (O.gtrI s8_1 rfl (O.nil hN))) ?_
        refine D.takeYes (i := 5) rfl rfl rfl (by kernel_rfl) rfl (isF' rfl c15) e5 ⟨pure _, rfl⟩ (fun w_ hw_ N_ hN => (O.mv (O.nil hN))) ?_
        refine D.splitD (x := .tmp 18) rfl (fun c18 => ?_) (fun c18 => ?_)
        ·
          have x1 : ((k : Int) - 1).toNat = k - 1 := by omega
          have hk3 : k - 1 + 1 = k := by omega
          refine D.takeYes (i := 6) rfl rfl rfl (by kernel_rfl) rfl (isT rfl c18) e5 ⟨pure _, rfl⟩ (fun w_ hw_ N_ hN => (O.mv (O.nil hN))) ?_
          refine D.takeYes (i := 7) rfl rfl rfl (by kernel_rfl) rfl (isT rfl c18) e5 ⟨pure _, rfl⟩ (fun w_ hw_ N_ hN => (O.mv (O.nil hN))) ?_
          refine D.takeYes (i := 8) rfl rfl rfl (by kernel_rfl) rfl (isT rfl c18) e5 ⟨_, rfl⟩ (fun w_ hw_ N_ hN => (O.subI s8_1 rfl (by unfold InI; omega) (O.nil hN))) ?_
          obtain ⟨a22, h22, hr22⟩ := Sl.at (i := (k : Int) - 1) (P := Tryz.prog) Tryz.underlying26 Tryz.sizeOf56 rfl (hl.keep (Ext.trans (Ext.new (Ext.trans e_1 e2) e3 (by rintro i hi rfl; omega)) e4)) (by omega)
          refine D.takeYes (i := 9) rfl rfl rfl (by kernel_rfl) rfl (isT rfl c18) e5 ⟨_, rfl⟩ (fun w_ hw_ N_ hN => (O.idxR s0_1 rfl hr22 (O.nil hN))) ?_
          refine D.takeYes (i := 10) rfl rfl rfl (by kernel_rfl) rfl (isT rfl c18) e5 ⟨_, rfl⟩ (fun w_ hw_ N_ hN => (O.fieldAt Tryz.underlying56 rfl Tryz.sizeOf9 (by decide) rfl (O.nil hN))) ?_
          refine D.takeYes (i := 11) rfl rfl rfl (by kernel_rfl) rfl (isT rfl c18) e5 ⟨_, rfl⟩ (fun w_ hw_ N_ hN => (O.loadName Tryz.isAgg9 rfl (h22.keep hw_) (O.nil hN))) ?_
          refine D.takeYes (i := 12) rfl rfl rfl (by kernel_rfl) rfl (isT rfl c18) e5 ⟨_, rfl⟩ (fun w_ hw_ N_ hN => (O.fieldAd Tryz.underlying56 rfl Tryz.sizeOf9 (by decide) rfl (O.nil hN))) ?_
          refine D.takeYes (i := 13) rfl rfl rfl (by kernel_rfl) rfl (isT rfl c18) e5 ⟨_, rfl⟩ (fun w_ hw_ N_ hN => (O.loadO Tryz.isAgg9 rfl ((hs3.keep e4).keep hw_) rfl (O.nil hN))) ?_
          refine D.takeYes (i := 14) rfl rfl rfl (by kernel_rfl) rfl (isT rfl c18) e5 ⟨_, rfl⟩ (fun w_ hw_ N_ hN => (O.geqS rfl rfl (O.nil hN))) ?_
          refine D.takeYes (i := 15) rfl rfl rfl (by kernel_rfl) rfl (isF' rfl c15) e5 pick_form (fun w_ hw_ N_ hN => (O.pickT (isT rfl c18) (O.nil hN))) ?_
          refine D.take (i := 16) rfl rfl rfl rfl (by kernel_rfl) e5 pick_form (fun w_ hw_ N_ hN => (O.pickF (isF' rfl c15) (O.nil hN))) ?_
          refine D.done (by kernel_rfl) ?_
          refine hK12 _ _ ?_
          refine C.cond rfl (fun c29 => ?_) (fun c29 => ?_)
          ·
            try simp only [x1] at c29
            refine C.seqK fun K14 hK14 => ?_
            refine C.region ?_
            refine O.asg ?_
            refine O.nil ?_
            refine hK14 _ _ ?_
            refine C.ret ?_
            refine Outs.one rfl rfl ?_
            first
            | (refine ⟨congrArg Value.bool ?_, (Ext.trans (Ext.trans (Ext.new (Ext.trans e_1 e2) e3 (by rintro i hi rfl; omega)) e4) e5)⟩
               have q : l.any Cn.badI = true := Cn.any_yes hk2 (by rw [← hu]; exact c15)
               unfold Cn.itemsValid
               rw [q]
               rfl)
            | (refine ⟨congrArg Value.bool ?_, (Ext.trans (Ext.trans (Ext.new (Ext.trans e_1 e2) e3 (by rintro i hi rfl; omega)) e4) e5)⟩
               have q : Cn.names l = false := Cn.adj_no (j := k - 1) hk2 (by omega) (by omega) (by rw [← hu]; simpa using c29)
               unfold Cn.itemsValid
               rw [q, Bool.false_and, Bool.and_false])
            | (refine ⟨congrArg Value.bool ?_, (Ext.trans (Ext.trans (Ext.new (Ext.trans e_1 e2) e3 (by rintro i hi rfl; omega)) e4) e5)⟩
               obtain rfl : k = l.length := by omega
               have q1 : l.any Cn.badI = false := Cn.any_no fun i hi => hI i hi hi
               have q2 : Cn.names l = true := Cn.adj_yes fun i hi => hJ i hi hi
               unfold Cn.itemsValid
               rw [q1, q2, List.take_length]
               exact decide_eq_decide.2 Int.ofNat_inj)
          ·
            try simp only [x1] at c29
            refine C.skip ?_
            refine hK11 _ _ ?_
            refine C.region ?_
            refine O.mv ?_
            refine O.fieldAd Tryz.underlying56 rfl Tryz.sizeOf54 (by decide) rfl ?_
            refine O.loadO Tryz.isAgg54 rfl ((hs3.keep e4).keep e5) rfl ?_
            refine O.len Tryz.underlying54 rfl ((((hm12.keep e2).keepM e3 (by intro k hk h; first | (have q1 := hF k hk; (try dsimp only at h); omega) | (have q1 := hF2 k hk; (try dsimp only at h); omega) | (have q1 := hFb k hk; (try dsimp only at h); omega) | ((try dsimp only at hk); (try dsimp only at h); omega))).keep e4).keep e5) ?_
            refine O.addI s3_1 rfl (by unfold InI; omega) ?_
            refine O.asg ?_
            refine O.nil ?_
            refine hK9 _ _ ?_
            refine hK8 _ _ ?_
            refine C.region ?_
            refine O.addI s8_1 rfl (by unfold InI; omega) ?_
            refine O.mv ?_
            refine O.nil ?_
            refine ⟨k + 1, ⟨(Eq.trans rfl (congrArg (Value.int .i64) (by rw [Cn.count_take hk2, hu]; simp))), rfl, s0_1, s6_1, s7_1, (Ext.trans (Ext.trans (Ext.new (Ext.trans e_1 e2) e3 (by rintro i hi rfl; omega)) e4) e5), ?_⟩, by first | omega | (simp only []; omega)⟩
            refine ⟨by omega, fun i hi hik => ?_, fun i hi hik => ?_⟩
            · rcases Nat.lt_or_eq_of_le (Nat.le_of_lt_succ hik) with h | rfl
              · exact hI i hi h
              · rw [← hu]; exact c15
            · rcases Nat.lt_or_eq_of_le (Nat.le_of_lt_succ hik) with h | h
              · exact hJ i hi h
              · first
                | (exfalso; omega)
                | (obtain rfl : k = i + 1 := h.symm
                   simp only [Nat.add_sub_cancel] at c29
                   rw [hu] at c29
                   simpa using c29)
        ·
          refine D.takeNo (i := 6) rfl rfl (by kernel_rfl) e5 rfl (noB (isF rfl c18) rfl) ?_
          refine D.takeNo (i := 7) rfl rfl (by kernel_rfl) e5 rfl (noB (isF rfl c18) rfl) ?_
          refine D.takeNo (i := 8) rfl rfl (by kernel_rfl) e5 rfl (noB (isF rfl c18) rfl) ?_
          refine D.takeNo (i := 9) rfl rfl (by kernel_rfl) e5 rfl (noB (isF rfl c18) rfl) ?_
          refine D.takeNo (i := 10) rfl rfl (by kernel_rfl) e5 rfl (noB (isF rfl c18) rfl) ?_
          refine D.takeNo (i := 11) rfl rfl (by kernel_rfl) e5 rfl (noB (isF rfl c18) rfl) ?_
          refine D.takeNo (i := 12) rfl rfl (by kernel_rfl) e5 rfl (noB (isF rfl c18) rfl) ?_
          refine D.takeNo (i := 13) rfl rfl (by kernel_rfl) e5 rfl (noB (isF rfl c18) rfl) ?_
          refine D.takeNo (i := 14) rfl rfl (by kernel_rfl) e5 rfl (noB (isF rfl c18) rfl) ?_
          refine D.takeYes (i := 15) rfl rfl rfl (by kernel_rfl) rfl (isF' rfl c15) e5 pick_form (fun w_ hw_ N_ hN => (O.pickF (isF rfl c18) (O.nil hN))) ?_
          refine D.take (i := 16) rfl rfl rfl rfl (by kernel_rfl) e5 pick_form (fun w_ hw_ N_ hN => (O.pickF (isF' rfl c15) (O.nil hN))) ?_
          refine D.done (by kernel_rfl) ?_
          refine hK12 _ _ ?_
          refine C.condF rfl ?_
          refine C.skip ?_
          refine hK11 _ _ ?_
          refine C.region ?_
          refine O.mv ?_
          refine O.fieldAd Tryz.underlying56 rfl Tryz.sizeOf54 (by decide) rfl ?_
          refine O.loadO Tryz.isAgg54 rfl ((hs3.keep e4).keep e5) rfl ?_
          refine O.len Tryz.underlying54 rfl ((((hm12.keep e2).keepM e3 (by intro k hk h; first | (have q1 := hF k hk; (try dsimp only at h); omega) | (have q1 := hF2 k hk; (try dsimp only at h); omega) | (have q1 := hFb k hk; (try dsimp only at h); omega) | ((try dsimp only at hk); (try dsimp only at h); omega))).keep e4).keep e5) ?_
          refine O.addI s3_1 rfl (by unfold InI; omega) ?_
          refine O.asg ?_
          refine O.nil ?_
          refine hK9 _ _ ?_
          refine hK8 _ _ ?_
          refine C.region ?_
          refine O.addI s8_1 rfl (by unfold InI; omega) ?_
          refine O.mv ?_
          refine O.nil ?_
          refine ⟨k + 1, ⟨(Eq.trans rfl (congrArg (Value.int .i64) (by rw [Cn.count_take hk2, hu]; simp))), rfl, s0_1, s6_1, s7_1, (Ext.trans (Ext.trans (Ext.new (Ext.trans e_1 e2) e3 (by rintro i hi rfl; omega)) e4) e5), ?_⟩, by first | omega | (simp only []; omega)⟩
          refine ⟨by omega, fun i hi hik => ?_, fun i hi hik => ?_⟩
          · rcases Nat.lt_or_eq_of_le (Nat.le_of_lt_succ hik) with h | rfl
            · exact hI i hi h
            · rw [← hu]; exact c15
          · rcases Nat.lt_or_eq_of_le (Nat.le_of_lt_succ hik) with h | h
            · exact hJ i hi h
            · first
              | (exfalso; omega)
              | (obtain rfl : k = i + 1 := h.symm
                 simp only [Nat.add_sub_cancel] at c29
                 rw [hu] at c29
                 simpa using c29)
    ·
      refine C.exit ?_
      refine hK5 _ _ ?_
      refine hK3 _ _ ?_
      refine C.seqK fun K15 hK15 => ?_
      refine C.region ?_
      refine O.mv ?_
      refine O.call Tryz.call47 (args1 s0_1) (idots_spec _ l _ _ (hl.keep e_1) (fun k hk => by have := hF k hk; omega) hn hS) ?_
      rintro v_37 w6 ⟨e6, h37⟩
      have z6 := e6.size
      have h37s := h37.sl
      refine O.len Tryz.underlying22 rfl h37s ?_
      refine O.mv ?_
      refine O.eqlI rfl s3_1 ?_
      refine O.asg ?_
      refine O.nil ?_
      refine hK15 _ _ ?_
      refine C.ret ?_
      refine Outs.one rfl rfl ?_
      first
      | (refine ⟨congrArg Value.bool ?_, (Ext.trans e_1 e6)⟩
         have q : l.any Cn.badI = true := Cn.any_yes hk2 (by rw [← hu]; exact c15)
         unfold Cn.itemsValid
         rw [q]
         rfl)
      | (refine ⟨congrArg Value.bool ?_, (Ext.trans e_1 e6)⟩
         have q : Cn.names l = false := Cn.adj_no (j := k - 1) hk2 (by omega) (by omega) (by rw [← hu]; simpa using c29)
         unfold Cn.itemsValid
         rw [q, Bool.false_and, Bool.and_false])
      | (refine ⟨congrArg Value.bool ?_, (Ext.trans e_1 e6)⟩
         obtain rfl : k = l.length := by omega
         have q1 : l.any Cn.badI = false := Cn.any_no fun i hi => hI i hi hi
         have q2 : Cn.names l = true := Cn.adj_yes fun i hi => hJ i hi hi
         unfold Cn.itemsValid
         rw [q1, q2, List.take_length]
         exact decide_eq_decide.2 Int.ofNat_inj)

end Go.Proofs.YtnkcmaoaagnopaaGreatDoor
end
section
/-
  The walks of carts: what is missing, what is valid. Conditions: slices as they lie in memory.
-/
namespace Go.Proofs.YtnkcmaoaagnopaaGreatDoor
open Go.Pn Go.RowKit Go.Proofs
attribute [local irreducible] O C D

theorem del_n_spec (vf : Value) (M : Nat → Prop) (p : Dt.Dot → Bool) (w : World) (hp : Pred Tryz.prog M w vf Dt.dv p) :
    Ret Tryz.prog 69 #[.slice none 0 0, vf] w (fun v w' => v = .slice none 0 0 ∧ Le w w') := by
  refine enter (args := [.slice none 0 0, vf]) (n := 42) Tryz.func69 rfl rfl (Nat.le_of_ble_eq_true rfl) ?_
  refine C.seqK fun K1 hK1 => ?_
  refine C.region ?_
  refine O.asg ?_
  refine O.nil ?_
  refine hK1 _ _ ?_
  refine C.seqK fun K2 hK2 => ?_
  refine C.region ?_
  refine O.mv ?_
  refine O.mv ?_
  refine O.call Tryz.call67 (args2 rfl rfl) (indexD_spec _ _ [] (fun _ => False) M p _ (Sl.nil _ _ _) hp) ?_
  rintro v_10 w1 ⟨rfl, e1⟩
  have z1 := e1.size
  refine O.asg ?_
  refine O.nil ?_
  refine hK2 _ _ ?_
  refine C.seqK fun K3 hK3 => ?_
  refine C.seqK fun K4 hK4 => ?_
  refine C.region ?_
  refine O.mv ?_
  refine O.eqlI rfl rfl ?_
  refine O.cast (v' := .bool true) (congrArg Value.bool (by exact decide_eq_true rfl)) ?_
  refine O.nil ?_
  refine hK4 _ _ ?_
  refine C.condT rfl ?_
  refine C.seqK fun K5 hK5 => ?_
  refine C.region ?_
  refine O.mv ?_
  refine O.asg ?_
  refine O.nil ?_
  refine hK5 _ _ ?_
  refine C.ret ?_
  refine Outs.one rfl rfl ?_
  exact ⟨rfl, e1⟩

set_option maxHeartbeats 2000000 in
theorem del_a_spec (g cap B Z : Nat) (l : List Dt.Dot) (vf : Value) (p : Dt.Dot → Bool) (w : World) (ho : OwnF Dt.dotF 51 B w (.slice (some ⟨g, 0, none⟩) l.length cap) l) (hn : l.length ≤ 1000000000000) (hZ : Z = w.heap.size) (hp : Pred Tryz.prog (fun k => k = g ∨ Z ≤ k) w vf Dt.dv p) :
    Ret Tryz.prog 69 #[.slice (some ⟨g, 0, none⟩) l.length cap, vf] w (fun v w' => ∃ n, v = .slice (some ⟨g, 0, none⟩) n cap ∧ n = (l.filter fun x => !p x).length ∧ Ext (fun k => k = g) w w') := by
  have hs0 := ho.sl
  have hcap := ho.le_cap
  have hge := Cn.idx_ge (p := p) l
  refine enter (args := [.slice (some ⟨g, 0, none⟩) l.length cap, vf]) (n := 42) Tryz.func69 rfl rfl (Nat.le_of_ble_eq_true rfl) ?_
  refine C.seqK fun K1 hK1 => ?_
  refine C.region ?_
  refine O.asg ?_
  refine O.nil ?_
  refine hK1 _ _ ?_
  refine C.seqK fun K2 hK2 => ?_
  refine C.region ?_
  refine O.mv ?_
  refine O.mv ?_
  refine O.call Tryz.call67 (args2 rfl rfl) (indexD_spec _ _ _ _ _ p _ hs0 hp) ?_
  rintro v_10 w1 ⟨rfl, e1⟩
  have z1 := e1.size
  refine O.asg ?_
  refine O.nil ?_
  refine hK2 _ _ ?_
  refine C.seqK fun K3 hK3 => ?_
  refine C.seqK fun K4 hK4 => ?_
  refine C.region ?_
  refine O.mv ?_
  refine O.eqlI rfl rfl ?_
  refine O.nil ?_
  refine hK4 _ _ ?_
  refine C.condD rfl (fun c12 => ?_) (fun c12 => ?_)
  ·
    have hi1 := Cn.filter_none c12
    refine C.seqK fun K5 hK5 => ?_
    refine C.region ?_
    refine O.mv ?_
    refine O.asg ?_
    refine O.nil ?_
    refine hK5 _ _ ?_
    refine C.ret ?_
    refine Outs.one rfl rfl ?_
    first
    | exact ⟨_, rfl, by rw [hi1], (Ext.new (Ext.refl _ _) e1 (by intro i hi hk; first | exact hk.elim | ((try dsimp only at hk); (try dsimp only); omega)))⟩
    | (refine ⟨_, rfl, ?_, (Ext.new (Ext.refl _ _) e1 (by intro i hi hk; first | exact hk.elim | ((try dsimp only at hk); (try dsimp only); omega)))⟩
       have q1 : c.take m = l.filter (fun x => !p x) := by rw [hT, hj3, List.take_length]
       rw [← q1, List.length_take]
       omega)
  ·
    obtain ⟨i, hi⟩ : ∃ i : Nat, Cn.idx p l = (i : Int) := ⟨(Cn.idx p l).toNat, by omega⟩
    obtain ⟨⟨hil, hip⟩, hib⟩ := Cn.idx_at hi
    obtain ⟨hf1, hf2⟩ := Cn.filter_first hi
    refine C.skip ?_
    refine hK3 _ _ ?_
    refine C.seqK fun K6 hK6 => ?_
    refine C.seqK fun K7 hK7 => ?_
    refine C.region ?_
    refine O.mv ?_
    refine O.addI rfl rfl (by unfold InI; omega) ?_
    refine O.asg ?_
    refine O.nil ?_
    refine hK7 _ _ ?_
    refine C.block fun K8 hK8 => ?_
    refine C.loop0 (σ := Nat × Nat × List Dt.Dot) (fun f0 w0 ⟨j, m, c⟩ f w => f 6 = .int .i64 (j) ∧ f 5 = .int .i64 (m) ∧ f 0 = f0 0 ∧ f 1 = f0 1 ∧ f 4 = f0 4 ∧ Ext (fun k => k = g ∨ Z ≤ k) w0 w ∧ OwnF Dt.dotF 51 B w (.slice (some ⟨g, 0, none⟩) l.length cap) c ∧ Pred Tryz.prog (fun k => k = g ∨ Z ≤ k) w vf Dt.dv p ∧ c.length = l.length ∧ j ≤ l.length ∧ m + 1 ≤ j ∧ c.take m = (l.take j).filter (fun x => !p x) ∧ ∀ i, ∀ h1 : i < c.length, ∀ h2 : i < l.length, j ≤ i → c[i] = l[i]) (fun ⟨j, m, c⟩ => l.length - j) (i + 1, i, l) ?_ ?_
    ·
      refine ⟨(Eq.trans rfl (congrArg (Value.int .i64) (by rw [hi]; rfl))), (Eq.trans rfl (congrArg (Value.int .i64) hi)), rfl, rfl, rfl, Ext.refl _ _, (ho.keep e1), (hp.keep e1), ?_⟩
      exact ⟨rfl, by omega, by omega, hf2.symm, fun i _ _ _ => rfl⟩
    ·
      rintro ⟨j, m, c⟩ f_1 w2 ⟨s6_1, s5_1, s0_1, s1_1, s4_1, e_1, r0_1, r1_1, ⟨hcl, hj, hm, hT, hE⟩⟩
      have z_1 := e_1.size
      have r0_1s := r0_1.sl
      have hp4 := r0_1.sl
      refine C.seqK fun K9 hK9 => ?_
      refine C.seqK fun K10 hK10 => ?_
      refine C.region ?_
      refine O.mv ?_
      refine O.mv ?_
      refine O.len Tryz.underlying22 s0_1 hp4 ?_
      refine O.lssI s6_1 rfl ?_
      refine O.nil ?_
      refine hK10 _ _ ?_
      refine C.condD rfl (fun c19 => ?_) (fun c19 => ?_)
      ·
        have hj2 : j < c.length := by simp at c19; omega
        have y1 : ((j : Int)).toNat = j := by omega
        refine C.skip ?_
        refine hK9 _ _ ?_
        refine C.seqK fun K11 hK11 => ?_
        refine C.block fun K12 hK12 => ?_
        refine C.seqK fun K13 hK13 => ?_
        refine C.region ?_
        refine O.mv ?_
        refine O.mv ?_
        refine O.idx Tryz.underlying22 Tryz.sizeOf51 rfl s0_1 hp4 s6_1 (by simp; omega) (fun a24 h24 => ?_)
        refine O.loadG (G := Dt.dotF) Tryz.isAgg51 Tryz.sizeOf51 rfl h24 ?_
        obtain ⟨u, hu⟩ : ∃ u : Dt.Dot, u = l[j]'(by omega) := ⟨_, rfl⟩
        refine O.cast (v' := Dt.dv u) (by subst hu; simp only [y1]; rw [hE j hj2 (by omega) (by omega)]; rfl) ?_
        refine O.alloc Tryz.zeroValue51 (fun b7 w3 hb7 hz7 e3 => ?_)
        have z3 := e3.size
        have h7 := hz7.own
        have hl7 := h7.lt
        refine O.storeA (vs := [.int .i64 u.1, .int .i64 u.2]) Tryz.sizeOf51 rfl rfl rfl (by simp [Value.oneCell']) h7 (Nat.le_of_ble_eq_true rfl) (fun w4 hs4 e4 z4 => ?_)
        refine O.nil ?_
        refine hK13 _ _ ?_
        refine C.seqK fun K14 hK14 => ?_
        refine C.region ?_
        refine O.mv ?_
        refine O.loadOA Tryz.isAgg51 Tryz.sizeOf51 rfl hs4 (Nat.le_of_ble_eq_true rfl) ?_
        refine O.callP (u) ((r1_1.keep e3).keepM e4 (fun k h => .inr (by (try dsimp only at h); omega))) s1_1 rfl (fun w5 e5 => ?_)
        have z5 := e5.size
        refine O.not rfl ?_
        refine O.nil ?_
        refine hK14 _ _ ?_
        refine C.cond rfl (fun c29 => ?_) (fun c29 => ?_)
        ·
          refine C.seqK fun K15 hK15 => ?_
          refine C.region ?_
          refine O.mv ?_
          refine O.mv ?_
          refine O.loadOA Tryz.isAgg51 Tryz.sizeOf51 rfl (hs4.keep e5) (Nat.le_of_ble_eq_true rfl) ?_
          refine O.idxO Tryz.underlying22 Tryz.sizeOf51 s0_1 s5_1 (by omega) ?_
          refine O.cast (v' := .pointer (some ⟨g, m * Dt.dotF.sz, none⟩)) (by rw [Nat.zero_add, Int.toNat_natCast]; rfl) ?_
          have ho33 := (((r0_1.keep e3).keepM e4 (fun k hk h => by have := r0_1.bk_ge k hk; (try dsimp only at h); omega)).keep e5)
          rw [← hcl] at ho33
          refine O.storeG (G := Dt.dotF) (u) Tryz.sizeOf51 rfl rfl ho33 (by omega) (fun w6 hs6 e6 z6 => ?_)
          rw [hcl] at hs6
          refine O.nil ?_
          refine hK15 _ _ ?_
          refine C.region ?_
          refine O.mv ?_
          refine O.addI s5_1 rfl (by unfold InI; omega) ?_
          refine O.cast (v' := .int .i64 ((m + 1 : Nat) : Int)) rfl ?_
          refine O.asg ?_
          refine O.nil ?_
          refine hK12 _ _ ?_
          refine hK11 _ _ ?_
          refine C.region ?_
          refine O.mv ?_
          refine O.addI s6_1 rfl (by unfold InI; omega) ?_
          refine O.asg ?_
          refine O.nil ?_
          refine ⟨(j + 1, _, _), ⟨rfl, rfl, s0_1, s1_1, s4_1, (Ext.new (Ext.new (Ext.new (Ext.new (Ext.new (Ext.refl _ _) e_1 (by intro i hi hk; first | exact hk.elim | ((try dsimp only at hk); (try dsimp only); omega))) e3 (by intro i hi hk; first | exact hk.elim | ((try dsimp only at hk); (try dsimp only); omega))) e4 (by intro i hi hk; first | exact hk.elim | ((try dsimp only at hk); (try dsimp only); omega))) e5 (by intro i hi hk; first | exact hk.elim | ((try dsimp only at hk); (try dsimp only); omega))) e6 (by intro i hi hk; first | exact hk.elim | ((try dsimp only at hk); (try dsimp only); omega))), hs6, ((((r1_1.keep e3).keepM e4 (fun k h => .inr (by (try dsimp only at h); omega))).keep e5).keepM e6 (fun k h => .inl h)), ?_⟩, by first | omega | (simp only []; omega)⟩
          first
          | (refine ⟨by rw [List.length_set]; exact hcl, by omega, by omega, ?_, fun i h1 h2 h3 => ?_⟩
             · rw [List.take_succ_eq_append_getElem (by rw [List.length_set]; omega), List.take_set, List.set_eq_of_length_le (by simp; omega), hT, Cn.filter_take p (by omega), List.getElem_set_self, ← hu]
               have c29' : p u = false := by simpa using c29
               rw [c29']
               rfl
             · rw [List.getElem_set_ne (by omega)]
               exact hE i (by rw [List.length_set] at h1; exact h1) h2 (by omega))
          | (refine ⟨hcl, by omega, by omega, ?_, fun i h1 h2 h3 => hE i h1 h2 (by omega)⟩
             have c29' : p u = true := by simpa using c29
             rw [hT, Cn.filter_take p (by omega), ← hu, c29', if_pos rfl, List.append_nil])
        ·
          refine C.skip ?_
          refine hK12 _ _ ?_
          refine hK11 _ _ ?_
          refine C.region ?_
          refine O.mv ?_
          refine O.addI s6_1 rfl (by unfold InI; omega) ?_
          refine O.asg ?_
          refine O.nil ?_
          refine ⟨(j + 1, _, _), ⟨rfl, s5_1, s0_1, s1_1, s4_1, (Ext.new (Ext.new (Ext.new (Ext.new (Ext.refl _ _) e_1 (by intro i hi hk; first | exact hk.elim | ((try dsimp only at hk); (try dsimp only); omega))) e3 (by intro i hi hk; first | exact hk.elim | ((try dsimp only at hk); (try dsimp only); omega))) e4 (by intro i hi hk; first | exact hk.elim | ((try dsimp only at hk); (try dsimp only); omega))) e5 (by intro i hi hk; first | exact hk.elim | ((try dsimp only at hk); (try dsimp only); omega))), (((r0_1.keep e3).keepM e4 (fun k hk h => by have := r0_1.bk_ge k hk; (try dsimp only at h); omega)).keep e5), (((r1_1.keep e3).keepM e4 (fun k h => .inr (by (try dsimp only at h); omega))).keep e5), ?_⟩, by first | omega | (simp only []; omega)⟩
          first
          | (refine ⟨by rw [List.length_set]; exact hcl, by omega, by omega, ?_, fun i h1 h2 h3 => ?_⟩
             · rw [List.take_succ_eq_append_getElem (by rw [List.length_set]; omega), List.take_set, List.set_eq_of_length_le (by simp; omega), hT, Cn.filter_take p (by omega), List.getElem_set_self, ← hu]
               have c29' : p u = false := by simpa using c29
               rw [c29']
               rfl
             · rw [List.getElem_set_ne (by omega)]
               exact hE i (by rw [List.length_set] at h1; exact h1) h2 (by omega))
          | (refine ⟨hcl, by omega, by omega, ?_, fun i h1 h2 h3 => hE i h1 h2 (by omega)⟩
             have c29' : p u = true := by simpa using c29
             rw [hT, Cn.filter_take p (by omega), ← hu, c29', if_pos rfl, List.append_nil])
      ·
        have hj3 : j = l.length := by simp at c19; omega
        refine C.exit ?_
        refine hK8 _ _ ?_
        refine hK6 _ _ ?_
        refine C.seqK fun K16 hK16 => ?_
        refine C.region ?_
        refine O.mv ?_
        refine O.mv ?_
        refine O.subHi Tryz.underlying22 Tryz.sizeOf51 s0_1 s5_1 (by omega) (by omega) ?_
        have hkw7 := r0_1
        rw [← hcl] at hkw7
        refine O.clearG (G := Dt.dotF) (zx := (0, 0)) (k := m) Tryz.underlying22 Tryz.zeroValue51 rfl (by rw [hcl]; exact rfl) hkw7 (by omega) (fun w7 hc7 e7 z7 => ?_)
        rw [hcl] at hc7
        refine O.nil ?_
        refine hK16 _ _ ?_
        refine C.seqK fun K17 hK17 => ?_
        refine C.region ?_
        refine O.mv ?_
        refine O.mv ?_
        refine O.subLo Tryz.underlying22 Tryz.sizeOf51 s0_1 s5_1 (by omega) (by omega) ?_
        refine O.asg ?_
        refine O.nil ?_
        refine hK17 _ _ ?_
        refine C.ret ?_
        refine Outs.one rfl rfl ?_
        first
        | exact ⟨_, rfl, by rw [hi1], (Ext.new (Ext.new (Ext.new (Ext.refl _ _) e1 (by intro i hi hk; first | exact hk.elim | ((try dsimp only at hk); (try dsimp only); omega))) e_1 (by intro i hi hk; first | exact hk.elim | ((try dsimp only at hk); (try dsimp only); omega))) e7 (by intro i hi hk; first | exact hk.elim | ((try dsimp only at hk); (try dsimp only); omega)))⟩
        | (refine ⟨_, rfl, ?_, (Ext.new (Ext.new (Ext.new (Ext.refl _ _) e1 (by intro i hi hk; first | exact hk.elim | ((try dsimp only at hk); (try dsimp only); omega))) e_1 (by intro i hi hk; first | exact hk.elim | ((try dsimp only at hk); (try dsimp only); omega))) e7 (by intro i hi hk; first | exact hk.elim | ((try dsimp only at hk); (try dsimp only); omega)))⟩
           have q1 : c.take m = l.filter (fun x => !p x) := by rw [hT, hj3, List.take_length]
           rw [← q1, List.length_take]
           omega)


theorem del_spec (v : Value) (B : Nat) (l : List Dt.Dot) (vf : Value) (p : Dt.Dot → Bool) (w : World) (h : OwnF Dt.dotF 51 B w v l) (hB : B ≤ w.heap.size) (hn : l.length ≤ 1000000000000) (hp : Pred Tryz.prog (fun k => B ≤ k) w vf Dt.dv p) :
    Ret Tryz.prog 69 #[v, vf] w (fun r w' => (∃ a n c, r = .slice a n c ∧ n = (l.filter fun x => !p x).length) ∧ Ext (fun k => B ≤ k) w w') := by
  rcases h.1.2 with ⟨rfl, h0⟩ | ⟨g, cap, cur, rfl, hg, _⟩
  · obtain rfl : l = [] := List.eq_nil_of_length_eq_zero h0
    refine (del_n_spec vf _ p w hp).mono ?_
    rintro r w' ⟨rfl, e⟩
    exact ⟨⟨_, _, _, rfl, rfl⟩, e.to⟩
  · refine (del_a_spec g cap B w.heap.size l vf p w h hn rfl (hp.weak fun k hk => ?_)).mono ?_
    · rcases hk with rfl | hk <;> omega
    · rintro r w' ⟨n, rfl, hn, e⟩
      exact ⟨⟨_, _, _, rfl, hn⟩, e.mono fun k _ hk => by have h1 : k = g := hk; omega⟩

theorem missing_spec (v1 v2 : Value) (x : Cn.Ctx) (F : Nat → Prop) (v3 : Value) (l : List Dt.Dot) (F2 : Nat → Prop) (w : World) (hv : Sl Dt.dotF.enc w F v1 x.1) (hc : Sl Dt.dotF.enc w F v2 x.2) (hl : Sl Dt.dotF.enc w F2 v3 l) (hF : ∀ k, F k → k < w.heap.size) (hn : l.length ≤ 1000000000000) :
    Ret Tryz.prog 46 #[.agg #[v1, v2], v3] w (fun v w' => (∃ a n c, v = .slice a n c ∧ n = (Cn.missing x l).length) ∧ Le w w') := by
  have hsl := Dt.addAll_length l []
  simp only [List.length_nil, Nat.zero_add] at hsl
  refine enter (args := [.agg #[v1, v2], v3]) (n := 9) Tryz.func46 rfl rfl (Nat.le_of_ble_eq_true rfl) ?_
  refine C.seqK fun K1 hK1 => ?_
  refine C.region ?_
  refine O.box (v := .agg #[v1, v2]) rfl (fun b2 w1 hb2 hz2 e1 => ?_)
  have z1 := e1.size
  have h2 := hz2.own
  have hl2 := h2.lt
  refine O.asg ?_
  refine O.nil ?_
  refine hK1 _ _ ?_
  refine C.seqK fun K2 hK2 => ?_
  refine C.region ?_
  refine O.mv ?_
  refine O.call Tryz.call70 (args1 rfl) (set_spec _ l _ _ (hl.keep e1) hn) ?_
  rintro v_6 w2 ⟨e2, h6⟩
  have z2 := e2.size
  have hl6 := h6.1.1
  refine O.makeF (v1 := []) rfl rfl ?_
  refine O.call Tryz.call69 (args2 rfl rfl) (del_spec _ _ _ _ (Cn.ctxHas x) _ h6 (by omega) (by unfold Dt.set; omega) (pred_miss b2 v1 v2 x F _ _ (h2.keep e2) ((hv.keep e1).keep e2) ((hc.keep e1).keep e2) (by omega) (by intro k hk h; have := hF k hk; (try dsimp only at h); omega))) ?_
  rintro v_8 w3 ⟨⟨av8, nv8, cv8, rfl, hnv8⟩, e3⟩
  have z3 := e3.size
  refine O.asg ?_
  refine O.nil ?_
  refine hK2 _ _ ?_
  refine C.ret ?_
  refine Outs.one rfl rfl ?_
  exact ⟨⟨_, _, _, rfl, hnv8⟩, (Ext.new (Ext.trans e1 e2) e3 (by intro i hi h; (try dsimp only at h); omega))⟩

set_option maxHeartbeats 1000000 in
theorem cartValid_spec (va1 va2 va3 : Value) (a : Cn.Cart) (F : Nat → Prop) (w : World) (hav : Sl Dt.dotF.enc w F va1 a.1.1) (hac : Sl Dt.dotF.enc w F va2 a.1.2) (hai : Sl itemE w F va3 a.2) (hF : ∀ k, F k → k < w.heap.size) (hn : a.2.length ≤ 1000000) (hS : ∀ x ∈ a.2, x.1.length ≤ 1000000 ∧ x.2.length ≤ 1000000) (mx : Mx w) :
    Ret Tryz.prog 19 #[.agg #[va1, va2, va3]] w (fun v w' => v = .bool (Cn.valid a) ∧ Le w w') := by
  have hdl := Cn.dotsOf_len (l := a.2) fun x hx => (hS x hx).2
  refine enter (args := [.agg #[va1, va2, va3]]) (n := 21) Tryz.func19 rfl rfl (Nat.le_of_ble_eq_true rfl) ?_
  refine C.seqK fun K1 hK1 => ?_
  refine C.region ?_
  refine O.box (v := .agg #[va1, va2, va3]) rfl (fun b1 w1 hb1 hz1 e1 => ?_)
  have z1 := e1.size
  have h1 := hz1.own
  have hl1 := h1.lt
  refine O.asg ?_
  refine O.nil ?_
  refine hK1 _ _ ?_
  refine C.seqK fun K2 hK2 => ?_
  refine C.draw (by kernel_rfl) fun w2 e2 => ?_
  have z2 := e2.size
  refine D.take (i := 0) rfl rfl rfl rfl (by kernel_rfl) (Le.refl _) ⟨_, rfl⟩ (fun w_ hw_ N_ hN => (O.fieldAd Tryz.underlying28 rfl Tryz.sizeOf25 (by decide) rfl (O.nil hN))) ?_
  refine D.take (i := 1) rfl rfl rfl rfl (by kernel_rfl) (Le.refl _) ⟨_, rfl⟩ (fun w_ hw_ N_ hN => (O.loadOA Tryz.isAgg25 Tryz.sizeOf25 rfl ((h1.keep e2).keep hw_) (Nat.le_of_ble_eq_true rfl) (O.nil hN))) ?_
  refine D.one (i := 2) rfl rfl (by kernel_rfl) ?_
  refine O.call Tryz.call17 (args1 rfl) (isCompact_spec va1 va2 a.1 F _ ((hav.keep e1).keep e2) ((hac.keep e1).keep e2)) ?_
  rintro v_5 w3 ⟨rfl, e3⟩
  have z3 := e3.size
  refine O.nil ⟨e3, ?_⟩
  refine D.take (i := 3) rfl rfl rfl rfl (by kernel_rfl) e3 ⟨pure _, rfl⟩ (fun w_ hw_ N_ hN => (O.mv (O.nil hN))) ?_
  refine D.split (x := .tmp 6) rfl (fun c6 => ?_) (fun c6 => ?_)
  ·
    refine D.takeYes (i := 4) rfl rfl rfl (by kernel_rfl) rfl (isT' rfl c6) e3 ⟨_, rfl⟩ (fun w_ hw_ N_ hN => (O.fieldAd Tryz.underlying28 rfl Tryz.sizeOf26 (by decide) rfl (O.nil hN))) ?_
    refine D.takeYes (i := 5) rfl rfl rfl (by kernel_rfl) rfl (isT' rfl c6) e3 ⟨_, rfl⟩ (fun w_ hw_ N_ hN => (O.loadO Tryz.isAgg26 rfl ((h1.keep e2).keep hw_) rfl (O.nil hN))) ?_
    refine D.oneYes (i := 6) rfl rfl (isT' rfl c6) (by kernel_rfl) ?_
    refine O.call Tryz.call45 (args1 rfl) (itemsValid_spec va3 a.2 F _ (((hai.keep e1).keep e2).keep e3) (by intro k hk; have := hF k hk; omega) hn hS (((mx.keep e1).keep e2).keep e3)) ?_
    rintro v_9 w4 ⟨rfl, e4⟩
    have z4 := e4.size
    refine O.nil ⟨(Ext.trans e3 e4), ?_⟩
    refine D.take (i := 7) rfl rfl rfl rfl (by kernel_rfl) (Ext.trans e3 e4) pick_form (fun w_ hw_ N_ hN => (O.pickT (isT' rfl c6) (O.nil hN))) ?_
    refine D.take (i := 8) rfl rfl rfl rfl (by kernel_rfl) (Ext.trans e3 e4) ⟨pure _, rfl⟩ (fun w_ hw_ N_ hN => (O.mv (O.nil hN))) ?_
    refine D.split (x := .tmp 11) rfl (fun c11 => ?_) (fun c11 => ?_)
    ·
      refine D.takeYes (i := 9) rfl rfl rfl (by kernel_rfl) rfl (isT' rfl c11) (Ext.trans e3 e4) ⟨_, rfl⟩ (fun w_ hw_ N_ hN => (O.fieldAd Tryz.underlying28 rfl Tryz.sizeOf25 (by decide) rfl (O.nil hN))) ?_
      refine D.takeYes (i := 10) rfl rfl rfl (by kernel_rfl) rfl (isT' rfl c11) (Ext.trans e3 e4) ⟨_, rfl⟩ (fun w_ hw_ N_ hN => (O.loadOA Tryz.isAgg25 Tryz.sizeOf25 rfl ((h1.keep e2).keep hw_) (Nat.le_of_ble_eq_true rfl) (O.nil hN))) ?_
      refine D.takeYes (i := 11) rfl rfl rfl (by kernel_rfl) rfl (isT' rfl c11) (Ext.trans e3 e4) ⟨_, rfl⟩ (fun w_ hw_ N_ hN => (O.fieldAd Tryz.underlying28 rfl Tryz.sizeOf26 (by decide) rfl (O.nil hN))) ?_
      refine D.takeYes (i := 12) rfl rfl rfl (by kernel_rfl) rfl (isT' rfl c11) (Ext.trans e3 e4) ⟨_, rfl⟩ (fun w_ hw_ N_ hN => (O.loadO Tryz.isAgg26 rfl ((h1.keep e2).keep hw_) rfl (O.nil hN))) ?_
      refine D.oneYes (i := 13) rfl rfl (isT' rfl c11) (by kernel_rfl) ?_
      refine O.call Tryz.call47 (args1 rfl) (idots_spec va3 a.2 F _ ((((hai.keep e1).keep e2).keep e3).keep e4) (by intro k hk; have := hF k hk; omega) hn hS) ?_
      rintro v_16 w5 ⟨e5, h16⟩
      have z5 := e5.size
      refine O.nil ⟨(Ext.trans (Ext.trans e3 e4) e5), ?_⟩
      have h16s := h16.sl
      refine D.oneYes (i := 14) rfl rfl (isT' rfl c11) (by kernel_rfl) ?_
      refine O.call Tryz.call46 (args2 rfl rfl) (missing_spec va1 va2 a.1 F _ (Cn.dotsOf a.2) _ _ (((((hav.keep e1).keep e2).keep e3).keep e4).keep e5) (((((hac.keep e1).keep e2).keep e3).keep e4).keep e5) h16s (by intro k hk; have := hF k hk; omega) (by omega)) ?_
      rintro v_17 w6 ⟨⟨av17, nv17, cv17, rfl, hnv17⟩, e6⟩
      have z6 := e6.size
      refine O.nil ⟨(Ext.trans (Ext.trans (Ext.trans e3 e4) e5) e6), ?_⟩
      refine D.takeYes (i := 15) rfl rfl rfl (by kernel_rfl) rfl (isT' rfl c11) (Ext.trans (Ext.trans (Ext.trans e3 e4) e5) e6) len_form (fun w_ hw_ N_ hN => (O.lenL Tryz.underlying22 rfl (O.nil hN))) ?_
      refine D.takeYes (i := 16) rfl rfl rfl (by kernel_rfl) rfl (isT' rfl c11) (Ext.trans (Ext.trans (Ext.trans e3 e4) e5) e6) ⟨_, rfl⟩ (fun w_ hw_ N_ hN => (O.eqlI rfl rfl (O.nil hN))) ?_
      refine D.take (i := 17) rfl rfl rfl rfl (by kernel_rfl) (Ext.trans (Ext.trans (Ext.trans e3 e4) e5) e6) pick_form (fun w_ hw_ N_ hN => (O.pickT (isT' rfl c11) (O.nil hN))) ?_
      refine D.take (i := 18) rfl rfl rfl rfl (by kernel_rfl) (Ext.trans (Ext.trans (Ext.trans e3 e4) e5) e6) ⟨pure _, rfl⟩ (fun w_ hw_ N_ hN => (O.asg (O.nil hN))) ?_
      refine D.done (by kernel_rfl) ?_
      refine hK2 _ _ ?_
      refine C.ret ?_
      refine Outs.one rfl rfl ?_
      refine ⟨congrArg Value.bool ?_, (Ext.trans (Ext.trans (Ext.trans (Ext.trans (Ext.trans e1 e2) e3) e4) e5) e6)⟩
      unfold Cn.valid
      first
      | (rw [c6]; rfl)
      | (rw [c6, c11]; rfl)
      | (rw [c6, c11, ← hnv17]; exact decide_eq_decide.2 Int.ofNat_eq_zero)
    ·
      refine D.takeNo (i := 9) rfl rfl (by kernel_rfl) (Ext.trans e3 e4) rfl (noB (isF' rfl c11) rfl) ?_
      refine D.takeNo (i := 10) rfl rfl (by kernel_rfl) (Ext.trans e3 e4) rfl (noB (isF' rfl c11) rfl) ?_
      refine D.takeNo (i := 11) rfl rfl (by kernel_rfl) (Ext.trans e3 e4) rfl (noB (isF' rfl c11) rfl) ?_
      refine D.takeNo (i := 12) rfl rfl (by kernel_rfl) (Ext.trans e3 e4) rfl (noB (isF' rfl c11) rfl) ?_
      refine D.takeNo (i := 13) rfl rfl (by kernel_rfl) (Ext.trans e3 e4) rfl (noB (isF' rfl c11) rfl) ?_
      refine D.takeNo (i := 14) rfl rfl (by kernel_rfl) (Ext.trans e3 e4) rfl (noB (isF' rfl c11) rfl) ?_
      refine D.takeNo (i := 15) rfl rfl (by kernel_rfl) (Ext.trans e3 e4) rfl (noB (isF' rfl c11) rfl) ?_
      refine D.takeNo (i := 16) rfl rfl (by kernel_rfl) (Ext.trans e3 e4) rfl (noB (isF' rfl c11) rfl) ?_
      refine D.take (i := 17) rfl rfl rfl rfl (by kernel_rfl) (Ext.trans e3 e4) pick_form (fun w_ hw_ N_ hN => (O.pickF (isF' rfl c11) (O.nil hN))) ?_
      refine D.take (i := 18) rfl rfl rfl rfl (by kernel_rfl) (Ext.trans e3 e4) ⟨pure _, rfl⟩ (fun w_ hw_ N_ hN => (O.asg (O.nil hN))) ?_
      refine D.done (by kernel_rfl) ?_
      refine hK2 _ _ ?_
      refine C.ret ?_
      refine Outs.one rfl rfl ?_
      refine ⟨congrArg Value.bool ?_, (Ext.trans (Ext.trans (Ext.trans e1 e2) e3) e4)⟩
      unfold Cn.valid
      first
      | (rw [c6]; rfl)
      | (rw [c6, c11]; rfl)
      | (rw [c6, c11, ← hnv17]; exact decide_eq_decide.2 Int.ofNat_eq_zero)
  ·
    refine D.takeNo (i := 4) rfl rfl (by kernel_rfl) e3 rfl (noB (isF' rfl c6) rfl) ?_
    refine D.takeNo (i := 5) rfl rfl (by kernel_rfl) e3 rfl (noB (isF' rfl c6) rfl) ?_
    refine D.takeNo (i := 6) rfl rfl (by kernel_rfl) e3 rfl (noB (isF' rfl c6) rfl) ?_
    refine D.take (i := 7) rfl rfl rfl rfl (by kernel_rfl) e3 pick_form (fun w_ hw_ N_ hN => (O.pickF (isF' rfl c6) (O.nil hN))) ?_
    refine D.take (i := 8) rfl rfl rfl rfl (by kernel_rfl) e3 ⟨pure _, rfl⟩ (fun w_ hw_ N_ hN => (O.mv (O.nil hN))) ?_
    refine D.takeNo (i := 9) rfl rfl (by kernel_rfl) e3 rfl (noB rfl rfl) ?_
    refine D.takeNo (i := 10) rfl rfl (by kernel_rfl) e3 rfl (noB rfl rfl) ?_
    refine D.takeNo (i := 11) rfl rfl (by kernel_rfl) e3 rfl (noB rfl rfl) ?_
    refine D.takeNo (i := 12) rfl rfl (by kernel_rfl) e3 rfl (noB rfl rfl) ?_
    refine D.takeNo (i := 13) rfl rfl (by kernel_rfl) e3 rfl (noB rfl rfl) ?_
    refine D.takeNo (i := 14) rfl rfl (by kernel_rfl) e3 rfl (noB rfl rfl) ?_
    refine D.takeNo (i := 15) rfl rfl (by kernel_rfl) e3 rfl (noB rfl rfl) ?_
    refine D.takeNo (i := 16) rfl rfl (by kernel_rfl) e3 rfl (noB rfl rfl) ?_
    refine D.take (i := 17) rfl rfl rfl rfl (by kernel_rfl) e3 pick_form (fun w_ hw_ N_ hN => (O.pickF rfl (O.nil hN))) ?_
    refine D.take (i := 18) rfl rfl rfl rfl (by kernel_rfl) e3 ⟨pure _, rfl⟩ (fun w_ hw_ N_ hN => (O.asg (O.nil hN))) ?_
    refine D.done (by kernel_rfl) ?_
    refine hK2 _ _ ?_
    refine C.ret ?_
    refine Outs.one rfl rfl ?_
    refine ⟨congrArg Value.bool ?_, (Ext.trans (Ext.trans e1 e2) e3)⟩
    unfold Cn.valid
    first
    | (rw [c6]; rfl)
    | (rw [c6, c11]; rfl)
    | (rw [c6, c11, ← hnv17]; exact decide_eq_decide.2 Int.ofNat_eq_zero)

end Go.Proofs.YtnkcmaoaagnopaaGreatDoor
end
section
/-
  The walks of bytes: numbers, rows of bytes in one. Conditions: slices as they lie in memory.
-/
namespace Go.Proofs.YtnkcmaoaagnopaaGreatDoor
open Go.Pn Go.RowKit Go.Proofs
attribute [local irreducible] O C D

theorem inf5 : ∃ ie, Tryz.prog.info? 5 = some ie ∧ ie.size = 1 ∧ ie.bytes = 1 ∧ ie.zero = some (.int .u8 0) := by
  have h : (Tryz.prog.info? 5).isSome = true := by kernel_rfl
  exact ⟨(Tryz.prog.info? 5).get h, (Option.some_get h).symm, by kernel_rfl, by kernel_rfl, by kernel_rfl⟩
theorem inf32 : ∃ ie, Tryz.prog.info? 32 = some ie ∧ ie.size = 1 ∧ ie.bytes = 24 ∧ ie.zero = some (.slice none 0 0) := by
  have h : (Tryz.prog.info? 32).isSome = true := by kernel_rfl
  exact ⟨(Tryz.prog.info? 32).get h, (Option.some_get h).symm, by kernel_rfl, by kernel_rfl, by kernel_rfl⟩
theorem number_spec (n : BitVec 64) (w : World) :
    Ret Tryz.prog 86 #[.int .u64 ((n).toNat : Int)] w (fun v w' => Le w w' ∧ OwnF byteF 5 w.heap.size w' v (Cn.num n.toNat)) := by
  obtain ⟨ie5, ti5, ts5, tb5, tz5⟩ := inf5
  refine enter (args := [.int .u64 ((n).toNat : Int)]) (n := 19) Tryz.func86 rfl rfl (Nat.le_of_ble_eq_true rfl) ?_
  refine C.seqK fun K1 hK1 => ?_
  refine C.region ?_
  refine O.asg ?_
  refine O.nil ?_
  refine hK1 _ _ ?_
  refine C.seqK fun K2 hK2 => ?_
  refine C.region ?_
  refine O.asg ?_
  refine O.nil ?_
  refine hK2 _ _ ?_
  refine C.seqK fun K3 hK3 => ?_
  refine C.block fun K4 hK4 => ?_
  refine C.loop0 (σ := BitVec 64 × Value × List UInt8) (fun f0 w0 ⟨m, o, xs⟩ f wz => f 0 = .int .u64 ((m).toNat : Int) ∧ f 3 = o ∧ f 2 = f0 2 ∧ Le w wz ∧ OwnF byteF 5 w.heap.size wz o (xs) ∧ xs ++ Cn.num m.toNat = Cn.num n.toNat) (fun ⟨m, o, xs⟩ => m.toNat) (n, .slice none 0 0, []) ?_ ?_
  ·
    refine ⟨rfl, rfl, rfl, (Le.refl _), (OwnF.nil _ _ _ _), ?_⟩
    rfl
  ·
    rintro ⟨m, o, xs⟩ f_1 w1 ⟨s0_1, s3_1, s2_1, e_1, r0_1, hI⟩
    have z_1 := e_1.size
    have r0_1s := r0_1.sl
    have hxl : xs.length ≤ 10 := by
      have h1 := Cn.num_u n
      rw [← hI, List.length_append] at h1
      omega
    refine C.seqK fun K5 hK5 => ?_
    refine C.seqK fun K6 hK6 => ?_
    refine C.region ?_
    refine O.mv ?_
    refine O.geqU (m := 64) (b := 128#64) s0_1 rfl ?_
    refine O.nil ?_
    refine hK6 _ _ ?_
    refine C.condD rfl (fun c5 => ?_) (fun c5 => ?_)
    ·
      have hs5 : ¬ m.toNat < 128 := by simpa [BitVec.le_def, BitVec.lt_def] using c5
      refine C.skip ?_
      refine hK5 _ _ ?_
      refine C.seqK fun K7 hK7 => ?_
      refine C.block fun K8 hK8 => ?_
      refine C.region ?_
      refine O.mv ?_
      refine O.mv ?_
      refine O.convUU (m := 64) (m' := 8) Tryz.underlying49 Tryz.underlying5 rfl rfl s0_1 ?_
      refine O.orU (m := 8) (b := 128#8) rfl rfl rfl rfl ?_
      refine O.lit1 Tryz.underlying32 ti5 ts5 tz5 rfl rfl (fun b12 w2 hb12 hz12 e2 => ?_)
      have z2 := e2.size
      have h12 := hz12.own
      have hl12 := h12.lt
      refine O.appF (G := byteF) Tryz.underlying32 ti5 tz5 ts5 rfl s3_1 rfl (r0_1.keep e2) (Sl.one (G := byteF) (x := UInt8.ofBitVec (m.setWidth 8 ||| 128#8)) h12 rfl rfl) (by rw [tb5]; simp; omega) (by unfold maxLen; simp; omega) (by omega) (fun v13 w3 h13 e3 => ?_)
      have z3 := e3.size
      have h13s := h13.sl
      refine O.asg ?_
      refine O.nil ?_
      refine hK8 _ _ ?_
      refine hK7 _ _ ?_
      refine C.region ?_
      refine O.mv ?_
      refine O.shrU (m := 64) (c := 7) rfl rfl s0_1 rfl ?_
      refine O.asg ?_
      refine O.nil ?_
      refine ⟨(m >>> 7, _, _), ⟨rfl, rfl, s2_1, (Ext.new (Ext.trans e_1 e2) e3 (by intro i hi h; have := (r0_1.keep e2).bk_ge i h; omega)), h13, ?_⟩, by show (m >>> 7).toNat < m.toNat; rw [BitVec.toNat_ushiftRight, Nat.shiftRight_eq_div_pow]; omega⟩
      rw [← hI, Cn.num_step hs5, List.append_assoc]
      rfl
    ·
      have hs5 : m.toNat < 128 := by simpa [BitVec.le_def, BitVec.lt_def] using c5
      refine C.exit ?_
      refine hK4 _ _ ?_
      refine hK3 _ _ ?_
      refine C.seqK fun K9 hK9 => ?_
      refine C.region ?_
      refine O.mv ?_
      refine O.mv ?_
      refine O.convUU (m := 64) (m' := 8) Tryz.underlying49 Tryz.underlying5 rfl rfl s0_1 ?_
      refine O.lit1 Tryz.underlying32 ti5 ts5 tz5 rfl rfl (fun b17 w4 hb17 hz17 e4 => ?_)
      have z4 := e4.size
      have h17 := hz17.own
      have hl17 := h17.lt
      refine O.appF (G := byteF) Tryz.underlying32 ti5 tz5 ts5 rfl s3_1 rfl (r0_1.keep e4) (Sl.one (G := byteF) (x := UInt8.ofBitVec (m.setWidth 8)) h17 rfl rfl) (by rw [tb5]; simp; omega) (by unfold maxLen; simp; omega) (by omega) (fun v18 w5 h18 e5 => ?_)
      have z5 := e5.size
      have h18s := h18.sl
      refine O.asg ?_
      refine O.nil ?_
      refine hK9 _ _ ?_
      refine C.ret ?_
      refine Outs.one rfl rfl ?_
      exact ⟨(Ext.new (Ext.trans e_1 e4) e5 (by intro i hi h; have := (r0_1.keep e4).bk_ge i h; omega)), h18.lst (by rw [← hI, Cn.num_last hs5])⟩

theorem grow_spec (m : Nat) (w : World) (hm : m ≤ 139000000000000) :
    Ret Tryz.prog 120 #[.slice none 0 0, .int .i64 ((m : Int))] w (fun v w' => Le w w' ∧ OwnF byteF 5 w.heap.size w' v ([])) := by
  obtain ⟨ie5, ti5, ts5, tb5, tz5⟩ := inf5
  refine enter (args := [.slice none 0 0, .int .i64 ((m : Int))]) (n := 27) Tryz.func120 rfl rfl (Nat.le_of_ble_eq_true rfl) ?_
  refine C.seqK fun K1 hK1 => ?_
  refine C.region ?_
  refine O.asg ?_
  refine O.nil ?_
  refine hK1 _ _ ?_
  refine C.seqK fun K2 hK2 => ?_
  refine C.seqK fun K3 hK3 => ?_
  refine C.region ?_
  refine O.mv ?_
  refine O.lssI rfl rfl ?_
  refine O.cast (v' := .bool false) (congrArg Value.bool (by exact decide_eq_false (by omega))) ?_
  refine O.nil ?_
  refine hK3 _ _ ?_
  refine C.condF rfl ?_
  refine C.skip ?_
  refine hK2 _ _ ?_
  refine C.seqK fun K4 hK4 => ?_
  refine C.seqK fun K5 hK5 => ?_
  refine C.region ?_
  refine O.mv ?_
  refine O.mv ?_
  refine O.capL Tryz.underlying32 rfl ?_
  refine O.mv ?_
  refine O.lenL Tryz.underlying32 rfl ?_
  refine O.subI rfl rfl (by unfold InI; omega) ?_
  refine O.subI rfl rfl (by unfold InI; omega) ?_
  refine O.cast (v' := .int .i64 (m : Int)) (congrArg (Value.int .i64) (by omega)) ?_
  refine O.asg ?_
  refine O.nil ?_
  refine hK5 _ _ ?_
  refine C.seqK fun K6 hK6 => ?_
  refine C.region ?_
  refine O.mv ?_
  refine O.gtrI rfl rfl ?_
  refine O.nil ?_
  refine hK6 _ _ ?_
  refine C.condD rfl (fun c16 => ?_) (fun c16 => ?_)
  ·
    have hm0 : 0 < m := by omega
    refine C.region ?_
    refine O.mv ?_
    refine O.mv ?_
    refine O.capL Tryz.underlying32 rfl ?_
    refine O.subNil Tryz.underlying32 Tryz.sizeOf5 rfl rfl ?_
    refine O.mv ?_
    refine O.appZ (G := byteF) (zx := (0 : UInt8)) (m := m) Tryz.underlying32 Tryz.underlying3 ti5 tz5 ts5 rfl rfl rfl (by omega) (by rw [tb5]; omega) (by unfold maxLen; omega) (Nat.le_refl _) (fun b22 cap22 w1 hb22 hcap22 h22 e1 => ?_)
    have z1 := e1.size
    have h22s := h22.sl
    refine O.mv ?_
    refine O.lenL Tryz.underlying32 rfl ?_
    refine O.subLo Tryz.underlying32 Tryz.sizeOf5 rfl rfl (by omega) (by omega) ?_
    refine O.asg ?_
    refine O.nil ?_
    refine hK4 _ _ ?_
    refine C.seqK fun K7 hK7 => ?_
    refine C.region ?_
    refine O.mv ?_
    refine O.asg ?_
    refine O.nil ?_
    refine hK7 _ _ ?_
    refine C.ret ?_
    refine Outs.one rfl rfl ?_
    first
    | (have hf := h22
       have hq : (List.replicate m (0 : UInt8)).length = m := by simp
       rw [show Value.slice (some ⟨b22, 0, none⟩) m cap22 = Value.slice (some ⟨b22, 0, none⟩) (List.replicate m (0 : UInt8)).length cap22 from by rw [hq]] at hf
       exact ⟨e1, ((hf.first (k := 0) (Nat.zero_le _)).low (by omega)).lst rfl⟩)
    | exact ⟨e1, OwnF.nil _ _ _ _⟩
  ·
    refine C.skip ?_
    refine hK4 _ _ ?_
    refine C.seqK fun K8 hK8 => ?_
    refine C.region ?_
    refine O.mv ?_
    refine O.asg ?_
    refine O.nil ?_
    refine hK8 _ _ ?_
    refine C.ret ?_
    refine Outs.one rfl rfl ?_
    first
    | (have hf := {app:22}
       have hq : (List.replicate m (0 : UInt8)).length = m := by simp
       rw [show Value.slice (some ⟨b22, 0, none⟩) m cap22 = Value.slice (some ⟨b22, 0, none⟩) (List.replicate m (0 : UInt8)).length cap22 from by rw [hq]] at hf
       exact ⟨(Le.refl _), ((hf.first (k := 0) (Nat.zero_le _)).low (by omega)).lst rfl⟩)
    | exact ⟨(Le.refl _), OwnF.nil _ _ _ _⟩

theorem concat_spec (v0 : Value) (ps : List (List UInt8)) (F : Nat → Prop) (w : World) (hl : Sl (sliE byteE) w F v0 ps) (hn : ps.flatten.length ≤ 139000000000000) :
    Ret Tryz.prog 102 #[v0] w (fun v w' => Le w w' ∧ OwnF byteF 5 w.heap.size w' v (ps.flatten)) := by
  have hle := hl.le
  obtain ⟨ie5, ti5, ts5, tb5, tz5⟩ := inf5
  refine enter (args := [v0]) (n := 36) Tryz.func102 rfl rfl (Nat.le_of_ble_eq_true rfl) ?_
  refine C.seqK fun K1 hK1 => ?_
  refine C.region ?_
  refine O.asg ?_
  refine O.nil ?_
  refine hK1 _ _ ?_
  refine C.seqK fun K2 hK2 => ?_
  refine C.region ?_
  refine O.asg ?_
  refine O.nil ?_
  refine hK2 _ _ ?_
  refine C.seqK fun K3 hK3 => ?_
  refine C.seqK fun K4 hK4 => ?_
  refine C.region ?_
  refine O.mv ?_
  refine O.len Tryz.underlying67 rfl hl ?_
  refine O.mv ?_
  refine O.nil ?_
  refine hK4 _ _ ?_
  refine C.block fun K5 hK5 => ?_
  refine C.loop0 (σ := Nat) (fun f0 w0 k f wz => f 3 = .int .i64 (((ps.take k).flatten.length : Nat)) ∧ f 11 = .int .i64 (k) ∧ f 0 = f0 0 ∧ f 2 = f0 2 ∧ f 9 = f0 9 ∧ f 10 = f0 10 ∧ Le w wz ∧ k ≤ ps.length) (fun k => ps.length - k) 0 ?_ ?_
  ·
    refine ⟨rfl, rfl, rfl, rfl, rfl, rfl, (Le.refl _), ?_⟩
    exact Nat.zero_le _
  ·
    rintro k f_1 w1 ⟨s3_1, s11_1, s0_1, s2_1, s9_1, s10_1, e_1, hk⟩
    have z_1 := e_1.size
    refine C.seqK fun K6 hK6 => ?_
    refine C.region ?_
    refine O.lssI s11_1 s10_1 ?_
    refine O.nil ?_
    refine hK6 _ _ ?_
    refine C.seqK fun K7 hK7 => ?_
    refine C.condD rfl (fun c12 => ?_) (fun c12 => ?_)
    ·
      have hk2 : k < ps.length := by omega
      have hfk := Cn.flatten_take_le ps (k + 1)
      refine C.skip ?_
      refine hK7 _ _ ?_
      refine C.seqK fun K8 hK8 => ?_
      refine C.block fun K9 hK9 => ?_
      refine C.seqK fun K10 hK10 => ?_
      refine C.region ?_
      refine O.idx Tryz.underlying67 Tryz.sizeOf32 rfl s9_1 (hl.keep e_1) s11_1 (by omega) (fun a13 h13 => ?_)
      refine O.loadSl Tryz.isAgg32 rfl h13 (fun v14 h14 => ?_)
      refine O.asg ?_
      refine O.nil ?_
      refine hK10 _ _ ?_
      refine C.seqK fun K11 hK11 => ?_
      refine C.region ?_
      refine O.mv ?_
      refine O.mv ?_
      refine O.len Tryz.underlying32 rfl h14 ?_
      refine O.addI s3_1 rfl (by have h9 := Cn.flatten_take hk2; have h8 : (ps.take (k + 1)).flatten.length = (ps.take k).flatten.length + ps[k].length := (by rw [h9, List.length_append]); simp only [Int.toNat_natCast]; unfold InI; omega) ?_
      refine O.cast (v' := .int .i64 (((ps.take (k + 1)).flatten.length : Nat) : Int)) (congrArg (Value.int .i64) (by rw [Cn.flatten_take hk2, List.length_append, Int.natCast_add]; rfl)) ?_
      refine O.asg ?_
      refine O.nil ?_
      refine hK11 _ _ ?_
      refine C.seqK fun K12 hK12 => ?_
      refine C.region ?_
      refine O.mv ?_
      refine O.lssI rfl rfl ?_
      refine O.cast (v' := .bool false) (congrArg Value.bool (by exact decide_eq_false (by omega))) ?_
      refine O.nil ?_
      refine hK12 _ _ ?_
      refine C.condF rfl ?_
      refine C.skip ?_
      refine hK9 _ _ ?_
      refine hK8 _ _ ?_
      refine C.region ?_
      refine O.addI s11_1 rfl (by unfold InI; omega) ?_
      refine O.mv ?_
      refine O.nil ?_
      refine ⟨k + 1, ⟨rfl, rfl, s0_1, s2_1, s9_1, s10_1, e_1, ?_⟩, by first | omega | (simp only []; omega)⟩
      omega
    ·
      have hfk := Cn.flatten_take_le ps k
      refine C.exit ?_
      refine hK5 _ _ ?_
      refine hK3 _ _ ?_
      refine C.seqK fun K13 hK13 => ?_
      refine C.region ?_
      refine O.mv ?_
      refine O.call Tryz.call120 (args2 rfl s3_1) (grow_spec _ _ (by omega)) ?_
      rintro v_24 w2 ⟨e2, h24⟩
      have z2 := e2.size
      have h24s := h24.sl
      refine O.asg ?_
      refine O.nil ?_
      refine hK13 _ _ ?_
      refine C.seqK fun K14 hK14 => ?_
      refine C.seqK fun K15 hK15 => ?_
      refine C.region ?_
      refine O.mv ?_
      refine O.len Tryz.underlying67 s0_1 ((hl.keep e_1).keep e2) ?_
      refine O.mv ?_
      refine O.nil ?_
      refine hK15 _ _ ?_
      refine C.block fun K16 hK16 => ?_
      refine C.loop0 (σ := Nat × Value) (fun f0 w0 ⟨k, o⟩ f wz => f 6 = o ∧ f 27 = .int .i64 (k) ∧ f 2 = f0 2 ∧ f 25 = f0 25 ∧ f 26 = f0 26 ∧ Le w wz ∧ OwnF byteF 5 w.heap.size wz o ((ps.take k).flatten) ∧ k ≤ ps.length) (fun ⟨k, o⟩ => ps.length - k) (0, v_24) ?_ ?_
      ·
        refine ⟨rfl, rfl, rfl, rfl, rfl, (Ext.trans e_1 e2), (h24.low (by omega)), ?_⟩
        exact Nat.zero_le _
      ·
        rintro ⟨k, o⟩ f_2 w3 ⟨s6_2, s27_2, s2_2, s25_2, s26_2, e_2, r0_2, hk⟩
        have z_2 := e_2.size
        have r0_2s := r0_2.sl
        refine C.seqK fun K17 hK17 => ?_
        refine C.region ?_
        refine O.lssI s27_2 s26_2 ?_
        refine O.nil ?_
        refine hK17 _ _ ?_
        refine C.seqK fun K18 hK18 => ?_
        refine C.condD rfl (fun c28 => ?_) (fun c28 => ?_)
        ·
          have hk2 : k < ps.length := by omega
          have hfk := Cn.flatten_take_le ps (k + 1)
          rw [Cn.flatten_take hk2, List.length_append] at hfk
          refine C.skip ?_
          refine hK18 _ _ ?_
          refine C.seqK fun K19 hK19 => ?_
          refine C.block fun K20 hK20 => ?_
          refine C.seqK fun K21 hK21 => ?_
          refine C.region ?_
          refine O.idx Tryz.underlying67 Tryz.sizeOf32 rfl (Eq.trans s25_2 s0_1) (hl.keep e_2) s27_2 (by omega) (fun a29 h29 => ?_)
          refine O.loadSl Tryz.isAgg32 rfl h29 (fun v30 h30 => ?_)
          refine O.asg ?_
          refine O.nil ?_
          refine hK21 _ _ ?_
          refine C.region ?_
          refine O.mv ?_
          refine O.mv ?_
          refine O.appF (G := byteF) Tryz.underlying32 ti5 tz5 ts5 rfl s6_2 rfl r0_2 h30 (by rw [tb5]; simp only [Int.toNat_natCast]; omega) (by unfold maxLen; simp only [Int.toNat_natCast]; omega) (by omega) (fun v33 w4 h33 e4 => ?_)
          have z4 := e4.size
          have h33s := h33.sl
          refine O.asg ?_
          refine O.nil ?_
          refine hK20 _ _ ?_
          refine hK19 _ _ ?_
          refine C.region ?_
          refine O.addI s27_2 rfl (by unfold InI; omega) ?_
          refine O.mv ?_
          refine O.nil ?_
          refine ⟨(k + 1, _), ⟨rfl, rfl, s2_2, s25_2, s26_2, (Ext.new e_2 e4 (by intro i hi h; have := r0_2.bk_ge i h; omega)), (h33.lst (Cn.flatten_take hk2).symm), ?_⟩, by first | omega | (simp only []; omega)⟩
          omega
        ·
          refine C.exit ?_
          refine hK16 _ _ ?_
          refine hK14 _ _ ?_
          refine C.seqK fun K22 hK22 => ?_
          refine C.region ?_
          refine O.mv ?_
          refine O.asg ?_
          refine O.nil ?_
          refine hK22 _ _ ?_
          refine C.ret ?_
          refine Outs.one rfl s6_2 ?_
          obtain rfl : k = ps.length := by omega
          rw [List.take_length] at r0_2
          exact ⟨e_2, r0_2⟩

end Go.Proofs.YtnkcmaoaagnopaaGreatDoor
end
section
/-
  The walks of a writer of bytes. Conditions: slices as they lie in memory.
-/
namespace Go.Proofs.YtnkcmaoaagnopaaGreatDoor
open Go.Pn Go.RowKit Go.Proofs
attribute [local irreducible] O C D
theorem hgw_of {v : Value} {bw : Nat} (h : ∀ k, bk v k → k ≠ bw) : bk v bw → False := fun q => h bw q rfl
theorem ones3 {v v' : Value} (h : v.oneCell' = true) (h' : v'.oneCell' = true) : ∀ u ∈ [v, v'], u.oneCell' = true := by
  intro u hu
  simp only [List.mem_cons, List.not_mem_nil, or_false] at hu
  rcases hu with rfl | rfl
  · exact h
  · exact h'

set_option maxHeartbeats 1000000 in
theorem write_spec (bw g : Nat) (xs : List UInt8) (v1 : Value) (ps : List (List UInt8)) (F : Nat → Prop) (w : World) (hw : Wr 77 5 w bw g (xs)) (hp : Sl (sliE byteE) w F v1 ps) (hx : xs.length ≤ 138000000000000) (hn : ps.flatten.length ≤ 1000000000000) :
    Ret Tryz.prog 74 #[.pointer (some ⟨bw, 0, none⟩), v1] w (fun v w' => v = .tuple #[] ∧ ∃ g', Wr 77 5 w' bw g' (xs ++ (ps.flatten)) ∧ (g' = g ∨ g' = bw ∨ w.heap.size ≤ g') ∧ (bw < w'.heap.size ∧ g' < w'.heap.size) ∧ Ext (fun k => k = bw ∨ k = g) w w') := by
  obtain ⟨vw, hb, ho, hg, hgb⟩ := hw.cell
  have hwl := hw.lt
  have hgw := hgw_of hgb
  obtain ⟨ie5, ti5, ts5, tb5, tz5⟩ := inf5
  refine enter (args := [.pointer (some ⟨bw, 0, none⟩), v1]) (n := 16) Tryz.func74 rfl rfl (Nat.le_of_ble_eq_true rfl) ?_
  refine C.seqK fun K1 hK1 => ?_
  refine C.region ?_
  refine O.mv ?_
  refine O.neqP0 Tryz.underlying79 rfl ?_
  refine O.nil ?_
  refine hK1 _ _ ?_
  refine C.condT rfl ?_
  refine C.drawB (wB := (bare w)) (by kernel_rfl) fun w1 e1 => ?_
  have z1 := e1.size
  refine D.take (i := 0) rfl rfl rfl rfl (by kernel_rfl) (Ext.bare (Ext.new (Ext.refl (fun _ => True) _) e1 (fun _ _ _ => trivial))) ⟨pure _, rfl⟩ (fun w_ hw_ N_ hN => (O.mv (O.nil hN))) ?_
  refine D.take (i := 1) rfl rfl rfl rfl (by kernel_rfl) (Ext.bare (Ext.new (Ext.refl (fun _ => True) _) e1 (fun _ _ _ => trivial))) ⟨pure _, rfl⟩ (fun w_ hw_ N_ hN => (O.mv (O.nil hN))) ?_
  refine D.take (i := 2) rfl rfl rfl rfl (by kernel_rfl) (Ext.bare (Ext.new (Ext.refl (fun _ => True) _) e1 (fun _ _ _ => trivial))) (nil_form rfl) (fun w_ hw_ N_ hN => (O.nilChk rfl (O.nil hN))) ?_
  refine D.take (i := 3) rfl rfl rfl rfl (by kernel_rfl) (Ext.bare (Ext.new (Ext.refl (fun _ => True) _) e1 (fun _ _ _ => trivial))) ⟨_, rfl⟩ (fun w_ hw_ N_ hN => (O.fieldAd Tryz.underlying77 rfl Tryz.sizeOf32 (by decide) rfl (O.nil hN))) ?_
  refine D.take (i := 5) rfl rfl rfl rfl (by kernel_rfl) (Ext.bare (Ext.new (Ext.refl (fun _ => True) _) e1 (fun _ _ _ => trivial))) ⟨pure _, rfl⟩ (fun w_ hw_ N_ hN => (O.mv (O.nil hN))) ?_
  refine D.many [4, 6] (by kernel_rfl) (by decide) ⟨?_, ?_, trivial⟩
  ·
    refine D.stepU rfl rfl ?_
    refine O.loadO Tryz.isAgg32 rfl (hb.keep e1) rfl ?_
    refine O.nil ⟨(Ext.bare (Ext.new (Ext.refl (fun _ => True) _) e1 (fun _ _ _ => trivial))), ?_⟩
    refine D.one (i := 6) rfl rfl (by kernel_rfl) ?_
    refine O.call Tryz.call102 (args1 rfl) (concat_spec _ ps _ _ (hp.keep e1) (by omega)) ?_
    rintro v_12 w2 ⟨e2, h12⟩
    have z2 := e2.size
    refine O.nil ⟨(Ext.bare (Ext.new (Ext.new (Ext.refl (fun _ => True) _) e1 (fun _ _ _ => trivial)) e2 (fun _ _ _ => trivial))), ?_⟩
    have h12s := h12.sl
    refine D.one (i := 7) rfl rfl (by kernel_rfl) ?_
    refine O.appW (G := byteF) Tryz.underlying32 ti5 tz5 ts5 rfl rfl rfl ((ho.keep e1).keep e2) h12s (by rw [tb5]; omega) (by unfold maxLen; omega) (Nat.zero_le _) (fun v13 w3 h13 e3 hw13 => ?_)
    have e3m : Ext (fun k => k = g) w2 w3 := e3.mono (fun k _ hk => hg k hk)
    have z3 := e3.size
    have h13s := h13.sl
    refine O.nil ⟨(Ext.bare (Ext.new (Ext.new (Ext.new (Ext.refl (fun _ => True) _) e1 (fun _ _ _ => trivial)) e2 (fun _ _ _ => trivial)) e3 (fun _ _ _ => trivial))), ?_⟩
    have hput : ∀ k, bk v13 k → k ≠ bw := by
      intro k hk h0
      rcases hw13 k hk with q | q
      · exact hgb k q h0
      · omega
    refine D.take (i := 8) rfl rfl rfl rfl (by kernel_rfl) (Ext.bare (Ext.new (Ext.new (Ext.new (Ext.refl (fun _ => True) _) e1 (fun _ _ _ => trivial)) e2 (fun _ _ _ => trivial)) e3 (fun _ _ _ => trivial))) (nil_form rfl) (fun w_ hw_ N_ hN => (O.nilChk rfl (O.nil hN))) ?_
    refine D.take (i := 9) rfl rfl rfl rfl (by kernel_rfl) (Ext.bare (Ext.new (Ext.new (Ext.new (Ext.refl (fun _ => True) _) e1 (fun _ _ _ => trivial)) e2 (fun _ _ _ => trivial)) e3 (fun _ _ _ => trivial))) ⟨_, rfl⟩ (fun w_ hw_ N_ hN => (O.fieldAd Tryz.underlying77 rfl Tryz.sizeOf32 (by decide) rfl (O.nil hN))) ?_
    refine D.one (i := 10) rfl rfl (by kernel_rfl) ?_
    refine O.store Tryz.sizeOf32 rfl rfl h13.one (((hb.keep e1).keep e2).keepM e3 (fun h => hgw h)) (by simp) (fun w4 hs4 e4 z4 => ?_)
    try simp only [Nat.zero_add] at hs4
    refine O.nil ⟨(Ext.bare (Ext.new (Ext.new (Ext.new (Ext.new (Ext.refl (fun _ => True) _) e1 (fun _ _ _ => trivial)) e2 (fun _ _ _ => trivial)) e3 (fun _ _ _ => trivial)) e4 (fun _ _ _ => trivial))), ?_⟩
    refine D.done (by kernel_rfl) ?_
    refine Outs.none rfl ?_
    obtain ⟨g', hq, hgp⟩ := Wr.put (ty := 77) hs4 (h13.keepM e4 (fun k hk h => hput k hk h)) hput
    refine ⟨rfl, g', hq, ?_, hq.lt, (Ext.new (Ext.new (Ext.new (Ext.new (Ext.refl _ _) e1 (by intro i hi hk; first | exact hk.elim | ((try dsimp only at hk); (try dsimp only); omega))) e2 (by intro i hi hk; first | exact hk.elim | ((try dsimp only at hk); (try dsimp only); omega))) e3m (by intro i hi hk; first | exact hk.elim | ((try dsimp only at hk); (try dsimp only); omega))) e4 (by intro i hi hk; first | exact hk.elim | ((try dsimp only at hk); (try dsimp only); omega)))⟩
    rcases hgp with ⟨q, _⟩ | q
    · rcases hw13 g' q with q2 | q2
      · exact .inl (hg g' q2)
      · exact .inr (.inr (by omega))
    · exact .inr (.inl q)
  ·
    refine D.stepU rfl rfl ?_
    refine O.call Tryz.call102 (args1 rfl) (concat_spec _ ps _ _ (hp.keep e1) (by omega)) ?_
    rintro v_12 w5 ⟨e5, h12⟩
    have z5 := e5.size
    refine O.nil ⟨(Ext.bare (Ext.new (Ext.new (Ext.refl (fun _ => True) _) e1 (fun _ _ _ => trivial)) e5 (fun _ _ _ => trivial))), ?_⟩
    have h12s := h12.sl
    refine D.one (i := 4) rfl rfl (by kernel_rfl) ?_
    refine O.loadO Tryz.isAgg32 rfl ((hb.keep e1).keep e5) rfl ?_
    refine O.nil ⟨(Ext.bare (Ext.new (Ext.new (Ext.refl (fun _ => True) _) e1 (fun _ _ _ => trivial)) e5 (fun _ _ _ => trivial))), ?_⟩
    refine D.one (i := 7) rfl rfl (by kernel_rfl) ?_
    refine O.appW (G := byteF) Tryz.underlying32 ti5 tz5 ts5 rfl rfl rfl ((ho.keep e1).keep e5) h12s (by rw [tb5]; omega) (by unfold maxLen; omega) (Nat.zero_le _) (fun v13 w6 h13 e6 hw13 => ?_)
    have e6m : Ext (fun k => k = g) w5 w6 := e6.mono (fun k _ hk => hg k hk)
    have z6 := e6.size
    have h13s := h13.sl
    refine O.nil ⟨(Ext.bare (Ext.new (Ext.new (Ext.new (Ext.refl (fun _ => True) _) e1 (fun _ _ _ => trivial)) e5 (fun _ _ _ => trivial)) e6 (fun _ _ _ => trivial))), ?_⟩
    have hput : ∀ k, bk v13 k → k ≠ bw := by
      intro k hk h0
      rcases hw13 k hk with q | q
      · exact hgb k q h0
      · omega
    refine D.take (i := 8) rfl rfl rfl rfl (by kernel_rfl) (Ext.bare (Ext.new (Ext.new (Ext.new (Ext.refl (fun _ => True) _) e1 (fun _ _ _ => trivial)) e5 (fun _ _ _ => trivial)) e6 (fun _ _ _ => trivial))) (nil_form rfl) (fun w_ hw_ N_ hN => (O.nilChk rfl (O.nil hN))) ?_
    refine D.take (i := 9) rfl rfl rfl rfl (by kernel_rfl) (Ext.bare (Ext.new (Ext.new (Ext.new (Ext.refl (fun _ => True) _) e1 (fun _ _ _ => trivial)) e5 (fun _ _ _ => trivial)) e6 (fun _ _ _ => trivial))) ⟨_, rfl⟩ (fun w_ hw_ N_ hN => (O.fieldAd Tryz.underlying77 rfl Tryz.sizeOf32 (by decide) rfl (O.nil hN))) ?_
    refine D.one (i := 10) rfl rfl (by kernel_rfl) ?_
    refine O.store Tryz.sizeOf32 rfl rfl h13.one (((hb.keep e1).keep e5).keepM e6 (fun h => hgw h)) (by simp) (fun w7 hs7 e7 z7 => ?_)
    try simp only [Nat.zero_add] at hs7
    refine O.nil ⟨(Ext.bare (Ext.new (Ext.new (Ext.new (Ext.new (Ext.refl (fun _ => True) _) e1 (fun _ _ _ => trivial)) e5 (fun _ _ _ => trivial)) e6 (fun _ _ _ => trivial)) e7 (fun _ _ _ => trivial))), ?_⟩
    refine D.done (by kernel_rfl) ?_
    refine Outs.none rfl ?_
    obtain ⟨g', hq, hgp⟩ := Wr.put (ty := 77) hs7 (h13.keepM e7 (fun k hk h => hput k hk h)) hput
    refine ⟨rfl, g', hq, ?_, hq.lt, (Ext.new (Ext.new (Ext.new (Ext.new (Ext.refl _ _) e1 (by intro i hi hk; first | exact hk.elim | ((try dsimp only at hk); (try dsimp only); omega))) e5 (by intro i hi hk; first | exact hk.elim | ((try dsimp only at hk); (try dsimp only); omega))) e6m (by intro i hi hk; first | exact hk.elim | ((try dsimp only at hk); (try dsimp only); omega))) e7 (by intro i hi hk; first | exact hk.elim | ((try dsimp only at hk); (try dsimp only); omega)))⟩
    rcases hgp with ⟨q, _⟩ | q
    · rcases hw13 g' q with q2 | q2
      · exact .inl (hg g' q2)
      · exact .inr (.inr (by omega))
    · exact .inr (.inl q)

theorem wnum_spec (bw g : Nat) (xs : List UInt8) (n : BitVec 64) (w : World) (hw : Wr 77 5 w bw g (xs)) (hx : xs.length ≤ 136000000000000) :
    Ret Tryz.prog 60 #[.pointer (some ⟨bw, 0, none⟩), .int .u64 ((n).toNat : Int)] w (fun v w' => v = .tuple #[] ∧ ∃ g', Wr 77 5 w' bw g' (xs ++ (Cn.num n.toNat)) ∧ (g' = g ∨ g' = bw ∨ w.heap.size ≤ g') ∧ (bw < w'.heap.size ∧ g' < w'.heap.size) ∧ Ext (fun k => k = bw ∨ k = g) w w') := by
  have hwl := hw.lt
  obtain ⟨ie32, ti32, ts32, tb32, tz32⟩ := inf32
  refine enter (args := [.pointer (some ⟨bw, 0, none⟩), .int .u64 ((n).toNat : Int)]) (n := 9) Tryz.func60 rfl rfl (Nat.le_of_ble_eq_true rfl) ?_
  refine C.region ?_
  refine O.mv ?_
  refine O.mv ?_
  refine O.call Tryz.call86 (args1 rfl) (number_spec n _) ?_
  rintro v_6 w1 ⟨e1, h6⟩
  have z1 := e1.size
  have h6s := h6.sl
  replace h6 := h6
  refine O.lit1 Tryz.underlying67 ti32 ts32 tz32 rfl h6.one (fun b7 w2 hb7 hz7 e2 => ?_)
  have z2 := e2.size
  have h7 := hz7.own
  have hl7 := h7.lt
  refine O.call Tryz.call74 (args2 rfl rfl) (write_spec bw g xs _ [Cn.num n.toNat] _ _ ((hw.keep e1).keep e2) (Sl.lits1 h7 (h6s.keep e2)) (by omega) (by have := Cn.num_u n; simp; omega)) ?_
  rintro v_8 w3 ⟨rfl, gv8, hv8, hgv8, hlv8, e3⟩
  have z3 := e3.size
  refine O.nil ?_
  refine Outs.none rfl ?_
  exact ⟨rfl, gv8, by simpa using hv8, by omega, hlv8, (Ext.new (Ext.new (Ext.new (Ext.refl _ _) e1 (by intro i hi hk; first | exact hk.elim | ((try dsimp only at hk); (try dsimp only); omega))) e2 (by intro i hi hk; first | exact hk.elim | ((try dsimp only at hk); (try dsimp only); omega))) e3 (by intro i hi hk; first | exact hk.elim | ((try dsimp only at hk); (try dsimp only); omega)))⟩

theorem wput_spec (bw g : Nat) (xs : List UInt8) (v1 : Value) (ys : List UInt8) (F : Nat → Prop) (w : World) (hw : Wr 77 5 w bw g (xs)) (hx : xs.length ≤ 136000000000000) (hy : Sl byteE w F v1 ys) (hn : ys.length ≤ 10000000) :
    Ret Tryz.prog 50 #[.pointer (some ⟨bw, 0, none⟩), v1] w (fun v w' => v = .tuple #[] ∧ ∃ g', Wr 77 5 w' bw g' (xs ++ (ys)) ∧ (g' = g ∨ g' = bw ∨ w.heap.size ≤ g') ∧ (bw < w'.heap.size ∧ g' < w'.heap.size) ∧ Ext (fun k => k = bw ∨ k = g) w w') := by
  have hwl := hw.lt
  obtain ⟨ie32, ti32, ts32, tb32, tz32⟩ := inf32
  refine enter (args := [.pointer (some ⟨bw, 0, none⟩), v1]) (n := 8) Tryz.func50 rfl rfl (Nat.le_of_ble_eq_true rfl) ?_
  refine C.region ?_
  refine O.mv ?_
  refine O.mv ?_
  refine O.lit1 Tryz.underlying67 ti32 ts32 tz32 rfl hy.oneC (fun b6 w1 hb6 hz6 e1 => ?_)
  have z1 := e1.size
  have h6 := hz6.own
  have hl6 := h6.lt
  refine O.call Tryz.call74 (args2 rfl rfl) (write_spec bw g xs _ [ys] _ _ (hw.keep e1) (Sl.lits1 h6 (hy.keep e1)) (by omega) (by simp; omega)) ?_
  rintro v_7 w2 ⟨rfl, gv7, hv7, hgv7, hlv7, e2⟩
  have z2 := e2.size
  refine O.nil ?_
  refine Outs.none rfl ?_
  exact ⟨rfl, gv7, by simpa using hv7, by omega, hlv7, (Ext.new (Ext.new (Ext.refl _ _) e1 (by intro i hi hk; first | exact hk.elim | ((try dsimp only at hk); (try dsimp only); omega))) e2 (by intro i hi hk; first | exact hk.elim | ((try dsimp only at hk); (try dsimp only); omega)))⟩

theorem wstr_spec (bw g : Nat) (xs : List UInt8) (s : List UInt8) (w : World) (hw : Wr 77 5 w bw g (xs)) (hx : xs.length ≤ 136000000000000) (hn : s.length ≤ 1000000) :
    Ret Tryz.prog 75 #[.pointer (some ⟨bw, 0, none⟩), str (s)] w (fun v w' => v = .tuple #[] ∧ ∃ g', Wr 77 5 w' bw g' (xs ++ (Cn.strB s)) ∧ (g' = g ∨ g' = bw ∨ w.heap.size ≤ g') ∧ (bw < w'.heap.size ∧ g' < w'.heap.size) ∧ Ext (fun k => k = bw ∨ k = g) w w') := by
  have hwl := hw.lt
  obtain ⟨ie32, ti32, ts32, tb32, tz32⟩ := inf32
  refine enter (args := [.pointer (some ⟨bw, 0, none⟩), str (s)]) (n := 13) Tryz.func75 rfl rfl (Nat.le_of_ble_eq_true rfl) ?_
  refine C.region ?_
  refine O.mv ?_
  refine O.mv ?_
  refine O.lenS Tryz.underlying9 rfl ?_
  refine O.convIU (m' := 64) Tryz.underlying3 Tryz.underlying49 rfl rfl rfl ?_
  refine O.call Tryz.call86 (args1 rfl) (number_spec (BitVec.ofInt 64 (s.length : Int)) _) ?_
  rintro v_8 w1 ⟨e1, h8⟩
  have z1 := e1.size
  have h8s := h8.sl
  refine O.mv ?_
  refine O.strB Tryz.underlying9 Tryz.underlying32 Tryz.underlying5 rfl (by unfold maxLen; omega) (fun b10 cap10 w2 hb10 hc10 h10 hs10 e2 => ?_)
  have z2 := e2.size
  refine O.litn [v_8, .slice (some ⟨b10, 0, none⟩) s.length cap10] Tryz.underlying67 ti32 ts32 tz32 rfl (by decide) (by decide) rfl (ones3 h8.one rfl) (fun b11 w3 hb11 hz11 e3 => ?_)
  have z3 := e3.size
  have h11 := hz11.own
  have hl11 := h11.lt
  refine O.call Tryz.call74 (args2 rfl rfl) (write_spec bw g xs _ [Cn.num (BitVec.ofInt 64 (s.length : Int)).toNat, s] _ _ (((hw.keep e1).keep e2).keep e3) (Sl.lits2 h11 ((h8s.keep e2).keep e3) (hs10.keep e3)) (by omega) (by have := Cn.num_u (BitVec.ofInt 64 (s.length : Int)); simp only [List.flatten_cons, List.flatten_nil, List.length_append, List.length_nil]; omega)) ?_
  rintro v_12 w4 ⟨rfl, gv12, hv12, hgv12, hlv12, e4⟩
  have z4 := e4.size
  refine O.nil ?_
  refine Outs.none rfl ?_
  refine ⟨rfl, gv12, hv12.lst ?_, by omega, hlv12, (Ext.new (Ext.new (Ext.new (Ext.new (Ext.refl _ _) e1 (by intro i hi hk; first | exact hk.elim | ((try dsimp only at hk); (try dsimp only); omega))) e2 (by intro i hi hk; first | exact hk.elim | ((try dsimp only at hk); (try dsimp only); omega))) e3 (by intro i hi hk; first | exact hk.elim | ((try dsimp only at hk); (try dsimp only); omega))) e4 (by intro i hi hk; first | exact hk.elim | ((try dsimp only at hk); (try dsimp only); omega)))⟩
  unfold Cn.strB
  rw [Cn.u_def, Cn.u_nat (by omega)]
  simp

theorem cloneB_spec (v0 : Value) (l : List UInt8) (F : Nat → Prop) (w : World) (hl : Sl byteE w F v0 l) (hn : l.length ≤ 139000000000000) :
    Ret Tryz.prog 61 #[v0] w (fun v w' => Le w w' ∧ OwnF byteF 5 w.heap.size w' v (l)) := by
  have hle := hl.le
  obtain ⟨ie5, ti5, ts5, tb5, tz5⟩ := inf5
  refine enter (args := [v0]) (n := 8) Tryz.func61 rfl rfl (Nat.le_of_ble_eq_true rfl) ?_
  refine C.seqK fun K1 hK1 => ?_
  refine C.region ?_
  refine O.asg ?_
  refine O.nil ?_
  refine hK1 _ _ ?_
  refine C.seqK fun K2 hK2 => ?_
  refine C.seqK fun K3 hK3 => ?_
  refine C.region ?_
  refine O.mv ?_
  refine O.eqlNilS Tryz.underlying32 rfl hl ?_
  refine O.nil ?_
  refine hK3 _ _ ?_
  refine C.cond rfl (fun c4 => ?_) (fun c4 => ?_)
  ·
    refine C.seqK fun K4 hK4 => ?_
    refine C.region ?_
    refine O.asg ?_
    refine O.nil ?_
    refine hK4 _ _ ?_
    refine C.ret ?_
    refine Outs.one rfl rfl ?_
    first
    | (obtain rfl := isNilS_nil hl c4
       exact ⟨(Le.refl _), OwnF.nil _ _ _ _⟩)
    | exact ⟨(Le.refl _), {app:7}⟩
  ·
    refine C.skip ?_
    refine hK2 _ _ ?_
    refine C.seqK fun K5 hK5 => ?_
    refine C.region ?_
    refine O.lit0 Tryz.underlying32 ti5 (fun b5 w1 hb5 hz5 e1 => ?_)
    have z1 := e1.size
    have h5 := hz5.own
    have hl5 := h5.lt
    have h1005 : OwnF byteF 5 w.heap.size w1 _ [] := OwnF.lit0 hz5 hb5
    refine O.mv ?_
    refine O.appF (G := byteF) Tryz.underlying32 ti5 tz5 ts5 rfl rfl rfl h1005 (hl.keep e1) (by rw [tb5]; simp; omega) (by unfold maxLen; simp; omega) (by omega) (fun v7 w2 h7 e2 => ?_)
    have z2 := e2.size
    have h7s := h7.sl
    refine O.asg ?_
    refine O.nil ?_
    refine hK5 _ _ ?_
    refine C.ret ?_
    refine Outs.one rfl rfl ?_
    first
    | (obtain rfl := isNilS_nil hl c4
       exact ⟨(Ext.new e1 e2 (by intro i hi h; have := h1005.bk_ge i h; omega)), OwnF.nil _ _ _ _⟩)
    | exact ⟨(Ext.new e1 e2 (by intro i hi h; have := h1005.bk_ge i h; omega)), h7⟩

theorem wbytes_spec (bw g : Nat) (xs : List UInt8) (w : World) (hw : Wr 77 5 w bw g (xs)) (hx : xs.length ≤ 139000000000000) :
    Ret Tryz.prog 39 #[.pointer (some ⟨bw, 0, none⟩)] w (fun v w' => Le w w' ∧ OwnF byteF 5 w.heap.size w' v (xs)) := by
  obtain ⟨vw, hb, ho, hg, hgb⟩ := hw.cell
  have hsl := ho.sl
  refine enter (args := [.pointer (some ⟨bw, 0, none⟩)]) (n := 10) Tryz.func39 rfl rfl (Nat.le_of_ble_eq_true rfl) ?_
  refine C.seqK fun K1 hK1 => ?_
  refine C.region ?_
  refine O.asg ?_
  refine O.nil ?_
  refine hK1 _ _ ?_
  refine C.seqK fun K2 hK2 => ?_
  refine C.seqK fun K3 hK3 => ?_
  refine C.region ?_
  refine O.mv ?_
  refine O.eqlP0 Tryz.underlying79 rfl ?_
  refine O.nil ?_
  refine hK3 _ _ ?_
  refine C.condF rfl ?_
  refine C.skip ?_
  refine hK2 _ _ ?_
  refine C.seqK fun K4 hK4 => ?_
  refine C.region ?_
  refine O.mv ?_
  refine O.nilChk rfl ?_
  refine O.fieldAd Tryz.underlying77 rfl Tryz.sizeOf32 (by decide) rfl ?_
  refine O.loadO Tryz.isAgg32 rfl hb rfl ?_
  refine O.call Tryz.call61 (args1 rfl) (cloneB_spec _ xs _ _ hsl hx) ?_
  rintro v_9 w1 ⟨e1, h9⟩
  have z1 := e1.size
  refine O.asg ?_
  refine O.nil ?_
  refine hK4 _ _ ?_
  refine C.ret ?_
  refine Outs.one rfl rfl ?_
  exact ⟨e1, h9.low (by omega)⟩

set_option maxHeartbeats 1000000 in
theorem seen1_spec (v0 : Value) (l : List Dt.Dot) (F : Nat → Prop) (bc bw g : Nat) (xs : List UInt8) (w : World) (hl : Sl Dt.dotF.enc w F v0 l) (ho : Own w bc 79 [.pointer (some ⟨bw, 0, none⟩)]) (hw : Wr 77 5 w bw g (xs)) (hx : xs.length ≤ 135000000000000) (hF : ∀ k, F k → k ≠ bw ∧ k ≠ g ∧ k < w.heap.size) (hbc : bc ≠ bw ∧ bc ≠ g) (hn : l.length ≤ 1000000) :
    Ret Tryz.prog 59 #[v0, .pointer (some ⟨bc, 0, none⟩)] w (fun v w' => v = .tuple #[] ∧ ∃ g', Wr 77 5 w' bw g' (xs ++ (Cn.dotsB l)) ∧ (g' = g ∨ g' = bw ∨ w.heap.size ≤ g') ∧ (bw < w'.heap.size ∧ g' < w'.heap.size) ∧ Ext (fun k => k = bw ∨ k = g) w w') := by
  have hwl := hw.lt
  have hle := hl.le
  have hol := ho.lt
  have hnl := Cn.num_le l.length (by omega)
  refine enter (args := [v0, .pointer (some ⟨bc, 0, none⟩)]) (n := 27) Tryz.func59 rfl rfl (Nat.le_of_ble_eq_true rfl) ?_
  refine C.seqK fun K1 hK1 => ?_
  refine C.region ?_
  refine O.loadO Tryz.isAgg79 rfl ho rfl ?_
  refine O.mv ?_
  refine O.len Tryz.underlying22 rfl hl ?_
  refine O.convIU (m' := 64) Tryz.underlying3 Tryz.underlying49 rfl rfl rfl ?_
  refine O.call Tryz.call60 (args2 rfl rfl) (wnum_spec bw g xs (BitVec.ofInt 64 (l.length : Int)) _ hw (by omega)) ?_
  rintro v_9 w1 ⟨rfl, gv9, hv9, hgv9, hlv9, e1⟩
  have z1 := e1.size
  refine O.nil ?_
  refine hK1 _ _ ?_
  refine C.seqK fun K2 hK2 => ?_
  refine C.region ?_
  refine O.mv ?_
  refine O.len Tryz.underlying22 rfl (hl.keepM e1 (by intro k hk h; have q1 := hF k hk; (try dsimp only at h); omega)) ?_
  refine O.mv ?_
  refine O.nil ?_
  refine hK2 _ _ ?_
  refine C.block fun K3 hK3 => ?_
  refine C.loop0 (σ := Nat × Nat) (fun f0 w0 ⟨k, gl⟩ f w => f 12 = .int .i64 (k) ∧ f 1 = f0 1 ∧ f 10 = f0 10 ∧ f 11 = f0 11 ∧ Ext (fun k => k = bw ∨ k = gv9) w0 w ∧ Wr 77 5 w bw gl (xs ++ (Cn.num l.length ++ (l.take k).flatMap Cn.dotB)) ∧ k ≤ l.length ∧ (gl = gv9 ∨ gl = bw ∨ w0.heap.size ≤ gl) ∧ bw < w.heap.size ∧ gl < w.heap.size) (fun ⟨k, gl⟩ => l.length - k) (0, gv9) ?_ ?_
  ·
    refine ⟨rfl, rfl, rfl, rfl, Ext.refl _ _, (hv9.lst (by rw [Cn.u_def, Cn.u_nat (by omega)]; simp)), ?_⟩
    exact ⟨Nat.zero_le _, .inl rfl, by omega, by omega⟩
  ·
    rintro ⟨k, gl⟩ f_1 w2 ⟨s12_1, s1_1, s10_1, s11_1, e_1, r0_1, ⟨hk, hgl, hgl2, hgl3⟩⟩
    have z_1 := e_1.size
    have hfl := Cn.flatMap_take_le (f := Cn.dotB) (b := 20) (l := l) (fun x _ => Cn.dotB_le x) hk
    refine C.seqK fun K4 hK4 => ?_
    refine C.region ?_
    refine O.lssI s12_1 s11_1 ?_
    refine O.nil ?_
    refine hK4 _ _ ?_
    refine C.seqK fun K5 hK5 => ?_
    refine C.condD rfl (fun c13 => ?_) (fun c13 => ?_)
    ·
      have hk2 : k < l.length := by omega
      refine C.skip ?_
      refine hK5 _ _ ?_
      refine C.seqK fun K6 hK6 => ?_
      refine C.block fun K7 hK7 => ?_
      refine C.seqK fun K8 hK8 => ?_
      refine C.region ?_
      refine O.idx Tryz.underlying22 Tryz.sizeOf51 rfl s10_1 ((hl.keepM e1 (by intro k hk h; have q1 := hF k hk; (try dsimp only at h); omega)).keepM e_1 (by intro k hk h; have q1 := hF k hk; (try dsimp only at h); omega)) s12_1 (by omega) (fun a14 h14 => ?_)
      refine O.loadG (G := Dt.dotF) Tryz.isAgg51 Tryz.sizeOf51 rfl h14 ?_
      obtain ⟨u, hu⟩ : ∃ u : Dt.Dot, u = l[k] := ⟨_, rfl⟩
      refine O.cast (v' := Dt.dv u) (by rw [hu]; rfl) ?_
      refine O.alloc Tryz.zeroValue51 (fun b4 w3 hb4 hz4 e3 => ?_)
      have z3 := e3.size
      have h4 := hz4.own
      have hl4 := h4.lt
      refine O.storeA (vs := [.int .i64 u.1, .int .i64 u.2]) Tryz.sizeOf51 rfl rfl rfl (by simp [Value.oneCell']) h4 (Nat.le_of_ble_eq_true rfl) (fun w4 hs4 e4 z4 => ?_)
      refine O.nil ?_
      refine hK8 _ _ ?_
      refine C.seqK fun K9 hK9 => ?_
      refine C.region ?_
      refine O.loadO Tryz.isAgg79 s1_1 ((((ho.keepM e1 (by intro h; (try dsimp only at h); omega)).keepM e_1 (by intro h; (try dsimp only at h); omega)).keep e3).keepM e4 (by intro h; (try dsimp only at h); omega)) rfl ?_
      refine O.fieldAd Tryz.underlying51 rfl Tryz.sizeOf3 (by decide) rfl ?_
      refine O.loadO Tryz.isAgg3 rfl hs4 rfl ?_
      refine O.convIU (m' := 64) Tryz.underlying3 Tryz.underlying49 rfl rfl rfl ?_
      refine O.call Tryz.call60 (args2 rfl rfl) (wnum_spec bw gl _ (BitVec.ofInt 64 u.1) _ ((r0_1.keep e3).keepM e4 (by intro k hk h; (try dsimp only at h); omega)) (by simp only [List.length_append]; omega)) ?_
      rintro v_20 w5 ⟨rfl, gv20, hv20, hgv20, hlv20, e5⟩
      have z5 := e5.size
      refine O.nil ?_
      refine hK9 _ _ ?_
      refine C.region ?_
      refine O.loadO Tryz.isAgg79 s1_1 (((((ho.keepM e1 (by intro h; (try dsimp only at h); omega)).keepM e_1 (by intro h; (try dsimp only at h); omega)).keep e3).keepM e4 (by intro h; (try dsimp only at h); omega)).keepM e5 (by intro h; (try dsimp only at h); omega)) rfl ?_
      refine O.fieldAd Tryz.underlying51 rfl Tryz.sizeOf3 (by decide) rfl ?_
      refine O.loadO Tryz.isAgg3 rfl (hs4.keepM e5 (by intro h; (try dsimp only at h); omega)) rfl ?_
      refine O.convIU (m' := 64) Tryz.underlying3 Tryz.underlying49 rfl rfl rfl ?_
      refine O.call Tryz.call60 (args2 rfl rfl) (wnum_spec bw gv20 _ (BitVec.ofInt 64 u.2) _ hv20 (by have := Cn.num_u (BitVec.ofInt 64 u.1); simp only [List.length_append]; omega)) ?_
      rintro v_25 w6 ⟨rfl, gv25, hv25, hgv25, hlv25, e6⟩
      have z6 := e6.size
      refine O.nil ?_
      refine hK7 _ _ ?_
      refine hK6 _ _ ?_
      refine C.region ?_
      refine O.addI s12_1 rfl (by unfold InI; omega) ?_
      refine O.mv ?_
      refine O.nil ?_
      refine ⟨(k + 1, gv25), ⟨rfl, s1_1, s10_1, s11_1, (Ext.new (Ext.new (Ext.new (Ext.new (Ext.new (Ext.refl _ _) e_1 (by intro i hi hk; first | exact hk.elim | ((try dsimp only at hk); (try dsimp only); omega))) e3 (by intro i hi hk; first | exact hk.elim | ((try dsimp only at hk); (try dsimp only); omega))) e4 (by intro i hi hk; first | exact hk.elim | ((try dsimp only at hk); (try dsimp only); omega))) e5 (by intro i hi hk; first | exact hk.elim | ((try dsimp only at hk); (try dsimp only); omega))) e6 (by intro i hi hk; first | exact hk.elim | ((try dsimp only at hk); (try dsimp only); omega))), (hv25.lst (by rw [Cn.flatMap_take _ hk2, ← hu, Cn.u_def, Cn.u_def]; unfold Cn.dotB; simp only [List.append_assoc])), ?_⟩, by first | omega | (simp only []; omega)⟩
      refine ⟨by omega, by omega, by omega, by omega⟩
    ·
      refine C.exit ?_
      refine hK3 _ _ ?_
      refine Outs.none rfl ?_
      obtain rfl : k = l.length := by omega
      refine ⟨rfl, gl, r0_1.lst ?_, by omega, ⟨by omega, by omega⟩, (Ext.new (Ext.new (Ext.refl _ _) e1 (by intro i hi hk; first | exact hk.elim | ((try dsimp only at hk); (try dsimp only); omega))) e_1 (by intro i hi hk; first | exact hk.elim | ((try dsimp only at hk); (try dsimp only); omega)))⟩
      rw [List.take_length]
      rfl

end Go.Proofs.YtnkcmaoaagnopaaGreatDoor
end
section
/-
  The walks of carts' bytes. Conditions: slices as they lie in memory.
-/
namespace Go.Proofs.YtnkcmaoaagnopaaGreatDoor
open Go.Pn Go.RowKit Go.Proofs
attribute [local irreducible] O C D

theorem seen_spec (bw g : Nat) (xs : List UInt8) (v1 v2 : Value) (x : Cn.Ctx) (F : Nat → Prop) (w : World) (hv : Sl Dt.dotF.enc w F v1 x.1) (hc : Sl Dt.dotF.enc w F v2 x.2) (hw : Wr 77 5 w bw g (xs)) (hx : xs.length ≤ 90000000000000) (hF : ∀ k, F k → k ≠ bw ∧ k ≠ g ∧ k < w.heap.size) (hn1 : x.1.length ≤ 1000000) (hn2 : x.2.length ≤ 1000000) :
    Ret Tryz.prog 38 #[.pointer (some ⟨bw, 0, none⟩), .agg #[v1, v2]] w (fun v w' => v = .tuple #[] ∧ ∃ g', Wr 77 5 w' bw g' (xs ++ (Cn.ctxB x)) ∧ (g' = g ∨ g' = bw ∨ w.heap.size ≤ g') ∧ (bw < w'.heap.size ∧ g' < w'.heap.size) ∧ Ext (fun k => k = bw ∨ k = g) w w') := by
  have hwl := hw.lt
  have hd1 := Cn.dotsB_le hn1
  refine enter (args := [.pointer (some ⟨bw, 0, none⟩), .agg #[v1, v2]]) (n := 14) Tryz.func38 rfl rfl (Nat.le_of_ble_eq_true rfl) ?_
  refine C.seqK fun K1 hK1 => ?_
  refine C.region ?_
  refine O.box (v := .pointer (some ⟨bw, 0, none⟩)) rfl (fun b2 w1 hb2 hz2 e1 => ?_)
  have z1 := e1.size
  have h2 := hz2.own
  have hl2 := h2.lt
  refine O.box (v := .agg #[v1, v2]) rfl (fun b3 w2 hb3 hz3 e2 => ?_)
  have z2 := e2.size
  have h3 := hz3.own
  have hl3 := h3.lt
  refine O.nil ?_
  refine hK1 _ _ ?_
  refine C.seqK fun K2 hK2 => ?_
  refine C.region ?_
  refine O.makeF (v1 := []) rfl rfl ?_
  refine O.asg ?_
  refine O.nil ?_
  refine hK2 _ _ ?_
  refine C.seqK fun K3 hK3 => ?_
  refine C.region ?_
  refine O.mv ?_
  refine O.fieldAd Tryz.underlying25 rfl Tryz.sizeOf23 (by decide) rfl ?_
  refine O.loadO Tryz.isAgg23 rfl h3 rfl ?_
  refine O.callV (vs := [v1]) Tryz.call59 rfl (args1 rfl) (seen1_spec v1 x.1 F b2 bw g xs _ ((hv.keep e1).keep e2) (h2.keep e2) ((hw.keep e1).keep e2) (by omega) (fun k hk => by have q1 := hF k hk; omega) (by omega) hn1) ?_
  rintro v_9 w3 ⟨rfl, gv9, hv9, hgv9, hlv9, e3⟩
  have z3 := e3.size
  refine O.nil ?_
  refine hK3 _ _ ?_
  refine C.region ?_
  refine O.mv ?_
  refine O.fieldAd Tryz.underlying25 rfl Tryz.sizeOf22 (by decide) rfl ?_
  refine O.loadO Tryz.isAgg22 rfl (h3.keepM e3 (by intro h; (try dsimp only at h); omega)) rfl ?_
  refine O.callV (vs := [v2]) Tryz.call59 rfl (args1 rfl) (seen1_spec v2 x.2 F b2 bw gv9 _ _ (((hc.keep e1).keep e2).keepM e3 (by intro k hk h; have q1 := hF k hk; (try dsimp only at h); omega)) ((h2.keep e2).keepM e3 (by intro h; (try dsimp only at h); omega)) hv9 (by simp only [List.length_append]; omega) (fun k hk => by have q1 := hF k hk; omega) (by omega) hn2) ?_
  rintro v_13 w4 ⟨rfl, gv13, hv13, hgv13, hlv13, e4⟩
  have z4 := e4.size
  refine O.nil ?_
  refine Outs.none rfl ?_
  refine ⟨rfl, gv13, hv13.lst ?_, by omega, hlv13, (Ext.new (Ext.new (Ext.new (Ext.new (Ext.refl _ _) e1 (by intro i hi hk; first | exact hk.elim | ((try dsimp only at hk); (try dsimp only); omega))) e2 (by intro i hi hk; first | exact hk.elim | ((try dsimp only at hk); (try dsimp only); omega))) e3 (by intro i hi hk; first | exact hk.elim | ((try dsimp only at hk); (try dsimp only); omega))) e4 (by intro i hi hk; first | exact hk.elim | ((try dsimp only at hk); (try dsimp only); omega)))⟩
  unfold Cn.ctxB
  rw [List.append_assoc]


theorem arr_get (ys : List (BitVec 64)) (i : Nat) (h : i < ys.length) : (ys.map fun x => Value.int .u64 (x.toNat : Int))[((i : Nat) : Int).toNat]? = some (.int .u64 (ys[i].toNat : Int)) := by
  rw [Int.toNat_natCast, List.getElem?_map, List.getElem?_eq_getElem h]
  rfl

set_option maxHeartbeats 4000000 in
theorem whole_spec (bw g : Nat) (xs : List UInt8) (va1 va2 va3 : Value) (a : Cn.Cart) (F : Nat → Prop) (w : World) (hav : Sl Dt.dotF.enc w F va1 a.1.1) (hac : Sl Dt.dotF.enc w F va2 a.1.2) (hai : Sl itemE w F va3 a.2) (hw : Wr 77 5 w bw g (xs)) (hx : xs.length ≤ 1000000) (hF : ∀ k, F k → k ≠ bw ∧ k ≠ g ∧ k < w.heap.size) (hn : a.2.length ≤ 1000000) (hS : ∀ x ∈ a.2, x.1.length ≤ 1000000 ∧ x.2.length ≤ 1000000) (hn1 : a.1.1.length ≤ 1000000) (hn2 : a.1.2.length ≤ 1000000) :
    Ret Tryz.prog 51 #[.pointer (some ⟨bw, 0, none⟩), .agg #[va1, va2, va3]] w (fun v w' => v = .tuple #[] ∧ ∃ g', Wr 77 5 w' bw g' (xs ++ (Cn.bytes a)) ∧ (g' = g ∨ g' = bw ∨ w.heap.size ≤ g') ∧ (bw < w'.heap.size ∧ g' < w'.heap.size) ∧ Ext (fun k => k = bw ∨ k = g) w w') := by
  have hwl := hw.lt
  have hle := hai.le
  have hd1 := Cn.dotsB_le hn1
  have hd2 := Cn.dotsB_le hn2
  have hcl : (Cn.ctxB a.1).length ≤ 40000020 := by unfold Cn.ctxB; rw [List.length_append]; omega
  have hnl := Cn.num_le a.2.length (by omega)
  refine enter (args := [.pointer (some ⟨bw, 0, none⟩), .agg #[va1, va2, va3]]) (n := 67) Tryz.func51 rfl rfl (Nat.le_of_ble_eq_true rfl) ?_
  refine C.seqK fun K1 hK1 => ?_
  refine C.region ?_
  refine O.box (v := .agg #[va1, va2, va3]) rfl (fun b3 w1 hb3 hz3 e1 => ?_)
  have z1 := e1.size
  have h3 := hz3.own
  have hl3 := h3.lt
  refine O.nil ?_
  refine hK1 _ _ ?_
  refine C.seqK fun K2 hK2 => ?_
  refine C.region ?_
  refine O.mv ?_
  refine O.fieldAd Tryz.underlying28 rfl Tryz.sizeOf25 (by decide) rfl ?_
  refine O.loadOA Tryz.isAgg25 Tryz.sizeOf25 rfl h3 (Nat.le_of_ble_eq_true rfl) ?_
  refine O.call Tryz.call38 (args2 rfl rfl) (seen_spec bw g xs va1 va2 a.1 F _ (hav.keep e1) (hac.keep e1) (hw.keep e1) (by omega) (fun k hk => by have q1 := hF k hk; omega) hn1 hn2) ?_
  rintro v_13 w2 ⟨rfl, gv13, hv13, hgv13, hlv13, e2⟩
  have z2 := e2.size
  refine O.nil ?_
  refine hK2 _ _ ?_
  refine C.seqK fun K3 hK3 => ?_
  refine C.region ?_
  refine O.mv ?_
  refine O.fieldAd Tryz.underlying28 rfl Tryz.sizeOf26 (by decide) rfl ?_
  refine O.loadO Tryz.isAgg26 rfl (h3.keepM e2 (by intro h; (try dsimp only at h); omega)) rfl ?_
  refine O.len Tryz.underlying26 rfl ((hai.keep e1).keepM e2 (by intro k hk h; have q1 := hF k hk; (try dsimp only at h); omega)) ?_
  refine O.convIU (m' := 64) Tryz.underlying3 Tryz.underlying49 rfl rfl rfl ?_
  refine O.call Tryz.call60 (args2 rfl rfl) (wnum_spec bw gv13 _ (BitVec.ofInt 64 (a.2.length : Int)) _ hv13 (by simp only [List.length_append]; omega)) ?_
  rintro v_19 w3 ⟨rfl, gv19, hv19, hgv19, hlv19, e3⟩
  have z3 := e3.size
  rw [Cn.u_def, Cn.u_nat (by omega)] at hv19
  refine O.nil ?_
  refine hK3 _ _ ?_
  refine C.seqK fun K4 hK4 => ?_
  refine C.region ?_
  refine O.fieldAd Tryz.underlying28 rfl Tryz.sizeOf26 (by decide) rfl ?_
  refine O.loadO Tryz.isAgg26 rfl ((h3.keepM e2 (by intro h; (try dsimp only at h); omega)).keepM e3 (by intro h; (try dsimp only at h); omega)) rfl ?_
  refine O.len Tryz.underlying26 rfl (((hai.keep e1).keepM e2 (by intro k hk h; have q1 := hF k hk; (try dsimp only at h); omega)).keepM e3 (by intro k hk h; have q1 := hF k hk; (try dsimp only at h); omega)) ?_
  refine O.mv ?_
  refine O.nil ?_
  refine hK4 _ _ ?_
  refine C.block fun K5 hK5 => ?_
  refine C.loop0 (σ := Nat × Nat) (fun f0 w0 ⟨k, gl⟩ f w => f 23 = .int .i64 (k) ∧ f 0 = f0 0 ∧ f 21 = f0 21 ∧ f 22 = f0 22 ∧ Ext (fun k => k = bw ∨ k = gv19) w0 w ∧ Wr 77 5 w bw gl (xs ++ (Cn.ctxB a.1 ++ (Cn.num a.2.length ++ (a.2.take k).flatMap Cn.itemB))) ∧ k ≤ a.2.length ∧ (gl = gv19 ∨ gl = bw ∨ w0.heap.size ≤ gl) ∧ bw < w.heap.size ∧ gl < w.heap.size) (fun ⟨k, gl⟩ => a.2.length - k) (0, gv19) ?_ ?_
  ·
    refine ⟨rfl, rfl, rfl, rfl, Ext.refl _ _, (hv19.lst (by simp)), ?_⟩
    exact ⟨Nat.zero_le _, .inl rfl, by omega, by omega⟩
  ·
    rintro ⟨k, gl⟩ f_1 w4 ⟨s23_1, s0_1, s21_1, s22_1, e_1, r0_1, ⟨hkk, hgk, hgbk, hgck⟩⟩
    have z_1 := e_1.size
    have hfl := Cn.flatMap_take_le (f := Cn.itemB) (b := 41000020) (l := a.2) (fun x hx => Cn.itemB_le (hS x hx)) hkk
    refine C.seqK fun K6 hK6 => ?_
    refine C.region ?_
    refine O.lssI s23_1 s22_1 ?_
    refine O.nil ?_
    refine hK6 _ _ ?_
    refine C.seqK fun K7 hK7 => ?_
    refine C.condD rfl (fun c24 => ?_) (fun c24 => ?_)
    ·
      have hk2 : k < a.2.length := by omega
      refine C.skip ?_
      refine hK7 _ _ ?_
      refine C.seqK fun K8 hK8 => ?_
      refine C.block fun K9 hK9 => ?_
      refine C.seqK fun K10 hK10 => ?_
      refine C.region ?_
      refine O.idx Tryz.underlying26 Tryz.sizeOf56 rfl s21_1 ((((hai.keep e1).keepM e2 (by intro k hk h; have q1 := hF k hk; (try dsimp only at h); omega)).keepM e3 (by intro k hk h; have q1 := hF k hk; (try dsimp only at h); omega)).keepM e_1 (by intro k hk h; have q1 := hF k hk; (try dsimp only at h); omega)) s23_1 (by omega) (fun a25 h25 => ?_)
      refine O.loadE (E := itemE) Tryz.isAgg56 Tryz.sizeOf56 rfl rfl h25 (fun cs26 hcs26 => ?_)
      obtain ⟨vm26, rfl, hm26⟩ := hcs26
      obtain ⟨u, hu⟩ : ∃ u : ItemT, u = a.2[k] := ⟨_, rfl⟩
      have hSu := hS u (by rw [hu]; exact List.getElem_mem _)
      refine O.cast (v' := .agg #[str u.1, vm26]) (by rw [hu]; rfl) ?_
      have hm26 : Sl markF.enc w4 F vm26 u.2 := by rw [hu]; exact hm26
      refine O.alloc Tryz.zeroValue56 (fun b5 w5 hb5 hz5 e5 => ?_)
      have z5 := e5.size
      have h5 := hz5.own
      have hl5 := h5.lt
      refine O.storeA (vs := [str u.1, vm26]) Tryz.sizeOf56 rfl rfl rfl (ones2 hm26.oneC) h5 (Nat.le_of_ble_eq_true rfl) (fun w6 hs6 e6 z6 => ?_)
      refine O.nil ?_
      refine hK10 _ _ ?_
      refine C.seqK fun K11 hK11 => ?_
      refine C.region ?_
      refine O.mv ?_
      refine O.fieldAd Tryz.underlying56 rfl Tryz.sizeOf9 (by decide) rfl ?_
      refine O.loadO Tryz.isAgg9 rfl hs6 rfl ?_
      refine O.call Tryz.call75 (args2 s0_1 rfl) (wstr_spec bw gl _ u.1 _ ((r0_1.keep e5).keepM e6 (by intro k hk h; (try dsimp only at h); omega)) (by simp only [List.length_append]; omega) (by omega)) ?_
      rintro v_30 w7 ⟨rfl, gv30, hv30, hgv30, hlv30, e7⟩
      have z7 := e7.size
      have hsl30 : (Cn.strB u.1).length ≤ 1000010 := by have := Cn.num_le u.1.length (by omega); unfold Cn.strB; rw [List.length_append]; omega
      refine O.nil ?_
      refine hK11 _ _ ?_
      refine C.seqK fun K12 hK12 => ?_
      refine C.region ?_
      refine O.mv ?_
      refine O.fieldAd Tryz.underlying56 rfl Tryz.sizeOf54 (by decide) rfl ?_
      refine O.loadO Tryz.isAgg54 rfl (hs6.keepM e7 (by intro h; (try dsimp only at h); omega)) rfl ?_
      refine O.len Tryz.underlying54 rfl (((hm26.keep e5).keepM e6 (by intro k hk h; first | (have q1 := hF k hk; (try dsimp only at h); omega) | (have q1 := hF2 k hk; (try dsimp only at h); omega) | (have q1 := hFb k hk; (try dsimp only at h); omega) | ((try dsimp only at hk); (try dsimp only at h); omega))).keepM e7 (by intro k hk h; have q1 := hF k hk; (try dsimp only at h); omega)) ?_
      refine O.convIU (m' := 64) Tryz.underlying3 Tryz.underlying49 rfl rfl rfl ?_
      refine O.call Tryz.call60 (args2 s0_1 rfl) (wnum_spec bw gv30 _ (BitVec.ofInt 64 (u.2.length : Int)) _ hv30 (by simp only [List.length_append]; omega)) ?_
      rintro v_36 w8 ⟨rfl, gv36, hv36, hgv36, hlv36, e8⟩
      have z8 := e8.size
      have hnl36 := Cn.num_le u.2.length (by omega)
      rw [Cn.u_def, Cn.u_nat (by omega)] at hv36
      refine O.nil ?_
      refine hK12 _ _ ?_
      refine C.seqK fun K13 hK13 => ?_
      refine C.region ?_
      refine O.fieldAd Tryz.underlying56 rfl Tryz.sizeOf54 (by decide) rfl ?_
      refine O.loadO Tryz.isAgg54 rfl ((hs6.keepM e7 (by intro h; (try dsimp only at h); omega)).keepM e8 (by intro h; (try dsimp only at h); omega)) rfl ?_
      refine O.len Tryz.underlying54 rfl ((((hm26.keep e5).keepM e6 (by intro k hk h; first | (have q1 := hF k hk; (try dsimp only at h); omega) | (have q1 := hF2 k hk; (try dsimp only at h); omega) | (have q1 := hFb k hk; (try dsimp only at h); omega) | ((try dsimp only at hk); (try dsimp only at h); omega))).keepM e7 (by intro k hk h; have q1 := hF k hk; (try dsimp only at h); omega)).keepM e8 (by intro k hk h; have q1 := hF k hk; (try dsimp only at h); omega)) ?_
      refine O.mv ?_
      refine O.nil ?_
      refine hK13 _ _ ?_
      refine C.block fun K14 hK14 => ?_
      refine C.loop0 (σ := Nat × Nat) (fun f0 w0 ⟨j, gm⟩ f w => f 40 = .int .i64 (j) ∧ f 0 = f0 0 ∧ f 21 = f0 21 ∧ f 22 = f0 22 ∧ f 23 = f0 23 ∧ f 38 = f0 38 ∧ f 39 = f0 39 ∧ Ext (fun k => k = bw ∨ k = gv36) w0 w ∧ Wr 77 5 w bw gm (xs ++ (Cn.ctxB a.1 ++ (Cn.num a.2.length ++ (a.2.take k).flatMap Cn.itemB)) ++ Cn.strB u.1 ++ (Cn.num u.2.length ++ (u.2.take j).flatMap Cn.markB)) ∧ j ≤ u.2.length ∧ (gm = gv36 ∨ gm = bw ∨ w0.heap.size ≤ gm) ∧ bw < w.heap.size ∧ gm < w.heap.size) (fun ⟨j, gm⟩ => u.2.length - j) (0, gv36) ?_ ?_
      ·
        refine ⟨rfl, rfl, rfl, rfl, rfl, rfl, rfl, Ext.refl _ _, (hv36.lst (by simp)), ?_⟩
        exact ⟨Nat.zero_le _, .inl rfl, by omega, by omega⟩
      ·
        rintro ⟨j, gm⟩ f_2 w9 ⟨s40_2, s0_2, s21_2, s22_2, s23_2, s38_2, s39_2, e_2, r0_2, ⟨hkj, hgj, hgbj, hgcj⟩⟩
        have z_2 := e_2.size
        have hfm := Cn.flatMap_take_le (f := Cn.markB) (b := 40) (l := u.2) (fun x _ => Cn.markB_le x) hkj
        refine C.seqK fun K15 hK15 => ?_
        refine C.region ?_
        refine O.lssI s40_2 s39_2 ?_
        refine O.nil ?_
        refine hK15 _ _ ?_
        refine C.seqK fun K16 hK16 => ?_
        refine C.condD rfl (fun c41 => ?_) (fun c41 => ?_)
        ·
          have hj2 : j < u.2.length := by omega
          refine C.skip ?_
          refine hK16 _ _ ?_
          refine C.seqK fun K17 hK17 => ?_
          refine C.block fun K18 hK18 => ?_
          refine C.seqK fun K19 hK19 => ?_
          refine C.region ?_
          refine O.idx Tryz.underlying54 Tryz.sizeOf53 rfl s38_2 (((((hm26.keep e5).keepM e6 (by intro k hk h; first | (have q1 := hF k hk; (try dsimp only at h); omega) | (have q1 := hF2 k hk; (try dsimp only at h); omega) | (have q1 := hFb k hk; (try dsimp only at h); omega) | ((try dsimp only at hk); (try dsimp only at h); omega))).keepM e7 (by intro k hk h; have q1 := hF k hk; (try dsimp only at h); omega)).keepM e8 (by intro k hk h; have q1 := hF k hk; (try dsimp only at h); omega)).keepM e_2 (by intro k hk h; have q1 := hF k hk; (try dsimp only at h); omega)) s40_2 (by omega) (fun a42 h42 => ?_)
          refine O.loadG (G := markF) Tryz.isAgg53 Tryz.sizeOf53 rfl h42 ?_
          obtain ⟨m, hm⟩ : ∃ m : MarkT, m = u.2[j] := ⟨_, rfl⟩
          refine O.cast (v' := mv m) (by rw [hm]; rfl) ?_
          refine O.alloc Tryz.zeroValue53 (fun b7 w10 hb7 hz7 e10 => ?_)
          have z10 := e10.size
          have h7 := hz7.own
          have hl7 := h7.lt
          refine O.storeA (vs := [.int .i64 m.1.1, .int .i64 m.1.2, .int .i64 m.2.1, .int .u64 (m.2.2.toNat : Int)]) Tryz.sizeOf53 rfl rfl rfl (by simp [Value.oneCell']) h7 (Nat.le_of_ble_eq_true rfl) (fun w11 hs11 e11 z11 => ?_)
          refine O.nil ?_
          refine hK19 _ _ ?_
          refine C.seqK fun K20 hK20 => ?_
          refine C.region ?_
          refine O.fieldAd Tryz.underlying53 rfl Tryz.sizeOf51 (by decide) rfl ?_
          refine O.fieldAd Tryz.underlying51 rfl Tryz.sizeOf3 (by decide) rfl ?_
          refine O.loadO Tryz.isAgg3 rfl hs11 rfl ?_
          refine O.convIU (m' := 64) Tryz.underlying3 Tryz.underlying49 rfl rfl rfl ?_
          refine O.fieldAd Tryz.underlying53 rfl Tryz.sizeOf51 (by decide) rfl ?_
          refine O.fieldAd Tryz.underlying51 rfl Tryz.sizeOf3 (by decide) rfl ?_
          refine O.loadO Tryz.isAgg3 rfl hs11 rfl ?_
          refine O.convIU (m' := 64) Tryz.underlying3 Tryz.underlying49 rfl rfl rfl ?_
          refine O.fieldAd Tryz.underlying53 rfl Tryz.sizeOf3 (by decide) rfl ?_
          refine O.loadO Tryz.isAgg3 rfl hs11 rfl ?_
          refine O.convIU (m' := 64) Tryz.underlying3 Tryz.underlying49 rfl rfl rfl ?_
          refine O.fieldAd Tryz.underlying53 rfl Tryz.sizeOf49 (by decide) rfl ?_
          refine O.loadO Tryz.isAgg49 rfl hs11 rfl ?_
          refine O.build (cells := #[.int .u64 ((BitVec.ofInt 64 m.1.1).toNat : Int), .int .u64 ((BitVec.ofInt 64 m.1.2).toNat : Int), .int .u64 ((BitVec.ofInt 64 m.2.1).toNat : Int), .int .u64 (m.2.2.toNat : Int)]) rfl (by kernel_rfl) ?_
          obtain ⟨ys, hys⟩ : ∃ ys : List (BitVec 64), ys = [BitVec.ofInt 64 m.1.1, BitVec.ofInt 64 m.1.2, BitVec.ofInt 64 m.2.1, m.2.2] := ⟨_, rfl⟩
          have hy4 : ys.length = 4 := by rw [hys]; rfl
          refine O.cast (v' := .agg (ys.map fun x => Value.int .u64 (x.toNat : Int)).toArray) (by rw [hys]; rfl) ?_
          refine O.mv ?_
          refine O.nil ?_
          refine hK20 _ _ ?_
          refine C.block fun K21 hK21 => ?_
          refine C.loop0 (σ := Nat × Nat) (fun f0 w0 ⟨i, gq⟩ f w => f 58 = .int .i64 (i) ∧ f 0 = f0 0 ∧ f 21 = f0 21 ∧ f 22 = f0 22 ∧ f 23 = f0 23 ∧ f 38 = f0 38 ∧ f 39 = f0 39 ∧ f 40 = f0 40 ∧ f 57 = f0 57 ∧ Ext (fun k => k = bw ∨ k = gm) w0 w ∧ Wr 77 5 w bw gq (xs ++ (Cn.ctxB a.1 ++ (Cn.num a.2.length ++ (a.2.take k).flatMap Cn.itemB)) ++ Cn.strB u.1 ++ (Cn.num u.2.length ++ (u.2.take j).flatMap Cn.markB) ++ (ys.take i).flatMap (fun x : BitVec 64 => Cn.num x.toNat)) ∧ i ≤ ys.length ∧ (gq = gm ∨ gq = bw ∨ w0.heap.size ≤ gq) ∧ bw < w.heap.size ∧ gq < w.heap.size) (fun ⟨i, gq⟩ => ys.length - i) (0, gm) ?_ ?_
          ·
            refine ⟨rfl, rfl, rfl, rfl, rfl, rfl, rfl, rfl, rfl, Ext.refl _ _, (((r0_2.keep e10).keepM e11 (by intro k hk h; (try dsimp only at h); omega)).lst (by simp)), ?_⟩
            exact ⟨Nat.zero_le _, .inl rfl, by omega, by omega⟩
          ·
            rintro ⟨i, gq⟩ f_3 w12 ⟨s58_3, s0_3, s21_3, s22_3, s23_3, s38_3, s39_3, s40_3, s57_3, e_3, r0_3, ⟨hki, hgi, hgbi, hgci⟩⟩
            have z_3 := e_3.size
            have hfi := Cn.flatMap_take_le (f := fun x : BitVec 64 => Cn.num x.toNat) (b := 10) (l := ys) (fun x _ => Cn.num_u x) hki
            refine C.seqK fun K22 hK22 => ?_
            refine C.region ?_
            refine O.lssI s58_3 rfl ?_
            refine O.nil ?_
            refine hK22 _ _ ?_
            refine C.seqK fun K23 hK23 => ?_
            refine C.condD rfl (fun c59 => ?_) (fun c59 => ?_)
            ·
              have hi2 : i < ys.length := by omega
              refine C.skip ?_
              refine hK23 _ _ ?_
              refine C.seqK fun K24 hK24 => ?_
              refine C.block fun K25 hK25 => ?_
              refine C.seqK fun K26 hK26 => ?_
              refine C.region ?_
              refine O.indexA Tryz.underlying116 Tryz.isAgg49 Tryz.sizeOf49 s57_3 s58_3 (by omega) (arr_get ys i (by omega)) ?_
              refine O.asg ?_
              refine O.nil ?_
              refine hK26 _ _ ?_
              refine C.region ?_
              refine O.mv ?_
              refine O.mv ?_
              refine O.call Tryz.call60 (args2 (Eq.trans s0_3 (Eq.trans s0_2 s0_1)) rfl) (wnum_spec bw gq _ ys[i] _ r0_3 (by simp only [List.length_append]; omega)) ?_
              rintro v_63 w13 ⟨rfl, gv63, hv63, hgv63, hlv63, e13⟩
              have z13 := e13.size
              refine O.nil ?_
              refine hK25 _ _ ?_
              refine hK24 _ _ ?_
              refine C.region ?_
              refine O.addI s58_3 rfl (by unfold InI; omega) ?_
              refine O.mv ?_
              refine O.nil ?_
              refine ⟨(i + 1, gv63), ⟨rfl, s0_3, s21_3, s22_3, s23_3, s38_3, s39_3, s40_3, s57_3, (Ext.new (Ext.new (Ext.refl _ _) e_3 (by intro i hi hk; first | exact hk.elim | ((try dsimp only at hk); (try dsimp only); omega))) e13 (by intro i hi hk; first | exact hk.elim | ((try dsimp only at hk); (try dsimp only); omega))), (hv63.lst (by rw [Cn.flatMap_take _ hi2, List.append_assoc])), ?_⟩, by first | omega | (simp only []; omega)⟩
              refine ⟨by omega, by omega, by omega, by omega⟩
            ·
              have hi4 : i = ys.length := by omega
              refine C.exit ?_
              refine hK21 _ _ ?_
              refine hK18 _ _ ?_
              refine hK17 _ _ ?_
              refine C.region ?_
              refine O.addI (Eq.trans s40_3 s40_2) rfl (by unfold InI; omega) ?_
              refine O.mv ?_
              refine O.nil ?_
              refine ⟨(j + 1, gq), ⟨rfl, (Eq.trans s0_3 s0_2), (Eq.trans s21_3 s21_2), (Eq.trans s22_3 s22_2), (Eq.trans s23_3 s23_2), (Eq.trans s38_3 s38_2), (Eq.trans s39_3 s39_2), (Ext.new (Ext.new (Ext.new (Ext.new (Ext.refl _ _) e_2 (by intro i hi hk; first | exact hk.elim | ((try dsimp only at hk); (try dsimp only); omega))) e10 (by intro i hi hk; first | exact hk.elim | ((try dsimp only at hk); (try dsimp only); omega))) e11 (by intro i hi hk; first | exact hk.elim | ((try dsimp only at hk); (try dsimp only); omega))) e_3 (by intro i hi hk; first | exact hk.elim | ((try dsimp only at hk); (try dsimp only); omega))), (r0_3.lst (by rw [Cn.flatMap_take _ hj2, ← hm, hi4, List.take_length, hys]; unfold Cn.markB Cn.u; simp)), ?_⟩, by first | omega | (simp only []; omega)⟩
              refine ⟨by omega, by omega, by omega, by omega⟩
        ·
          have hj3 : j = u.2.length := by omega
          refine C.exit ?_
          refine hK14 _ _ ?_
          refine hK9 _ _ ?_
          refine hK8 _ _ ?_
          refine C.region ?_
          refine O.addI (Eq.trans s23_2 s23_1) rfl (by unfold InI; omega) ?_
          refine O.mv ?_
          refine O.nil ?_
          refine ⟨(k + 1, gm), ⟨rfl, (Eq.trans s0_2 s0_1), (Eq.trans s21_2 s21_1), (Eq.trans s22_2 s22_1), (Ext.new (Ext.new (Ext.new (Ext.new (Ext.new (Ext.new (Ext.refl _ _) e_1 (by intro i hi hk; first | exact hk.elim | ((try dsimp only at hk); (try dsimp only); omega))) e5 (by intro i hi hk; first | exact hk.elim | ((try dsimp only at hk); (try dsimp only); omega))) e6 (by intro i hi hk; first | exact hk.elim | ((try dsimp only at hk); (try dsimp only); omega))) e7 (by intro i hi hk; first | exact hk.elim | ((try dsimp only at hk); (try dsimp only); omega))) e8 (by intro i hi hk; first | exact hk.elim | ((try dsimp only at hk); (try dsimp only); omega))) e_2 (by intro i hi hk; first | exact hk.elim | ((try dsimp only at hk); (try dsimp only); omega))), (r0_2.lst (by rw [Cn.flatMap_take _ hk2, ← hu, hj3, List.take_length]; unfold Cn.itemB; simp only [List.append_assoc])), ?_⟩, by first | omega | (simp only []; omega)⟩
          refine ⟨by omega, by omega, by omega, by omega⟩
    ·
      have hk3 : k = a.2.length := by omega
      refine C.exit ?_
      refine hK5 _ _ ?_
      refine Outs.none rfl ?_
      refine ⟨rfl, gl, r0_1.lst ?_, by omega, ⟨by omega, by omega⟩, (Ext.new (Ext.new (Ext.new (Ext.new (Ext.refl _ _) e1 (by intro i hi hk; first | exact hk.elim | ((try dsimp only at hk); (try dsimp only); omega))) e2 (by intro i hi hk; first | exact hk.elim | ((try dsimp only at hk); (try dsimp only); omega))) e3 (by intro i hi hk; first | exact hk.elim | ((try dsimp only at hk); (try dsimp only); omega))) e_1 (by intro i hi hk; first | exact hk.elim | ((try dsimp only at hk); (try dsimp only); omega)))⟩
      rw [hk3, List.take_length]
      rfl

end Go.Proofs.YtnkcmaoaagnopaaGreatDoor
end
