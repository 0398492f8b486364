/-
  The walks of marks, and of lists of dots compared. Conditions: slices as they lie in memory.
-/
import Derived.Test.YtnkcmaoaagnopaaGreatDoorC1
namespace Go.Proofs.YtnkcmaoaagnopaaGreatDoor
open Go.Pn Go.RowKit

theorem inf53 : ∃ ie, Tryz.prog.info? 53 = some ie ∧ ie.size = 4 ∧ ie.bytes = 32 ∧ ie.zero = some (.agg #[.int .i64 0, .int .i64 0, .int .i64 0, .int .u64 0]) := by
  have h : (Tryz.prog.info? 53).isSome = true := by kernel_rfl
  exact ⟨(Tryz.prog.info? 53).get h, (Option.some_get h).symm, by kernel_rfl, by kernel_rfl, by kernel_rfl⟩
theorem inf56 : ∃ ie, Tryz.prog.info? 56 = some ie ∧ ie.size = 2 ∧ ie.bytes = 40 ∧ ie.zero = some (.agg #[.string ⟨#[]⟩, .slice none 0 0]) := by
  have h : (Tryz.prog.info? 56).isSome = true := by kernel_rfl
  exact ⟨(Tryz.prog.info? 56).get h, (Option.some_get h).symm, by kernel_rfl, by kernel_rfl, by kernel_rfl⟩
theorem okQ_spec (q : Int) (w : World) :
    Ret Tryz.prog 116 #[.int .i64 (q)] w (fun v w' => v = .bool (decide (1 ≤ q ∧ q ≤ 2147483647)) ∧ Le w w') := by
  refine enter (args := [.int .i64 (q)]) (n := 9) Tryz.func116 rfl rfl (Nat.le_of_ble_eq_true rfl) ?_
  refine C.seqK fun K1 hK1 => ?_
  refine C.region ?_
  refine O.asg ?_
  refine O.nil ?_
  refine hK1 _ _ ?_
  refine C.seqK fun K2 hK2 => ?_
  refine C.region ?_
  refine O.mv ?_
  refine O.geqI rfl rfl ?_
  refine O.mv ?_
  refine O.cut 3 (fun f f' => f' 8 = .bool (decide (1 ≤ q ∧ q ≤ 2147483647))) ?_ ?_
  ·
    refine O.splitD (x := .tmp 5) rfl (fun c5 => ?_) (fun c5 => ?_)
    ·
      refine O.yes rfl (isT rfl c5) ?_
      refine O.mv ?_
      refine O.yes rfl (isT rfl c5) ?_
      refine O.leqI rfl rfl ?_
      refine O.pickT (isT rfl c5) ?_
      refine O.nil ?_
      refine ⟨?_, rfl⟩
      first | exact rfl | exact Eq.trans rfl (congrArg Value.bool (dAnd (by assumption))) | exact Eq.trans rfl (congrArg Value.bool (dAndF (by assumption))) | exact Eq.trans rfl (congrArg Value.bool (dOr (by assumption))) | exact Eq.trans rfl (congrArg Value.bool (dOrT (by assumption)))
    ·
      refine O.no rfl (noB (isF rfl c5) rfl) ?_
      refine O.no rfl (noB (isF rfl c5) rfl) ?_
      refine O.pickF (isF rfl c5) ?_
      refine O.nil ?_
      refine ⟨?_, rfl⟩
      first | exact rfl | exact Eq.trans rfl (congrArg Value.bool (dAnd (by assumption))) | exact Eq.trans rfl (congrArg Value.bool (dAndF (by assumption))) | exact Eq.trans rfl (congrArg Value.bool (dOr (by assumption))) | exact Eq.trans rfl (congrArg Value.bool (dOrT (by assumption)))
  ·
    intro f_1 s8_1
    refine O.asg ?_
    refine O.nil ?_
    refine hK2 _ _ ?_
    refine C.ret ?_
    refine Outs.one rfl s8_1 ?_
    exact ⟨rfl, (Le.refl _)⟩

theorem okM_spec (m : MarkT) (w : World) :
    Ret Tryz.prog 96 #[mv (m)] w (fun v w' => v = .bool (Cn.okM m) ∧ Le w w') := by
  refine enter (args := [mv (m)]) (n := 16) Tryz.func96 rfl rfl (Nat.le_of_ble_eq_true rfl) ?_
  refine C.seqK fun K1 hK1 => ?_
  refine C.region ?_
  refine O.box (v := mv (m)) rfl (fun b1 w1 hb1 hz1 e1 => ?_)
  have z1 := e1.size
  have h1 := hz1.own
  have hl1 := h1.lt
  refine O.asg ?_
  refine O.nil ?_
  refine hK1 _ _ ?_
  refine C.seqK fun K2 hK2 => ?_
  refine C.region ?_
  refine O.fieldAd Tryz.underlying53 rfl Tryz.sizeOf51 (by decide) rfl ?_
  refine O.loadOA Tryz.isAgg51 Tryz.sizeOf51 rfl h1 (Nat.le_of_ble_eq_true rfl) ?_
  refine O.call Tryz.call91 (args1 rfl) (valid_spec m.1 _) ?_
  rintro v_5 w2 ⟨rfl, e2⟩
  have z2 := e2.size
  refine O.mv ?_
  refine O.splitD (x := .tmp 6) rfl (fun c6 => ?_) (fun c6 => ?_)
  ·
    refine O.yes rfl (isT rfl c6) ?_
    refine O.fieldAd Tryz.underlying53 rfl Tryz.sizeOf3 (by decide) rfl ?_
    refine O.yes rfl (isT rfl c6) ?_
    refine O.loadO Tryz.isAgg3 rfl (h1.keep e2) rfl ?_
    refine O.yes rfl (isT rfl c6) ?_
    refine O.call Tryz.call116 (args1 rfl) (okQ_spec m.2.1 _) ?_
    rintro v_9 w3 ⟨rfl, e3⟩
    have z3 := e3.size
    refine O.pickT (isT rfl c6) ?_
    refine O.mv ?_
    refine O.splitD (x := .tmp 11) rfl (fun c11 => ?_) (fun c11 => ?_)
    ·
      refine O.yes rfl (isT rfl c11) ?_
      refine O.fieldAd Tryz.underlying53 rfl Tryz.sizeOf49 (by decide) rfl ?_
      refine O.yes rfl (isT rfl c11) ?_
      refine O.loadO Tryz.isAgg49 rfl ((h1.keep e2).keep e3) rfl ?_
      refine O.yes rfl (isT rfl c11) ?_
      refine O.gtrU (m := 64) (b := 0#64) rfl rfl ?_
      refine O.pickT (isT rfl c11) ?_
      refine O.asg ?_
      refine O.nil ?_
      refine hK2 _ _ ?_
      refine C.ret ?_
      refine Outs.one rfl rfl ?_
      refine ⟨congrArg Value.bool ?_, (Ext.trans (Ext.trans e1 e2) e3)⟩
      unfold Cn.okM Cn.okD
      first
      | (rw [decide_eq_false c6]; rfl)
      | (rw [decide_eq_true c6, decide_eq_false c11]; rfl)
      | (rw [decide_eq_true c6, decide_eq_true c11]; rfl)
    ·
      refine O.no rfl (noB (isF rfl c11) rfl) ?_
      refine O.no rfl (noB (isF rfl c11) rfl) ?_
      refine O.no rfl (noB (isF rfl c11) rfl) ?_
      refine O.pickF (isF rfl c11) ?_
      refine O.asg ?_
      refine O.nil ?_
      refine hK2 _ _ ?_
      refine C.ret ?_
      refine Outs.one rfl rfl ?_
      refine ⟨congrArg Value.bool ?_, (Ext.trans (Ext.trans e1 e2) e3)⟩
      unfold Cn.okM Cn.okD
      first
      | (rw [decide_eq_false c6]; rfl)
      | (rw [decide_eq_true c6, decide_eq_false c11]; rfl)
      | (rw [decide_eq_true c6, decide_eq_true c11]; rfl)
  ·
    refine O.no rfl (noB (isF rfl c6) rfl) ?_
    refine O.no rfl (noB (isF rfl c6) rfl) ?_
    refine O.no rfl (noB (isF rfl c6) rfl) ?_
    refine O.pickF (isF rfl c6) ?_
    refine O.mv ?_
    refine O.no rfl (noB rfl rfl) ?_
    refine O.no rfl (noB rfl rfl) ?_
    refine O.no rfl (noB rfl rfl) ?_
    refine O.pickF rfl ?_
    refine O.asg ?_
    refine O.nil ?_
    refine hK2 _ _ ?_
    refine C.ret ?_
    refine Outs.one rfl rfl ?_
    refine ⟨congrArg Value.bool ?_, (Ext.trans e1 e2)⟩
    unfold Cn.okM Cn.okD
    first
    | (rw [decide_eq_false c6]; rfl)
    | (rw [decide_eq_true c6, decide_eq_false c11]; rfl)
    | (rw [decide_eq_true c6, decide_eq_true c11]; rfl)

theorem mbad_spec (m : MarkT) (w : World) :
    Ret Tryz.prog 95 #[mv (m)] w (fun v w' => v = .bool (Cn.badM m) ∧ Le w w') := by
  refine enter (args := [mv (m)]) (n := 6) Tryz.func95 rfl rfl (Nat.le_of_ble_eq_true rfl) ?_
  refine C.seqK fun K1 hK1 => ?_
  refine C.region ?_
  refine O.box (v := mv (m)) rfl (fun b1 w1 hb1 hz1 e1 => ?_)
  have z1 := e1.size
  have h1 := hz1.own
  have hl1 := h1.lt
  refine O.asg ?_
  refine O.nil ?_
  refine hK1 _ _ ?_
  refine C.seqK fun K2 hK2 => ?_
  refine C.region ?_
  refine O.loadOA Tryz.isAgg53 Tryz.sizeOf53 rfl h1 (Nat.le_of_ble_eq_true rfl) ?_
  refine O.call Tryz.call96 (args1 rfl) (okM_spec m _) ?_
  rintro v_4 w2 ⟨rfl, e2⟩
  have z2 := e2.size
  refine O.not rfl ?_
  refine O.asg ?_
  refine O.nil ?_
  refine hK2 _ _ ?_
  refine C.ret ?_
  refine Outs.one rfl rfl ?_
  exact ⟨rfl, (Ext.trans e1 e2)⟩

theorem pred_mbad (M : Nat → Prop) (w : World) : Pred Tryz.prog M w (.func (.func 95) #[] #[]) mv Cn.badM := ⟨95, [], rfl, Tryz.call95, fun d w' _ => mbad_spec d w'⟩
theorem indexM_spec (v0 vf : Value) (l : List MarkT) (F M : Nat → Prop) (p : MarkT → Bool) (w : World) (hl : Sl markF.enc w F v0 l) (hp : Pred Tryz.prog M w vf mv p) :
    Ret Tryz.prog 115 #[v0, vf] w (fun v w' => v = .int .i64 (Cn.idx p l) ∧ Le w w') := by
  have hle := hl.le
  refine enter (args := [v0, vf]) (n := 19) Tryz.func115 rfl rfl (Nat.le_of_ble_eq_true rfl) ?_
  refine C.seqK fun K1 hK1 => ?_
  refine C.region ?_
  refine O.asg ?_
  refine O.nil ?_
  refine hK1 _ _ ?_
  refine C.seqK fun K2 hK2 => ?_
  refine C.seqK fun K3 hK3 => ?_
  refine C.region ?_
  refine O.mv ?_
  refine O.len Tryz.underlying54 rfl hl ?_
  refine O.mv ?_
  refine O.nil ?_
  refine hK3 _ _ ?_
  refine C.block fun K4 hK4 => ?_
  refine C.loop0 (σ := Nat) (fun f0 w0 k f wz => f 8 = .int .i64 (k) ∧ f 0 = f0 0 ∧ f 1 = f0 1 ∧ f 7 = f0 7 ∧ Le w wz ∧ k ≤ l.length ∧ ∀ i, ∀ h : i < l.length, i < k → p l[i] = false) (fun k => l.length - k) 0 ?_ ?_
  ·
    refine ⟨rfl, rfl, rfl, rfl, (Le.refl _), ?_⟩
    exact ⟨Nat.zero_le _, fun i h k => absurd k (Nat.not_lt_zero _)⟩
  ·
    rintro k f_1 w1 ⟨s8_1, s0_1, s1_1, s7_1, e_1, ⟨hk, hI⟩⟩
    have z_1 := e_1.size
    refine C.seqK fun K5 hK5 => ?_
    refine C.region ?_
    refine O.lssI s8_1 s7_1 ?_
    refine O.nil ?_
    refine hK5 _ _ ?_
    refine C.seqK fun K6 hK6 => ?_
    refine C.condD rfl (fun c9 => ?_) (fun c9 => ?_)
    ·
      have hk2 : k < l.length := by omega
      refine C.skip ?_
      refine hK6 _ _ ?_
      refine C.seqK fun K7 hK7 => ?_
      refine C.block fun K8 hK8 => ?_
      refine C.seqK fun K9 hK9 => ?_
      refine C.region ?_
      refine O.mv ?_
      refine O.asg ?_
      refine O.nil ?_
      refine hK9 _ _ ?_
      refine C.seqK fun K10 hK10 => ?_
      refine C.region ?_
      refine O.mv ?_
      refine O.mv ?_
      refine O.mv ?_
      refine O.idx Tryz.underlying54 Tryz.sizeOf53 rfl s0_1 (hl.keep e_1) s8_1 (by omega) (fun a14 h14 => ?_)
      refine O.loadG (G := markF) Tryz.isAgg53 Tryz.sizeOf53 rfl h14 ?_
      refine O.callP (_) (hp.keep e_1) s1_1 rfl (fun w2 e2 => ?_)
      have z2 := e2.size
      refine O.nil ?_
      refine hK10 _ _ ?_
      refine C.cond rfl (fun c16 => ?_) (fun c16 => ?_)
      ·
        simp only [Int.toNat_natCast] at c16
        refine C.seqK fun K11 hK11 => ?_
        refine C.region ?_
        refine O.mv ?_
        refine O.asg ?_
        refine O.nil ?_
        refine hK11 _ _ ?_
        refine C.ret ?_
        refine Outs.one rfl s8_1 ?_
        first
        | exact ⟨congrArg (Value.int .i64) (Cn.idx_yes hk2 c16 hI).symm, (Ext.trans e_1 e2)⟩
        | exact ⟨congrArg (Value.int .i64) (Cn.idx_no fun i hi => hI i hi (by omega)).symm, (Ext.trans e_1 e2)⟩
      ·
        simp only [Int.toNat_natCast] at c16
        refine C.skip ?_
        refine hK8 _ _ ?_
        refine hK7 _ _ ?_
        refine C.region ?_
        refine O.addI s8_1 rfl (by unfold InI; omega) ?_
        refine O.mv ?_
        refine O.nil ?_
        refine ⟨k + 1, ⟨rfl, s0_1, s1_1, s7_1, (Ext.trans e_1 e2), ?_⟩, by first | omega | (simp only []; omega)⟩
        refine ⟨by omega, fun i hi hik => ?_⟩
        rcases Nat.lt_or_eq_of_le (Nat.le_of_lt_succ hik) with h | rfl
        · exact hI i hi h
        · exact c16
    ·
      refine C.exit ?_
      refine hK4 _ _ ?_
      refine hK2 _ _ ?_
      refine C.seqK fun K12 hK12 => ?_
      refine C.region ?_
      refine O.asg ?_
      refine O.nil ?_
      refine hK12 _ _ ?_
      refine C.ret ?_
      refine Outs.one rfl rfl ?_
      first
      | exact ⟨congrArg (Value.int .i64) (Cn.idx_yes hk2 c16 hI).symm, e_1⟩
      | exact ⟨congrArg (Value.int .i64) (Cn.idx_no fun i hi => hI i hi (by omega)).symm, e_1⟩

theorem containsM_spec (v0 vf : Value) (l : List MarkT) (F M : Nat → Prop) (p : MarkT → Bool) (w : World) (hl : Sl markF.enc w F v0 l) (hp : Pred Tryz.prog M w vf mv p) :
    Ret Tryz.prog 94 #[v0, vf] w (fun v w' => v = .bool (l.any p) ∧ Le w w') := by
  refine enter (args := [v0, vf]) (n := 9) Tryz.func94 rfl rfl (Nat.le_of_ble_eq_true rfl) ?_
  refine C.seqK fun K1 hK1 => ?_
  refine C.region ?_
  refine O.asg ?_
  refine O.nil ?_
  refine hK1 _ _ ?_
  refine C.seqK fun K2 hK2 => ?_
  refine C.region ?_
  refine O.mv ?_
  refine O.mv ?_
  refine O.call Tryz.call115 (args2 rfl rfl) (indexM_spec _ _ _ _ _ _ _ hl hp) ?_
  rintro v_7 w1 ⟨rfl, e1⟩
  have z1 := e1.size
  refine O.geqI rfl rfl ?_
  refine O.asg ?_
  refine O.nil ?_
  refine hK2 _ _ ?_
  refine C.ret ?_
  refine Outs.one rfl rfl ?_
  exact ⟨congrArg Value.bool (Cn.idx_any l), e1⟩

theorem qdots_spec (v0 : Value) (l : List MarkT) (F : Nat → Prop) (w : World) (hl : Sl markF.enc w F v0 l) (hn : l.length ≤ 1000000) :
    Ret Tryz.prog 73 #[v0] w (fun v w' => Le w w' ∧ OwnF Dt.dotF 51 w.heap.size w' v (Cn.mdots l)) := by
  have hle := hl.le
  obtain ⟨ie51, ti51, ts51, tb51, tz51⟩ := inf51
  refine enter (args := [v0]) (n := 19) Tryz.func73 rfl rfl (Nat.le_of_ble_eq_true rfl) ?_
  refine C.seqK fun K1 hK1 => ?_
  refine C.region ?_
  refine O.asg ?_
  refine O.nil ?_
  refine hK1 _ _ ?_
  refine C.seqK fun K2 hK2 => ?_
  refine C.region ?_
  refine O.asg ?_
  refine O.nil ?_
  refine hK2 _ _ ?_
  refine C.seqK fun K3 hK3 => ?_
  refine C.seqK fun K4 hK4 => ?_
  refine C.region ?_
  refine O.mv ?_
  refine O.len Tryz.underlying54 rfl hl ?_
  refine O.mv ?_
  refine O.nil ?_
  refine hK4 _ _ ?_
  refine C.block fun K5 hK5 => ?_
  refine C.loop0 (σ := Nat × Value) (fun f0 w0 ⟨k, o⟩ f wz => f 3 = o ∧ f 8 = .int .i64 (k) ∧ f 2 = f0 2 ∧ f 6 = f0 6 ∧ f 7 = f0 7 ∧ Le w wz ∧ OwnF Dt.dotF 51 w.heap.size wz o (Cn.mdots (l.take k)) ∧ k ≤ l.length) (fun ⟨k, o⟩ => l.length - k) (0, .slice none 0 0) ?_ ?_
  ·
    refine ⟨rfl, rfl, rfl, rfl, rfl, (Le.refl _), (OwnF.nil _ _ _ _), ?_⟩
    exact Nat.zero_le _
  ·
    rintro ⟨k, o⟩ f_1 w1 ⟨s3_1, s8_1, s2_1, s6_1, s7_1, e_1, r0_1, hk⟩
    have z_1 := e_1.size
    have r0_1s := r0_1.sl
    have hlk : (Cn.mdots (l.take k)).length = k := by unfold Cn.mdots; simp; omega
    refine C.seqK fun K6 hK6 => ?_
    refine C.region ?_
    refine O.lssI s8_1 s7_1 ?_
    refine O.nil ?_
    refine hK6 _ _ ?_
    refine C.seqK fun K7 hK7 => ?_
    refine C.condD rfl (fun c9 => ?_) (fun c9 => ?_)
    ·
      have hk2 : k < l.length := by omega
      refine C.skip ?_
      refine hK7 _ _ ?_
      refine C.seqK fun K8 hK8 => ?_
      refine C.block fun K9 hK9 => ?_
      refine C.seqK fun K10 hK10 => ?_
      refine C.region ?_
      refine O.idx Tryz.underlying54 Tryz.sizeOf53 rfl s6_1 (hl.keep e_1) s8_1 (by omega) (fun a10 h10 => ?_)
      refine O.loadG (G := markF) Tryz.isAgg53 Tryz.sizeOf53 rfl h10 ?_
      obtain ⟨u, hu⟩ : ∃ u : MarkT, u = l[k] := ⟨_, rfl⟩
      refine O.cast (v' := mv u) (by rw [hu]; rfl) ?_
      refine O.alloc Tryz.zeroValue53 (fun b5 w2 hb5 hz5 e2 => ?_)
      have z2 := e2.size
      have h5 := hz5.own
      have hl5 := h5.lt
      refine O.storeA (vs := [.int .i64 u.1.1, .int .i64 u.1.2, .int .i64 u.2.1, .int .u64 (u.2.2.toNat : Int)]) Tryz.sizeOf53 rfl rfl rfl (by simp [Value.oneCell']) h5 (Nat.le_of_ble_eq_true rfl) (fun w3 hs3 e3 z3 => ?_)
      refine O.nil ?_
      refine hK10 _ _ ?_
      refine C.region ?_
      refine O.mv ?_
      refine O.fieldAd Tryz.underlying53 rfl Tryz.sizeOf51 (by decide) rfl ?_
      refine O.loadOA Tryz.isAgg51 Tryz.sizeOf51 rfl hs3 (Nat.le_of_ble_eq_true rfl) ?_
      refine O.litG (G := Dt.dotF) [u.1] Tryz.underlying22 ti51 ts51 tz51 rfl (by decide) (by decide) rfl (fun b15 w4 hb15 hz15 e4 => ?_)
      have z4 := e4.size
      have h15 := hz15.own
      have hq15 := Sl.litG (n := 1) h15 rfl (by unfold maxLen; omega)
      refine O.appF (G := Dt.dotF) Tryz.underlying22 ti51 tz51 ts51 rfl s3_1 rfl (((r0_1.keep e2).keepM e3 (fun k hk h => by have := r0_1.bk_ge k hk; (try dsimp only at h); omega)).keep e4) hq15 (by rw [tb51]; simp; omega) (by unfold maxLen; simp; omega) (by omega) (fun v16 w5 h16 e5 => ?_)
      have z5 := e5.size
      have h16s := h16.sl
      refine O.asg ?_
      refine O.nil ?_
      refine hK9 _ _ ?_
      refine hK8 _ _ ?_
      refine C.region ?_
      refine O.addI s8_1 rfl (by unfold InI; omega) ?_
      refine O.mv ?_
      refine O.nil ?_
      refine ⟨(k + 1, _), ⟨rfl, rfl, s2_1, s6_1, s7_1, (Ext.new (Ext.trans (Ext.new (Ext.trans e_1 e2) e3 (by rintro i hi rfl; omega)) e4) e5 (by intro i hi h; have := (((r0_1.keep e2).keepM e3 (fun k hk h => by have := r0_1.bk_ge k hk; (try dsimp only at h); omega)).keep e4).bk_ge i h; omega)), (by rw [show Cn.mdots (l.take (k + 1)) = Cn.mdots (l.take k) ++ [u.1] from by rw [hu]; exact Cn.map_take _ hk2]; exact h16), ?_⟩, by first | omega | (simp only []; omega)⟩
      omega
    ·
      refine C.exit ?_
      refine hK5 _ _ ?_
      refine hK3 _ _ ?_
      refine C.seqK fun K11 hK11 => ?_
      refine C.region ?_
      refine O.mv ?_
      refine O.asg ?_
      refine O.nil ?_
      refine hK11 _ _ ?_
      refine C.ret ?_
      refine Outs.one rfl s3_1 ?_
      obtain rfl : k = l.length := by omega
      rw [List.take_length] at r0_1
      exact ⟨e_1, r0_1⟩

theorem isList_spec (v0 : Value) (l : List MarkT) (F : Nat → Prop) (w : World) (hl : Sl markF.enc w F v0 l) (hn : l.length ≤ 1000000) :
    Ret Tryz.prog 93 #[v0] w (fun v w' => v = .bool (Dt.isSet (Cn.mdots l)) ∧ Le w w') := by
  refine enter (args := [v0]) (n := 6) Tryz.func93 rfl rfl (Nat.le_of_ble_eq_true rfl) ?_
  refine C.seqK fun K1 hK1 => ?_
  refine C.region ?_
  refine O.asg ?_
  refine O.nil ?_
  refine hK1 _ _ ?_
  refine C.seqK fun K2 hK2 => ?_
  refine C.region ?_
  refine O.mv ?_
  refine O.call Tryz.call73 (args1 rfl) (qdots_spec _ _ _ _ hl hn) ?_
  rintro v_4 w1 ⟨e1, h4⟩
  have z1 := e1.size
  have h4s := h4.sl
  refine O.call Tryz.call65 (args1 rfl) (isSet_spec _ _ _ _ h4s) ?_
  rintro v_5 w2 ⟨rfl, e2⟩
  have z2 := e2.size
  refine O.asg ?_
  refine O.nil ?_
  refine hK2 _ _ ?_
  refine C.ret ?_
  refine Outs.one rfl rfl ?_
  exact ⟨rfl, (Ext.trans e1 e2)⟩

theorem sameD_spec (v0 : Value) (a : List Dt.Dot) (v1 : Value) (b : List Dt.Dot) (F F2 : Nat → Prop) (w : World) (ha : Sl Dt.dotF.enc w F v0 a) (hb : Sl Dt.dotF.enc w F2 v1 b) :
    Ret Tryz.prog 48 #[v0, v1] w (fun v w' => v = .bool (decide (a = b)) ∧ Le w w') := by
  have hale := ha.le
  have hble := hb.le
  refine enter (args := [v0, v1]) (n := 26) Tryz.func48 rfl rfl (Nat.le_of_ble_eq_true rfl) ?_
  refine C.seqK fun K1 hK1 => ?_
  refine C.region ?_
  refine O.asg ?_
  refine O.nil ?_
  refine hK1 _ _ ?_
  refine C.seqK fun K2 hK2 => ?_
  refine C.seqK fun K3 hK3 => ?_
  refine C.region ?_
  refine O.mv ?_
  refine O.len Tryz.underlying22 rfl ha ?_
  refine O.mv ?_
  refine O.len Tryz.underlying22 rfl hb ?_
  refine O.neqI rfl rfl ?_
  refine O.nil ?_
  refine hK3 _ _ ?_
  refine C.condD rfl (fun c10 => ?_) (fun c10 => ?_)
  ·
    refine C.seqK fun K4 hK4 => ?_
    refine C.region ?_
    refine O.asg ?_
    refine O.nil ?_
    refine hK4 _ _ ?_
    refine C.ret ?_
    refine Outs.one rfl rfl ?_
    first
    | exact ⟨congrArg Value.bool (decide_eq_false (fun h => c10 (congrArg (fun l : List Dt.Dot => (l.length : Int)) h))).symm, (Le.refl _)⟩
    | exact ⟨congrArg Value.bool (decide_eq_false (fun h => c25 (by simp only [h]))).symm, (Le.refl _)⟩
    | (have hk2 : k = a.length := by omega
       subst hk2
       rw [List.take_length, List.take_of_length_le (by omega)] at hI
       exact ⟨congrArg Value.bool (decide_eq_true hI).symm, (Le.refl _)⟩)
  ·
    have hlen : a.length = b.length := by omega
    refine C.skip ?_
    refine hK2 _ _ ?_
    refine C.seqK fun K5 hK5 => ?_
    refine C.seqK fun K6 hK6 => ?_
    refine C.region ?_
    refine O.asg ?_
    refine O.nil ?_
    refine hK6 _ _ ?_
    refine C.block fun K7 hK7 => ?_
    refine C.loop0 (σ := Nat) (fun f0 w0 k f wz => f 5 = .int .i64 (k) ∧ f 0 = f0 0 ∧ f 1 = f0 1 ∧ Le w wz ∧ k ≤ a.length ∧ a.take k = b.take k) (fun k => a.length - k) 0 ?_ ?_
    ·
      refine ⟨rfl, rfl, rfl, (Le.refl _), ?_⟩
      exact ⟨Nat.zero_le _, rfl⟩
    ·
      rintro k f_1 w1 ⟨s5_1, s0_1, s1_1, e_1, ⟨hk, hI⟩⟩
      have z_1 := e_1.size
      refine C.seqK fun K8 hK8 => ?_
      refine C.seqK fun K9 hK9 => ?_
      refine C.region ?_
      refine O.mv ?_
      refine O.mv ?_
      refine O.len Tryz.underlying22 s0_1 (ha.keep e_1) ?_
      refine O.lssI s5_1 rfl ?_
      refine O.nil ?_
      refine hK9 _ _ ?_
      refine C.condD rfl (fun c14 => ?_) (fun c14 => ?_)
      ·
        refine C.skip ?_
        refine hK8 _ _ ?_
        refine C.seqK fun K10 hK10 => ?_
        refine C.block fun K11 hK11 => ?_
        refine C.seqK fun K12 hK12 => ?_
        refine C.draw (by kernel_rfl) fun w2 e2 => ?_
        have z2 := e2.size
        refine D.take (i := 0) rfl rfl rfl rfl (by kernel_rfl) (Le.refl _) ⟨pure _, rfl⟩ (fun w_ hw_ N_ hN => (O.mv (O.nil hN))) ?_
        refine D.take (i := 1) rfl rfl rfl rfl (by kernel_rfl) (Le.refl _) ⟨pure _, rfl⟩ (fun w_ hw_ N_ hN => (O.mv (O.nil hN))) ?_
        obtain ⟨a19, h19, hr19⟩ := Sl.at (i := (k : Int)) (P := Tryz.prog) Tryz.underlying22 Tryz.sizeOf51 rfl ((ha.keep e_1).keep e2) (by omega)
        refine D.take (i := 2) rfl rfl rfl rfl (by kernel_rfl) (Le.refl _) ⟨_, rfl⟩ (fun w_ hw_ N_ hN => (O.idxR s0_1 s5_1 hr19 (O.nil hN))) ?_
        refine D.take (i := 3) rfl rfl rfl rfl (by kernel_rfl) (Le.refl _) ⟨_, rfl⟩ (fun w_ hw_ N_ hN => (O.loadG (G := Dt.dotF) Tryz.isAgg51 Tryz.sizeOf51 rfl (h19.keep hw_) (O.nil hN))) ?_
        refine D.take (i := 4) rfl rfl rfl rfl (by kernel_rfl) (Le.refl _) ⟨pure _, rfl⟩ (fun w_ hw_ N_ hN => (O.mv (O.nil hN))) ?_
        refine D.take (i := 5) rfl rfl rfl rfl (by kernel_rfl) (Le.refl _) ⟨pure _, rfl⟩ (fun w_ hw_ N_ hN => (O.mv (O.nil hN))) ?_
        obtain ⟨a23, h23, hr23⟩ := Sl.at (i := (k : Int)) (P := Tryz.prog) Tryz.underlying22 Tryz.sizeOf51 rfl ((hb.keep e_1).keep e2) (by omega)
        refine D.take (i := 6) rfl rfl rfl rfl (by kernel_rfl) (Le.refl _) ⟨_, rfl⟩ (fun w_ hw_ N_ hN => (O.idxR s1_1 s5_1 hr23 (O.nil hN))) ?_
        refine D.take (i := 7) rfl rfl rfl rfl (by kernel_rfl) (Le.refl _) ⟨_, rfl⟩ (fun w_ hw_ N_ hN => (O.loadG (G := Dt.dotF) Tryz.isAgg51 Tryz.sizeOf51 rfl (h23.keep hw_) (O.nil hN))) ?_
        refine D.take (i := 8) rfl rfl rfl rfl (by kernel_rfl) (Le.refl _) ⟨_, rfl⟩ (fun w_ hw_ N_ hN => (O.neqP Tryz.underlying51 (by decide) (by decide) rfl rfl Tryz.underlying3 Tryz.underlying3 Tryz.isAgg3 Tryz.isAgg3 (by kernel_rfl) (by kernel_rfl) rfl rfl (O.nil hN))) ?_
        refine D.done (by kernel_rfl) ?_
        refine hK12 _ _ ?_
        refine C.condD rfl (fun c25 => ?_) (fun c25 => ?_)
        ·
          refine C.seqK fun K13 hK13 => ?_
          refine C.region ?_
          refine O.asg ?_
          refine O.nil ?_
          refine hK13 _ _ ?_
          refine C.ret ?_
          refine Outs.one rfl rfl ?_
          first
          | exact ⟨congrArg Value.bool (decide_eq_false (fun h => c10 (congrArg (fun l : List Dt.Dot => (l.length : Int)) h))).symm, (Ext.trans e_1 e2)⟩
          | exact ⟨congrArg Value.bool (decide_eq_false (fun h => c25 (by simp only [h]))).symm, (Ext.trans e_1 e2)⟩
          | (have hk2 : k = a.length := by omega
             subst hk2
             rw [List.take_length, List.take_of_length_le (by omega)] at hI
             exact ⟨congrArg Value.bool (decide_eq_true hI).symm, (Ext.trans e_1 e2)⟩)
        ·
          refine C.skip ?_
          refine hK11 _ _ ?_
          refine hK10 _ _ ?_
          refine C.region ?_
          refine O.mv ?_
          refine O.addI s5_1 rfl (by unfold InI; omega) ?_
          refine O.asg ?_
          refine O.nil ?_
          refine ⟨k + 1, ⟨rfl, s0_1, s1_1, (Ext.trans e_1 e2), ?_⟩, by first | omega | (simp only []; omega)⟩
          have hka : k < a.length := by omega
          have hkb : k < b.length := by omega
          have hq : a[k] = b[k] := Decidable.of_not_not c25
          refine ⟨by omega, ?_⟩
          rw [List.take_succ_eq_append_getElem hka, List.take_succ_eq_append_getElem hkb, hI, hq]
      ·
        refine C.exit ?_
        refine hK7 _ _ ?_
        refine hK5 _ _ ?_
        refine C.seqK fun K14 hK14 => ?_
        refine C.region ?_
        refine O.asg ?_
        refine O.nil ?_
        refine hK14 _ _ ?_
        refine C.ret ?_
        refine Outs.one rfl rfl ?_
        first
        | exact ⟨congrArg Value.bool (decide_eq_false (fun h => c10 (congrArg (fun l : List Dt.Dot => (l.length : Int)) h))).symm, e_1⟩
        | exact ⟨congrArg Value.bool (decide_eq_false (fun h => c25 (by simp only [h]))).symm, e_1⟩
        | (have hk2 : k = a.length := by omega
           subst hk2
           rw [List.take_length, List.take_of_length_le (by omega)] at hI
           exact ⟨congrArg Value.bool (decide_eq_true hI).symm, e_1⟩)

end Go.Proofs.YtnkcmaoaagnopaaGreatDoor
