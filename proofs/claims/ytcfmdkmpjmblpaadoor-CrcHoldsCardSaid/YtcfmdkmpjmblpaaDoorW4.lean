/-
  The walk of the law CrcHolds. Conditions: slices as they lie in memory; the library's table and its two errors lie in memory.
-/
import Derived.Test.YtcfmdkmpjmblpaaDoorFw5
import Derived.Test.YtcfmdkmpjmblpaaDoorW3
namespace Go.Proofs.YtcfmdkmpjmblpaaDoor
open Go.Pn Go.RowKit

set_option maxHeartbeats 1000000 in
theorem crcHolds_spec (v0 : Value) (a : List UInt8) (v1 : Value) (b : List UInt8) (q : BitVec 16) (y : BitVec 8) (es er : Value) (w : World) (ha : Sl byteE w (fun k => k < w.heap.size) v0 a) (hb : Sl byteE w (fun k => k < w.heap.size) v1 b) (hT : Row byteE w (fun k => k = 5) 5 0 Hex.bruijn) (hes : CellIs w 2 es) (her : CellIs w 3 er) (h1 : ∃ te pe, es = .iface te pe) (h2 : ∃ te pe, er = .iface te pe) :
    Ret Tryd.prog 7 #[v0, v1, .int .u16 ((q).toNat : Int), .int .u8 ((y).toNat : Int)] w (fun v w' => v = .bool true ∧ Le w w') := by
  have hale := ha.le
  have hble := hb.le
  have hT5 := hT.lt
  have hesL := hes.lt
  have herL := her.lt
  refine enter (args := [v0, v1, .int .u16 ((q).toNat : Int), .int .u8 ((y).toNat : Int)]) (n := 79) Tryd.func7 rfl rfl (Nat.le_of_ble_eq_true rfl) ?_
  refine C.seqK fun K1 hK1 => ?_
  refine C.region ?_
  refine O.asg ?_
  refine O.nil ?_
  refine hK1 _ _ ?_
  refine C.seqK fun K2 hK2 => ?_
  refine C.seqK fun K3 hK3 => ?_
  refine C.region ?_
  refine O.mv ?_
  refine O.len Tryd.underlying23 rfl ha ?_
  refine O.gtrI rfl rfl ?_
  refine O.mv ?_
  refine O.cut 4 (fun f f' => f' 20 = .bool (decide ((a.length : Int) > 1000 ∨ (b.length : Int) > 1000)) ∧ f' 0 = f 0 ∧ f' 1 = f 1 ∧ f' 2 = f 2 ∧ f' 3 = f 3 ∧ f' 8 = f 8) ?_ ?_
  ·
    refine O.splitD (x := .tmp 16) rfl (fun c16 => ?_) (fun c16 => ?_)
    ·
      refine O.no rfl (noB (isT rfl c16) rfl) ?_
      refine O.no rfl (noB (isT rfl c16) rfl) ?_
      refine O.no rfl (noB (isT rfl c16) rfl) ?_
      refine O.pickT (isT rfl c16) ?_
      refine O.nil ?_
      refine ⟨⟨?_, rfl, rfl, rfl, rfl, rfl⟩, rfl⟩
      first | exact rfl | exact Eq.trans rfl (congrArg Value.bool (dAnd (by assumption))) | exact Eq.trans rfl (congrArg Value.bool (dAndF (by assumption))) | exact Eq.trans rfl (congrArg Value.bool (dOr (by assumption))) | exact Eq.trans rfl (congrArg Value.bool (dOrT (by assumption)))
    ·
      refine O.yes rfl (isF rfl c16) ?_
      refine O.mv ?_
      refine O.yes rfl (isF rfl c16) ?_
      refine O.len Tryd.underlying23 rfl hb ?_
      refine O.yes rfl (isF rfl c16) ?_
      refine O.gtrI rfl rfl ?_
      refine O.pickF (isF rfl c16) ?_
      refine O.nil ?_
      refine ⟨⟨?_, rfl, rfl, rfl, rfl, rfl⟩, rfl⟩
      first | exact rfl | exact Eq.trans rfl (congrArg Value.bool (dAnd (by assumption))) | exact Eq.trans rfl (congrArg Value.bool (dAndF (by assumption))) | exact Eq.trans rfl (congrArg Value.bool (dOr (by assumption))) | exact Eq.trans rfl (congrArg Value.bool (dOrT (by assumption)))
  ·
    rintro f_1 ⟨s20_1, s0_1, s1_1, s2_1, s3_1, s8_1⟩
    refine O.nil ?_
    refine hK3 _ _ ?_
    refine C.condD s20_1 (fun c20 => ?_) (fun c20 => ?_)
    ·
      refine C.seqK fun K4 hK4 => ?_
      refine C.region ?_
      refine O.call Tryd.call8 (argsN) (known_spec _ _ _ hT hes her h1 h2) ?_
      rintro v_21 w1 ⟨rfl, e1⟩
      have z1 := e1.size
      refine O.asg ?_
      refine O.nil ?_
      refine hK4 _ _ ?_
      refine C.ret ?_
      refine Outs.one rfl rfl ?_
      exact ⟨rfl, e1⟩
    ·
      refine C.skip ?_
      refine hK2 _ _ ?_
      refine C.seqK fun K5 hK5 => ?_
      refine C.region ?_
      refine O.mv ?_
      refine O.appF (G := byteF) Tryd.underlying23 rfl rfl rfl rfl rfl s0_1 (OwnF.nil _ _ _ _) ha (by show (0 + a.length) * 1 ≤ _; omega) (by unfold maxLen; simp; omega) (Nat.le_refl _) (fun v23 w2 h23 e2 => ?_)
      replace e2 : Le w w2 := e2.mono (fun _ _ h => h)
      have z2 := e2.size
      have h23s := h23.sl
      refine O.mv ?_
      refine O.appF (G := byteF) Tryd.underlying23 rfl rfl rfl rfl rfl s1_1 h23 (hb.keep e2) (by show ((([] : List UInt8) ++ a).length + b.length) * 1 ≤ _; simp; omega) (by unfold maxLen; simp; omega) (by omega) (fun v25 w3 h25 e3 => ?_)
      have z3 := e3.size
      have h25s := h25.sl
      refine O.asg ?_
      refine O.nil ?_
      refine hK5 _ _ ?_
      refine C.seqK fun K6 hK6 => ?_
      refine C.region ?_
      refine O.mv ?_
      refine O.call Tryd.call9 (args1 s0_1) (sum_spec _ _ _ _ ((ha.keep e2).keepM e3 (by first | (intro k hk h; have := h23.bk_ge k h; (try dsimp only at hk h); omega) | (intro h; have := h23.bk_ge _ h; (try dsimp only at h); omega)))) ?_
      rintro v_27 w4 ⟨rfl, e4⟩
      have z4 := e4.size
      refine O.mv ?_
      refine O.call Tryd.call9 (args1 s1_1) (sum_spec _ _ _ _ (((hb.keep e2).keepM e3 (by first | (intro k hk h; have := h23.bk_ge k h; (try dsimp only at hk h); omega) | (intro h; have := h23.bk_ge _ h; (try dsimp only at h); omega))).keep e4)) ?_
      rintro v_29 w5 ⟨rfl, e5⟩
      have z5 := e5.size
      refine O.mv ?_
      refine O.call Tryd.call9 (args1 rfl) (sum_spec _ _ _ _ ((h25s.keep e4).keep e5)) ?_
      rintro v_31 w6 ⟨rfl, e6⟩
      have z6 := e6.size
      refine O.asg ?_
      refine O.asg ?_
      refine O.asg ?_
      refine O.nil ?_
      refine hK6 _ _ ?_
      refine C.seqK fun K7 hK7 => ?_
      refine C.seqK fun K8 hK8 => ?_
      refine C.region ?_
      refine O.mv ?_
      refine O.mv ?_
      refine O.call Tryd.call11 (args2 rfl s1_1) (update_spec _ _ _ _ _ (((((hb.keep e2).keepM e3 (by first | (intro k hk h; have := h23.bk_ge k h; (try dsimp only at hk h); omega) | (intro h; have := h23.bk_ge _ h; (try dsimp only at h); omega))).keep e4).keep e5).keep e6)) ?_
      rintro v_34 w7 ⟨rfl, e7⟩
      have z7 := e7.size
      refine O.mv ?_
      refine O.neqU (m := 32) rfl rfl ?_
      refine O.cast (v' := .bool false) (congrArg Value.bool (by exact decide_eq_false (fun h => h (Crc.update_append _ _ _)))) ?_
      refine O.mv ?_
      refine O.yes rfl rfl ?_
      refine O.mv ?_
      refine O.yes rfl rfl ?_
      refine O.mv ?_
      refine O.yes rfl rfl ?_
      refine O.mv ?_
      refine O.yes rfl rfl ?_
      refine O.len Tryd.underlying23 s1_1 ((((((hb.keep e2).keepM e3 (by first | (intro k hk h; have := h23.bk_ge k h; (try dsimp only at hk h); omega) | (intro h; have := h23.bk_ge _ h; (try dsimp only at h); omega))).keep e4).keep e5).keep e6).keep e7) ?_
      refine O.yes rfl rfl ?_
      refine O.mv ?_
      refine O.yes rfl rfl ?_
      refine O.call Tryd.call13 (args5 rfl rfl rfl rfl rfl) (joins_ok_spec _ _ _ _ _ (by omega) (by rw [Int.toNat_natCast]; exact Crc.sum_join _ _)) ?_
      rintro v_43 w8 ⟨rfl, e8⟩
      have z8 := e8.size
      refine O.yes rfl rfl ?_
      refine O.not rfl ?_
      refine O.cast (v' := .bool false) rfl ?_
      refine O.pickF rfl ?_
      refine O.mv ?_
      refine O.yes rfl rfl ?_
      refine O.mv ?_
      refine O.yes rfl rfl ?_
      refine O.call Tryd.call15 (args1 rfl) (ctext_spec _ _ (((((((hT.keep e2).keepM e3 (by first | (intro k hk h; have := h23.bk_ge k h; (try dsimp only at hk h); omega) | (intro h; have := h23.bk_ge _ h; (try dsimp only at h); omega))).keep e4).keep e5).keep e6).keep e7).keep e8)) ?_
      rintro v_48 w9 ⟨rfl, e9⟩
      have z9 := e9.size
      refine O.yes rfl rfl ?_
      refine O.mv ?_
      refine O.yes rfl rfl ?_
      refine O.call Tryd.call18 (args3 rfl rfl rfl) (parses_ok_spec _ es er _ _ (by rw [Crc.text_length]; omega) ((((((((hT.keep e2).keepM e3 (by first | (intro k hk h; have := h23.bk_ge k h; (try dsimp only at hk h); omega) | (intro h; have := h23.bk_ge _ h; (try dsimp only at h); omega))).keep e4).keep e5).keep e6).keep e7).keep e8).keep e9) ((((((((hes.keep e2).keepM e3 (by first | (intro k hk h; have := h23.bk_ge k h; (try dsimp only at hk h); omega) | (intro h; have := h23.bk_ge _ h; (try dsimp only at h); omega))).keep e4).keep e5).keep e6).keep e7).keep e8).keep e9) ((((((((her.keep e2).keepM e3 (by first | (intro k hk h; have := h23.bk_ge k h; (try dsimp only at hk h); omega) | (intro h; have := h23.bk_ge _ h; (try dsimp only at h); omega))).keep e4).keep e5).keep e6).keep e7).keep e8).keep e9) h1 h2 (by rw [Crc.pparse_eq, Crc.rparse_text])) ?_
      rintro v_50 w10 ⟨rfl, e10⟩
      have z10 := e10.size
      refine O.yes rfl rfl ?_
      refine O.not rfl ?_
      refine O.cast (v' := .bool false) rfl ?_
      refine O.pickF rfl ?_
      refine O.nil ?_
      refine hK8 _ _ ?_
      refine C.condF rfl ?_
      refine C.skip ?_
      refine hK7 _ _ ?_
      refine C.seqK fun K9 hK9 => ?_
      refine C.seqK fun K10 hK10 => ?_
      refine C.region ?_
      refine O.mv ?_
      refine O.len Tryd.underlying23 rfl (((((((h25s.keep e4).keep e5).keep e6).keep e7).keep e8).keep e9).keep e10) ?_
      refine O.gtrI rfl rfl ?_
      refine O.mv ?_
      refine O.cut 3 (fun f f' => f' 59 = .bool (decide (((((([] : List UInt8) ++ a) ++ b).length : Nat) : Int) > 0 ∧ y > 0#8)) ∧ f' 2 = f 2 ∧ f' 3 = f 3 ∧ f' 8 = f 8 ∧ f' 9 = f 9 ∧ f' 12 = f 12) ?_ ?_
      ·
        refine O.splitD (x := .tmp 56) rfl (fun c56 => ?_) (fun c56 => ?_)
        ·
          refine O.yes rfl (isT rfl c56) ?_
          refine O.mv ?_
          refine O.yes rfl (isT rfl c56) ?_
          refine O.gtrU (m := 8) (b := 0#8) s3_1 rfl ?_
          refine O.pickT (isT rfl c56) ?_
          refine O.nil ?_
          refine ⟨⟨?_, rfl, rfl, rfl, rfl, rfl⟩, rfl⟩
          first | exact rfl | exact Eq.trans rfl (congrArg Value.bool (dAnd (by assumption))) | exact Eq.trans rfl (congrArg Value.bool (dAndF (by assumption))) | exact Eq.trans rfl (congrArg Value.bool (dOr (by assumption))) | exact Eq.trans rfl (congrArg Value.bool (dOrT (by assumption)))
        ·
          refine O.no rfl (noB (isF rfl c56) rfl) ?_
          refine O.no rfl (noB (isF rfl c56) rfl) ?_
          refine O.pickF (isF rfl c56) ?_
          refine O.nil ?_
          refine ⟨⟨?_, rfl, rfl, rfl, rfl, rfl⟩, rfl⟩
          first | exact rfl | exact Eq.trans rfl (congrArg Value.bool (dAnd (by assumption))) | exact Eq.trans rfl (congrArg Value.bool (dAndF (by assumption))) | exact Eq.trans rfl (congrArg Value.bool (dOr (by assumption))) | exact Eq.trans rfl (congrArg Value.bool (dOrT (by assumption)))
      ·
        rintro f_2 ⟨s59_2, s2_2, s3_2, s8_2, s9_2, s12_2⟩
        refine O.nil ?_
        refine hK10 _ _ ?_
        refine C.condD s59_2 (fun c59 => ?_) (fun c59 => ?_)
        ·
          obtain ⟨hL0, hy0⟩ := c59
          obtain ⟨g, cap, cs, hv, hog, hcs, hc1, hc2, hc3, hgB⟩ := OwnF.block (((((((h25.keep e4).keep e5).keep e6).keep e7).keep e8).keep e9).keep e10) (by omega)
          subst hv
          simp only [show byteF.sz = 1 from rfl] at hcs hc3
          refine C.seqK fun K11 hK11 => ?_
          refine C.region ?_
          refine O.mv ?_
          refine O.mv ?_
          refine O.convUI (m := 16) Tryd.underlying38 Tryd.underlying3 (Eq.trans s2_2 s2_1) (by decide) ?_
          refine O.mv ?_
          refine O.len Tryd.underlying23 s9_2 (((((((h25s.keep e4).keep e5).keep e6).keep e7).keep e8).keep e9).keep e10) ?_
          refine O.remI rfl rfl (by omega) ?_
          obtain ⟨j, hj⟩ : ∃ j : Nat, ((q.toNat : Int) % ((((([] : List UInt8) ++ a) ++ b).length : Nat) : Int)) = (j : Int) := ⟨_, (Int.toNat_of_nonneg (Int.emod_nonneg _ (by omega))).symm⟩
          have hjl : j < ((([] : List UInt8) ++ a) ++ b).length := by have := Int.emod_lt_of_pos (q.toNat : Int) hL0; omega
          refine O.cast (v' := .int .i64 (j : Int)) (by rw [hj]) ?_
          refine O.idxO Tryd.underlying23 Tryd.sizeOf5 s9_2 rfl (by omega) ?_
          refine O.loadO Tryd.isAgg5 rfl hog (byte_cell hcs hjl) ?_
          refine O.mv ?_
          refine O.addU (m := 8) rfl rfl rfl (Eq.trans s3_2 s3_1) ?_
          refine O.idxO Tryd.underlying23 Tryd.sizeOf5 s9_2 rfl (by omega) ?_
          refine O.store Tryd.sizeOf5 rfl rfl rfl hog (by simp only [Int.toNat_natCast]; omega) (fun w11 hs11 e11 z11 => ?_)
          try simp only [Int.toNat_natCast, Nat.zero_add, Nat.mul_one] at hs11
          refine O.nil ?_
          refine hK11 _ _ ?_
          refine C.seqK fun K12 hK12 => ?_
          refine C.region ?_
          refine O.mv ?_
          have hne : ((([] : List UInt8) ++ a) ++ b)[j] + UInt8.ofBitVec y ≠ ((([] : List UInt8) ++ a) ++ b)[j] := Crc.add_ne (fun h => by rw [UInt8.toBitVec_ofBitVec] at h; rw [h] at hy0; revert hy0; decide)
          have h71 := sl_set (x := ((([] : List UInt8) ++ a) ++ b)[j] + UInt8.ofBitVec y) hs11 hcs hc1 hc2 hc3
          refine O.call Tryd.call9 (args1 s9_2) (sum_spec _ _ _ _ h71) ?_
          rintro v_72 w12 ⟨rfl, e12⟩
          have z12 := e12.size
          refine O.mv ?_
          refine O.neqU (m := 32) rfl s12_2 ?_
          refine O.cast (v' := .bool true) (congrArg Value.bool (by exact decide_eq_true (Crc.update_set _ hjl hne))) ?_
          refine O.mv ?_
          refine O.yes rfl rfl ?_
          refine O.call Tryd.call8 (argsN) (known_spec _ _ _ (((((((((((hT.keep e2).keepM e3 (by first | (intro k hk h; have := h23.bk_ge k h; (try dsimp only at hk h); omega) | (intro h; have := h23.bk_ge _ h; (try dsimp only at h); omega))).keep e4).keep e5).keep e6).keep e7).keep e8).keep e9).keep e10).keepM e11 (by first | (intro k hk h; skip; (try dsimp only at hk h); omega) | (intro h; skip; (try dsimp only at h); omega))).keep e12) (((((((((((hes.keep e2).keepM e3 (by first | (intro k hk h; have := h23.bk_ge k h; (try dsimp only at hk h); omega) | (intro h; have := h23.bk_ge _ h; (try dsimp only at h); omega))).keep e4).keep e5).keep e6).keep e7).keep e8).keep e9).keep e10).keepM e11 (by first | (intro k hk h; skip; (try dsimp only at hk h); omega) | (intro h; skip; (try dsimp only at h); omega))).keep e12) (((((((((((her.keep e2).keepM e3 (by first | (intro k hk h; have := h23.bk_ge k h; (try dsimp only at hk h); omega) | (intro h; have := h23.bk_ge _ h; (try dsimp only at h); omega))).keep e4).keep e5).keep e6).keep e7).keep e8).keep e9).keep e10).keepM e11 (by first | (intro k hk h; skip; (try dsimp only at hk h); omega) | (intro h; skip; (try dsimp only at h); omega))).keep e12) h1 h2) ?_
          rintro v_76 w13 ⟨rfl, e13⟩
          have z13 := e13.size
          refine O.pickT rfl ?_
          refine O.asg ?_
          refine O.nil ?_
          refine hK12 _ _ ?_
          refine C.ret ?_
          refine Outs.one rfl rfl ?_
          exact ⟨rfl, (Ext.trans (Ext.trans (Ext.new (Ext.trans (Ext.trans (Ext.trans (Ext.trans (Ext.trans (Ext.trans (Ext.trans (Ext.new e2 e3 (by intro i hi h; have := h23.bk_ge i h; (try dsimp only at h); omega)) e4) e5) e6) e7) e8) e9) e10) e11 (by intro i hi h; skip; (try dsimp only at h); omega)) e12) e13)⟩
        ·
          refine C.skip ?_
          refine hK9 _ _ ?_
          refine C.seqK fun K13 hK13 => ?_
          refine C.region ?_
          refine O.call Tryd.call8 (argsN) (known_spec _ _ _ (((((((((hT.keep e2).keepM e3 (by first | (intro k hk h; have := h23.bk_ge k h; (try dsimp only at hk h); omega) | (intro h; have := h23.bk_ge _ h; (try dsimp only at h); omega))).keep e4).keep e5).keep e6).keep e7).keep e8).keep e9).keep e10) (((((((((hes.keep e2).keepM e3 (by first | (intro k hk h; have := h23.bk_ge k h; (try dsimp only at hk h); omega) | (intro h; have := h23.bk_ge _ h; (try dsimp only at h); omega))).keep e4).keep e5).keep e6).keep e7).keep e8).keep e9).keep e10) (((((((((her.keep e2).keepM e3 (by first | (intro k hk h; have := h23.bk_ge k h; (try dsimp only at hk h); omega) | (intro h; have := h23.bk_ge _ h; (try dsimp only at h); omega))).keep e4).keep e5).keep e6).keep e7).keep e8).keep e9).keep e10) h1 h2) ?_
          rintro v_78 w14 ⟨rfl, e14⟩
          have z14 := e14.size
          refine O.asg ?_
          refine O.nil ?_
          refine hK13 _ _ ?_
          refine C.ret ?_
          refine Outs.one rfl rfl ?_
          exact ⟨rfl, (Ext.trans (Ext.trans (Ext.trans (Ext.trans (Ext.trans (Ext.trans (Ext.trans (Ext.trans (Ext.new e2 e3 (by intro i hi h; have := h23.bk_ge i h; (try dsimp only at h); omega)) e4) e5) e6) e7) e8) e9) e10) e14)⟩

end Go.Proofs.YtcfmdkmpjmblpaaDoor
