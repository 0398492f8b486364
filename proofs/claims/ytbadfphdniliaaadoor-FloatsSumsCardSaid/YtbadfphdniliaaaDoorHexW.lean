/-
  The walks of strconv's functions on hexadecimal numbers. Conditions: the library's table lies in memory.
-/
import Derived.Test.YtbadfphdniliaaaDoorHexPlain
import Derived.Test.YtbadfphdniliaaaDoorRows
import Derived.Test.YtbadfphdniliaaaDoorShelf
namespace Go.Proofs.YtbadfphdniliaaaDoor
open Go.Pn Go.RowKit

theorem isPow_spec (w : World) :
    Ret Tryd.prog 82 #[.int .i64 (16)] w (fun v w' => v = .bool true ∧ w' = w) := by
  refine enter (args := [.int .i64 (16)]) (n := 8) Tryd.func82 rfl rfl (Nat.le_of_ble_eq_true rfl) ?_
  refine C.seqK fun K1 hK1 => ?_
  refine C.region ?_
  refine O.asg ?_
  refine O.nil ?_
  refine hK1 _ _ ?_
  refine C.seqK fun K2 hK2 => ?_
  refine C.region ?_
  refine O.mv ?_
  refine O.mv ?_
  refine O.subI rfl rfl (by unfold InI; omega) ?_
  refine O.cast (v' := .int .i64 (15)) rfl ?_
  refine O.andI64 rfl rfl ?_
  refine O.cast (v' := .int .i64 (0)) rfl ?_
  refine O.eqlI rfl rfl ?_
  refine O.cast (v' := .bool true) rfl ?_
  refine O.asg ?_
  refine O.nil ?_
  refine hK2 _ _ ?_
  refine C.ret ?_
  refine Outs.one rfl rfl ?_
  exact ⟨rfl, rfl⟩

theorem tz64_spec (w : World) (hT : Row byteE w (fun k => k = 6) 6 0 Hex.bruijn) :
    Ret Tryd.prog 94 #[.int .u64 ((16#64).toNat : Int)] w (fun v w' => v = .int .i64 4 ∧ w' = w) := by
  refine enter (args := [.int .u64 ((16#64).toNat : Int)]) (n := 14) Tryd.func94 rfl rfl (Nat.le_of_ble_eq_true rfl) ?_
  refine C.seqK fun K1 hK1 => ?_
  refine C.region ?_
  refine O.asg ?_
  refine O.nil ?_
  refine hK1 _ _ ?_
  refine C.seqK fun K2 hK2 => ?_
  refine C.seqK fun K3 hK3 => ?_
  refine C.region ?_
  refine O.mv ?_
  refine O.eqlU (m := 64) (a := 16#64) (b := 0#64) rfl rfl ?_
  refine O.cast (v' := .bool false) rfl ?_
  refine O.nil ?_
  refine hK3 _ _ ?_
  refine C.condF rfl ?_
  refine C.skip ?_
  refine hK2 _ _ ?_
  refine C.seqK fun K4 hK4 => ?_
  refine C.region ?_
  refine O.mv ?_
  refine O.mv ?_
  refine O.negU (m := 64) rfl rfl rfl ?_
  refine O.cast (v' := .int .u64 ((18446744073709551600#64).toNat : Int)) rfl ?_
  refine O.andU (m := 64) (a := 16#64) (b := 18446744073709551600#64) rfl rfl rfl rfl ?_
  refine O.cast (v' := .int .u64 ((16#64).toNat : Int)) rfl ?_
  refine O.mulU (m := 64) (a := 16#64) (b := 285870213051353865#64) rfl rfl rfl rfl ?_
  refine O.cast (v' := .int .u64 ((4573923408821661840#64).toNat : Int)) rfl ?_
  refine O.shrU (m := 64) (a := 4573923408821661840#64) (c := 58) rfl rfl rfl rfl ?_
  refine O.cast (v' := .int .u64 ((15#64).toNat : Int)) rfl ?_
  refine O.idxA Tryd.underlying130 Tryd.sizeOf5 rfl rfl (by decide) ?_
  refine O.loadR Tryd.isAgg5 rfl rfl hT (by decide) (fun v12 h12 => ?_)
  obtain rfl := byteE.inv h12
  refine O.convUI (m := 8) Tryd.underlying5 Tryd.underlying3 rfl (by decide) ?_
  refine O.asg ?_
  refine O.nil ?_
  refine hK4 _ _ ?_
  refine C.ret ?_
  refine Outs.one rfl rfl ?_
  exact ⟨rfl, rfl⟩

theorem tz_spec (w : World) (hT : Row byteE w (fun k => k = 6) 6 0 Hex.bruijn) :
    Ret Tryd.prog 83 #[.int .u64 ((16#64).toNat : Int)] w (fun v w' => v = .int .i64 4 ∧ w' = w) := by
  refine enter (args := [.int .u64 ((16#64).toNat : Int)]) (n := 8) Tryd.func83 rfl rfl (Nat.le_of_ble_eq_true rfl) ?_
  refine C.seqK fun K1 hK1 => ?_
  refine C.region ?_
  refine O.asg ?_
  refine O.nil ?_
  refine hK1 _ _ ?_
  refine C.seqK fun K2 hK2 => ?_
  refine C.condF rfl ?_
  refine C.skip ?_
  refine hK2 _ _ ?_
  refine C.seqK fun K3 hK3 => ?_
  refine C.region ?_
  refine O.mv ?_
  refine O.call Tryd.call94 (args1 rfl) (tz64_spec _ hT) ?_
  rintro v_7 w1 ⟨rfl, hw_⟩
  replace hw_ := hw_.symm
  subst hw_
  refine O.asg ?_
  refine O.nil ?_
  refine hK3 _ _ ?_
  refine C.ret ?_
  refine Outs.one rfl rfl ?_
  exact ⟨rfl, rfl⟩

theorem fbits_spec (u : BitVec 64) (w : World) (hT : Row byteE w (fun k => k = 6) 6 0 Hex.bruijn) :
    Ret Tryd.prog 67 #[.slice none 0 0, .int .u64 ((u).toNat : Int), .int .i64 (16), .bool (false), .bool (false)] w (fun v w' => ∃ k, v = .tuple #[.slice none 0 0, str (Hex.low k u)] ∧ Hex.Count k u ∧ Le w w') := by
  refine enter (args := [.slice none 0 0, .int .u64 ((u).toNat : Int), .int .i64 (16), .bool (false), .bool (false)]) (n := 102) Tryd.func67 rfl rfl (Nat.le_of_ble_eq_true rfl) ?_
  refine C.seqK fun K1 hK1 => ?_
  refine C.region ?_
  refine O.asg ?_
  refine O.asg ?_
  refine O.nil ?_
  refine hK1 _ _ ?_
  refine C.seqK fun K2 hK2 => ?_
  refine C.seqK fun K3 hK3 => ?_
  refine C.region ?_
  refine O.mv ?_
  refine O.lssI rfl rfl ?_
  refine O.cast (v' := .bool false) rfl ?_
  refine O.mv ?_
  refine O.yes rfl rfl ?_
  refine O.mv ?_
  refine O.yes rfl rfl ?_
  refine O.eqlI rfl rfl ?_
  refine O.cast (v' := .bool false) rfl ?_
  refine O.pickF rfl ?_
  refine O.mv ?_
  refine O.yes rfl rfl ?_
  refine O.mv ?_
  refine O.yes rfl rfl ?_
  refine O.gtrI rfl rfl ?_
  refine O.cast (v' := .bool false) rfl ?_
  refine O.pickF rfl ?_
  refine O.nil ?_
  refine hK3 _ _ ?_
  refine C.condF rfl ?_
  refine C.skip ?_
  refine hK2 _ _ ?_
  refine C.seqK fun K4 hK4 => ?_
  refine C.region ?_
  refine O.alloc Tryd.zeroValue111 (fun b12 w1 hb12 hz12 e1 => ?_)
  have z1 := e1.size
  have h12 := hz12.own
  have hl12 := h12.lt
  replace h12 : Own w1 b12 111 (Hex.arr 0 u) := by rw [Hex.arr0]; exact h12
  refine O.nil ?_
  refine hK4 _ _ ?_
  refine C.seqK fun K5 hK5 => ?_
  refine C.region ?_
  refine O.asg ?_
  refine O.nil ?_
  refine hK5 _ _ ?_
  refine C.seqK fun K6 hK6 => ?_
  refine C.seqK fun K7 hK7 => ?_
  refine C.region ?_
  refine O.mv ?_
  refine O.nil ?_
  refine hK7 _ _ ?_
  refine C.condF rfl ?_
  refine C.skip ?_
  refine hK6 _ _ ?_
  refine C.seqK fun K8 hK8 => ?_
  refine C.seqK fun K9 hK9 => ?_
  refine C.region ?_
  refine O.mv ?_
  refine O.call Tryd.call82 (args1 rfl) (isPow_spec _) ?_
  rintro v_34 w2 ⟨rfl, hw_⟩
  replace hw_ := hw_.symm
  subst hw_
  refine O.nil ?_
  refine hK9 _ _ ?_
  refine C.condT rfl ?_
  refine C.seqK fun K10 hK10 => ?_
  refine C.region ?_
  refine O.mv ?_
  refine O.convIU (m' := 64) Tryd.underlying3 Tryd.underlying63 rfl rfl rfl ?_
  refine O.cast (v' := .int .u64 ((16#64).toNat : Int)) rfl ?_
  refine O.call Tryd.call83 (args1 rfl) (tz_spec _ (hT.keep e1)) ?_
  rintro v_37 w2 ⟨rfl, hw_⟩
  replace hw_ := hw_.symm
  subst hw_
  refine O.convIU (m' := 64) Tryd.underlying3 Tryd.underlying63 rfl rfl rfl ?_
  refine O.cast (v' := .int .u64 ((4#64).toNat : Int)) rfl ?_
  refine O.asg ?_
  refine O.nil ?_
  refine hK10 _ _ ?_
  refine C.seqK fun K11 hK11 => ?_
  refine C.region ?_
  refine O.mv ?_
  refine O.convIU (m' := 64) Tryd.underlying3 Tryd.underlying22 rfl rfl rfl ?_
  refine O.cast (v' := .int .u64 ((16#64).toNat : Int)) rfl ?_
  refine O.asg ?_
  refine O.nil ?_
  refine hK11 _ _ ?_
  refine C.seqK fun K12 hK12 => ?_
  refine C.region ?_
  refine O.mv ?_
  refine O.convIU (m' := 64) Tryd.underlying3 Tryd.underlying63 rfl rfl rfl ?_
  refine O.cast (v' := .int .u64 ((16#64).toNat : Int)) rfl ?_
  refine O.subU (m := 64) (a := 16#64) (b := 1#64) rfl rfl rfl rfl ?_
  refine O.cast (v' := .int .u64 ((15#64).toNat : Int)) rfl ?_
  refine O.asg ?_
  refine O.nil ?_
  refine hK12 _ _ ?_
  refine C.seqK fun K13 hK13 => ?_
  refine C.block fun K14 hK14 => ?_
  refine C.loop0 (σ := Nat) (fun f0 w0 k f w => f 1 = .int .u64 ((u >>> (4 * k)).toNat : Int) ∧ f 13 = .int .i64 ((65 : Int) - (k : Int)) ∧ f 0 = f0 0 ∧ f 3 = f0 3 ∧ f 4 = f0 4 ∧ f 10 = f0 10 ∧ f 11 = f0 11 ∧ f 12 = f0 12 ∧ f 14 = f0 14 ∧ f 15 = f0 15 ∧ f 16 = f0 16 ∧ Ext (fun k => k = b12) w0 w ∧ Own w b12 111 (Hex.arr k u) ∧ k ≤ 15 ∧ (k = 0 ∨ 16#64 ≤ u >>> (4 * (k - 1)))) (fun k => 16 - k) 0 ?_ ?_
  ·
    refine ⟨(Eq.trans rfl (Hex.u_start u)), rfl, rfl, rfl, rfl, rfl, rfl, rfl, rfl, rfl, rfl, Ext.refl _ _, h12, ?_⟩
    exact ⟨by omega, .inl rfl⟩
  ·
    rintro k f_1 w2 ⟨s1_1, s13_1, s0_1, s3_1, s4_1, s10_1, s11_1, s12_1, s14_1, s15_1, s16_1, e_1, r0_1, ⟨hk, hm⟩⟩
    have z_1 := e_1.size
    refine C.seqK fun K15 hK15 => ?_
    refine C.seqK fun K16 hK16 => ?_
    refine C.region ?_
    refine O.mv ?_
    refine O.mv ?_
    refine O.geqU (m := 64) (b := 16#64) s1_1 s15_1 ?_
    refine O.nil ?_
    refine hK16 _ _ ?_
    refine C.condD rfl (fun c46 => ?_) (fun c46 => ?_)
    ·
      refine C.skip ?_
      refine hK15 _ _ ?_
      refine C.block fun K17 hK17 => ?_
      refine C.seqK fun K18 hK18 => ?_
      refine C.region ?_
      refine O.mv ?_
      refine O.subI s13_1 rfl (by unfold InI; omega) ?_
      refine O.asg ?_
      refine O.nil ?_
      refine hK18 _ _ ?_
      refine C.seqK fun K19 hK19 => ?_
      refine C.region ?_
      refine O.mv ?_
      refine O.mv ?_
      refine O.mv ?_
      refine O.andU (m := 64) (b := 15#64) rfl rfl s1_1 s16_1 ?_
      refine O.indexS (a := Hex.digits) Tryd.underlying9 rfl rfl (Hex.and_lt _) ?_
      refine O.idxA Tryd.underlying111 Tryd.sizeOf5 s12_1 rfl (by simp; omega) ?_
      refine O.store Tryd.sizeOf5 rfl rfl rfl r0_1 (by rw [Hex.arr_length (by omega)]; omega) (fun w3 hs3 e3 z3 => ?_)
      try simp only [Int.toNat_natCast, Nat.zero_add, Nat.mul_one] at hs3
      rw [show ((65 : Int) - (k : Int) - 1).toNat = 64 - k from by omega] at hs3
      replace hs3 : Own w3 b12 111 (Hex.arr (k + 1) u) := by rw [← Hex.arr_set (by omega) u]; exact hs3
      refine O.nil ?_
      refine hK19 _ _ ?_
      refine C.region ?_
      refine O.mv ?_
      refine O.mv ?_
      refine O.shrU (m := 64) (c := 4) rfl rfl s1_1 s14_1 ?_
      refine O.asg ?_
      refine O.nil ?_
      refine hK17 _ _ ?_
      refine ⟨k + 1, ⟨(Eq.trans rfl (Hex.u_next u k)), (Eq.trans rfl (i64_eq (by omega))), s0_1, s3_1, s4_1, s10_1, s11_1, s12_1, s14_1, s15_1, s16_1, (Ext.trans e_1 (e3)), hs3, ?_⟩, (by have := Hex.shr_lt (by assumption); omega)⟩
      have := Hex.shr_lt (by assumption)
      exact ⟨by omega, .inr (by assumption)⟩
    ·
      refine C.exit ?_
      refine hK14 _ _ ?_
      refine hK13 _ _ ?_
      refine C.seqK fun K20 hK20 => ?_
      refine C.region ?_
      refine O.mv ?_
      refine O.subI s13_1 rfl (by unfold InI; omega) ?_
      refine O.asg ?_
      refine O.nil ?_
      refine hK20 _ _ ?_
      refine C.region ?_
      refine O.mv ?_
      refine O.mv ?_
      refine O.indexS (a := Hex.digits) Tryd.underlying9 rfl s1_1 (Hex.not_ge_lt (by assumption)) ?_
      refine O.idxA Tryd.underlying111 Tryd.sizeOf5 s12_1 rfl (by simp; omega) ?_
      refine O.store Tryd.sizeOf5 rfl rfl rfl r0_1 (by rw [Hex.arr_length (by omega)]; omega) (fun w4 hs4 e4 z4 => ?_)
      try simp only [Int.toNat_natCast, Nat.zero_add, Nat.mul_one] at hs4
      rw [show ((65 : Int) - (k : Int) - 1).toNat = 64 - k from by omega] at hs4
      replace hs4 : Own w4 b12 111 (Hex.arr (k + 1) u) := by rw [← Hex.arr_set (by omega) u, Hex.small_and (by assumption)]; exact hs4
      refine O.nil ?_
      refine hK8 _ _ ?_
      refine C.seqK fun K21 hK21 => ?_
      refine C.seqK fun K22 hK22 => ?_
      refine C.region ?_
      refine O.mv ?_
      refine O.nil ?_
      refine hK22 _ _ ?_
      refine C.condF s3_1 ?_
      refine C.skip ?_
      refine hK21 _ _ ?_
      refine C.seqK fun K23 hK23 => ?_
      refine C.seqK fun K24 hK24 => ?_
      refine C.region ?_
      refine O.mv ?_
      refine O.nil ?_
      refine hK24 _ _ ?_
      refine C.condF s4_1 ?_
      refine C.skip ?_
      refine hK23 _ _ ?_
      refine C.seqK fun K25 hK25 => ?_
      refine C.region ?_
      refine O.mv ?_
      refine O.subA Tryd.underlying111 Tryd.sizeOf5 s12_1 (.inr ⟨_, _, rfl, rfl⟩) (.inl ⟨rfl, rfl⟩) (by simp; omega) ?_
      have h100 : Sl byteE w4 (fun k => k = b12) (.slice (some ⟨b12, 0 + ((65 : Int) - (k : Int) - 1).toNat * 1, none⟩) ((65 : Int).toNat - ((65 : Int) - (k : Int) - 1).toNat) (65 - ((65 : Int) - (k : Int) - 1).toNat)) (Hex.low (k + 1) u) := Hex.arr_sl (by omega) hs4
      refine O.bytesS Tryd.underlying68 Tryd.underlying5 Tryd.underlying9 rfl h100 ?_
      refine O.asg ?_
      refine O.nil ?_
      refine hK25 _ _ ?_
      refine C.ret ?_
      refine Outs.two rfl s10_1 rfl ?_
      exact ⟨k + 1, rfl, Hex.count_of (by omega) (by assumption) hm, (Ext.new (Ext.new e1 e_1 (by rintro i hi rfl; omega)) e4 (by rintro i hi rfl; omega))⟩

theorem fui_spec (u : BitVec 64) (w : World) (hT : Row byteE w (fun k => k = 6) 6 0 Hex.bruijn) :
    Ret Tryd.prog 46 #[.int .u64 ((u).toNat : Int), .int .i64 (16)] w (fun v w' => ∃ k, v = str (Hex.low k u) ∧ Hex.Count k u ∧ Le w w') := by
  refine enter (args := [.int .u64 ((u).toNat : Int), .int .i64 (16)]) (n := 32) Tryd.func46 rfl rfl (Nat.le_of_ble_eq_true rfl) ?_
  refine C.seqK fun K1 hK1 => ?_
  refine C.region ?_
  refine O.asg ?_
  refine O.nil ?_
  refine hK1 _ _ ?_
  refine C.seqK fun K2 hK2 => ?_
  refine C.seqK fun K3 hK3 => ?_
  refine C.region ?_
  refine O.mv ?_
  refine O.eqlI rfl rfl ?_
  refine O.cast (v' := .bool false) rfl ?_
  refine O.nil ?_
  refine hK3 _ _ ?_
  refine C.condF rfl ?_
  refine C.skip ?_
  refine hK2 _ _ ?_
  refine C.seqK fun K4 hK4 => ?_
  refine C.region ?_
  refine O.mv ?_
  refine O.mv ?_
  refine O.call Tryd.call67 (args5 rfl rfl rfl rfl rfl) (fbits_spec _ _ hT) ?_
  rintro v_28 w1 ⟨kv28, rfl, hcv28, e1⟩
  have z1 := e1.size
  refine O.mv ?_
  refine O.extract rfl rfl ?_
  refine O.extract rfl rfl ?_
  refine O.asg ?_
  refine O.asg ?_
  refine O.nil ?_
  refine hK4 _ _ ?_
  refine C.seqK fun K5 hK5 => ?_
  refine C.region ?_
  refine O.mv ?_
  refine O.asg ?_
  refine O.nil ?_
  refine hK5 _ _ ?_
  refine C.ret ?_
  refine Outs.one rfl rfl ?_
  exact ⟨_, rfl, hcv28, e1⟩

theorem fu_spec (u : BitVec 64) (w : World) (hT : Row byteE w (fun k => k = 6) 6 0 Hex.bruijn) :
    Ret Tryd.prog 39 #[.int .u64 ((u).toNat : Int), .int .i64 (16)] w (fun v w' => ∃ k, v = str (Hex.low k u) ∧ Hex.Count k u ∧ Le w w') := by
  refine enter (args := [.int .u64 ((u).toNat : Int), .int .i64 (16)]) (n := 8) Tryd.func39 rfl rfl (Nat.le_of_ble_eq_true rfl) ?_
  refine C.seqK fun K1 hK1 => ?_
  refine C.region ?_
  refine O.asg ?_
  refine O.nil ?_
  refine hK1 _ _ ?_
  refine C.seqK fun K2 hK2 => ?_
  refine C.region ?_
  refine O.mv ?_
  refine O.mv ?_
  refine O.call Tryd.call46 (args2 rfl rfl) (fui_spec _ _ hT) ?_
  rintro v_7 w1 ⟨kv7, rfl, hcv7, e1⟩
  have z1 := e1.size
  refine O.asg ?_
  refine O.nil ?_
  refine hK2 _ _ ?_
  refine C.ret ?_
  refine Outs.one rfl rfl ?_
  exact ⟨_, rfl, hcv7, e1⟩

theorem lower_spec (c : BitVec 8) (w : World) :
    Ret Tryd.prog 86 #[.int .u8 ((c).toNat : Int)] w (fun v w' => v = .int .u8 ((c ||| 32#8).toNat : Int) ∧ w' = w) := by
  refine enter (args := [.int .u8 ((c).toNat : Int)]) (n := 5) Tryd.func86 rfl rfl (Nat.le_of_ble_eq_true rfl) ?_
  refine C.seqK fun K1 hK1 => ?_
  refine C.region ?_
  refine O.asg ?_
  refine O.nil ?_
  refine hK1 _ _ ?_
  refine C.seqK fun K2 hK2 => ?_
  refine C.region ?_
  refine O.mv ?_
  refine O.orU (m := 8) (b := 32#8) rfl rfl rfl rfl ?_
  refine O.asg ?_
  refine O.nil ?_
  refine hK2 _ _ ?_
  refine C.ret ?_
  refine Outs.one rfl rfl ?_
  exact ⟨rfl, rfl⟩


theorem toErr_spec (fn s : List UInt8) (b bs c : Int) (es er : Value) (w : World) (hl : s.length ≤ 281474976710656) (hes : CellIs w 3 es) (her : CellIs w 4 er) (h1 : ∃ te pe, es = .iface te pe) (h2 : ∃ te pe, er = .iface te pe) (hc : c = 1 ∨ c = 2) :
    Ret Tryd.prog 74 #[str fn, str s, .int .i64 b, .int .i64 bs, .iface 116 (.int .i64 c)] w (fun v w' => ∃ y, v = .iface 119 y ∧ Le w w') := by
  have hsz : (ByteArray.mk s.toArray).size ≤ 281474976710656 := by simpa [ByteArray.size] using hl
  rcases hc with rfl | rfl
  · refine Ret.of (Tryd.strconv_toError_range ⟨fn.toArray⟩ ⟨s.toArray⟩ b bs er w hsz her (.inr h2)) ?_
    rintro e w' ⟨N, rfl, _, _, hb⟩
    exact ⟨_, rfl, _, rfl, Le.of_below hb (Nat.le_refl _)⟩
  · refine Ret.of (Tryd.strconv_toError_syntax ⟨fn.toArray⟩ ⟨s.toArray⟩ b bs es w hsz hes (.inr h1)) ?_
    rintro e w' ⟨N, rfl, _, _, hb⟩
    exact ⟨_, rfl, _, rfl, Le.of_below hb (Nat.le_refl _)⟩
theorem repeat_spec (s : List UInt8) (c : Int) (w : World) (h0 : 0 ≤ c) (h1 : s.length * c.toNat ≤ 140737488355328) (h2 : c ≤ 9223372036854775807) :
    Ret Tryd.prog 40 #[str s, .int .i64 c] w (fun v w' => v = str (Lib.repeatL s c.toNat) ∧ Le w w') := by
  obtain ⟨k, rfl⟩ := Int.eq_ofNat_of_zero_le h0
  refine Ret.of (Tryd.strings_Repeat ⟨s.toArray⟩ k w (by omega) (by simpa [ByteArray.size] using h1)) ?_
  rintro e w' ⟨rfl, hb⟩
  exact ⟨_, rfl, rfl, Le.of_below hb (Nat.le_refl _)⟩

set_option maxHeartbeats 1000000 in
theorem pui32_spec (l : List UInt8) (w : World) (hl : l.length ≤ maxLen) :
    Ret Tryd.prog 73 #[str (l), .int .i64 (16), .int .i64 (32)] w (fun v w' => ∃ (n : BitVec 64) (er : Value), v = .tuple #[.int .u64 (n.toNat : Int), er] ∧ ((Hex.parse 4294967295#64 l = some n ∧ er = .nilIface) ∨ (Hex.parse 4294967295#64 l = none ∧ ∃ c, er = .iface 116 (.int .i64 c) ∧ (c = 1 ∨ c = 2))) ∧ Le w w') := by
  have hl2 := hl
  unfold maxLen at hl2
  refine enter (args := [str (l), .int .i64 (16), .int .i64 (32)]) (n := 172) Tryd.func73 rfl rfl (Nat.le_of_ble_eq_true rfl) ?_
  refine C.seqK fun K1 hK1 => ?_
  refine C.region ?_
  refine O.asg ?_
  refine O.asg ?_
  refine O.nil ?_
  refine hK1 _ _ ?_
  refine C.seqK fun K2 hK2 => ?_
  refine C.seqK fun K3 hK3 => ?_
  refine C.region ?_
  refine O.mv ?_
  refine O.eqlS rfl rfl ?_
  refine O.nil ?_
  refine hK3 _ _ ?_
  refine C.condD rfl (fun c19 => ?_) (fun c19 => ?_)
  ·
    refine C.seqK fun K4 hK4 => ?_
    refine C.region ?_
    refine O.mkI Tryd.underlying116 rfl rfl ?_
    refine O.asg ?_
    refine O.asg ?_
    refine O.nil ?_
    refine hK4 _ _ ?_
    refine C.ret ?_
    refine Outs.two rfl rfl rfl ?_
    first
    | exact ⟨0#64, _, rfl, .inr ⟨by rw [c19]; rfl, _, rfl, .inr rfl⟩, (Le.refl _)⟩
    | exact ⟨0#64, _, rfl, .inr ⟨Hex.from_none hk2 hp hc (by first | exact Hex.more_bad c112 c121 | exact Hex.more_ge (Hex.val_dig c112) c137 | exact Hex.more_ge (Hex.val_let c112 c121) c137 | exact Hex.more_cut (Hex.val_dig c112) c141 | exact Hex.more_cut (Hex.val_let c112 c121) c141 | exact Hex.more_o1 (Hex.val_dig c112) c155 | exact Hex.more_o1 (Hex.val_let c112 c121) c155 | exact Hex.more_o2 (Hex.val_dig c112) c159 | exact Hex.more_o2 (Hex.val_let c112 c121) c159) c19, _, rfl, by first | exact .inl rfl | exact .inr rfl⟩, (Le.refl _)⟩
    | exact ⟨4294967295#64, _, rfl, .inr ⟨Hex.from_none hk2 hp hc (by first | exact Hex.more_bad c112 c121 | exact Hex.more_ge (Hex.val_dig c112) c137 | exact Hex.more_ge (Hex.val_let c112 c121) c137 | exact Hex.more_cut (Hex.val_dig c112) c141 | exact Hex.more_cut (Hex.val_let c112 c121) c141 | exact Hex.more_o1 (Hex.val_dig c112) c155 | exact Hex.more_o1 (Hex.val_let c112 c121) c155 | exact Hex.more_o2 (Hex.val_dig c112) c159 | exact Hex.more_o2 (Hex.val_let c112 c121) c159) c19, _, rfl, by first | exact .inl rfl | exact .inr rfl⟩, (Le.refl _)⟩
    | exact ⟨m, _, rfl, .inl ⟨Hex.from_end (by omega) hp c19, rfl⟩, (Le.refl _)⟩
  ·
    refine C.skip ?_
    refine hK2 _ _ ?_
    refine C.seqK fun K5 hK5 => ?_
    refine C.region ?_
    refine O.mv ?_
    refine O.eqlI rfl rfl ?_
    refine O.cast (v' := .bool false) rfl ?_
    refine O.asg ?_
    refine O.nil ?_
    refine hK5 _ _ ?_
    refine C.seqK fun K6 hK6 => ?_
    refine C.region ?_
    refine O.mv ?_
    refine O.asg ?_
    refine O.nil ?_
    refine hK6 _ _ ?_
    refine C.seqK fun K7 hK7 => ?_
    refine C.block fun K8 hK8 => ?_
    refine C.seqK fun K9 hK9 => ?_
    refine C.region ?_
    refine O.mv ?_
    refine O.leqI rfl rfl ?_
    refine O.cast (v' := .bool true) rfl ?_
    refine O.mv ?_
    refine O.yes rfl rfl ?_
    refine O.mv ?_
    refine O.yes rfl rfl ?_
    refine O.leqI rfl rfl ?_
    refine O.cast (v' := .bool true) rfl ?_
    refine O.pickT rfl ?_
    refine O.asg ?_
    refine O.nil ?_
    refine hK9 _ _ ?_
    refine C.condT rfl ?_
    refine C.skip ?_
    refine hK8 _ _ ?_
    refine hK7 _ _ ?_
    refine C.seqK fun K10 hK10 => ?_
    refine C.seqK fun K11 hK11 => ?_
    refine C.region ?_
    refine O.mv ?_
    refine O.eqlI rfl rfl ?_
    refine O.cast (v' := .bool false) rfl ?_
    refine O.nil ?_
    refine hK11 _ _ ?_
    refine C.condF rfl ?_
    refine C.seqK fun K12 hK12 => ?_
    refine C.region ?_
    refine O.mv ?_
    refine O.lssI rfl rfl ?_
    refine O.cast (v' := .bool false) rfl ?_
    refine O.mv ?_
    refine O.yes rfl rfl ?_
    refine O.mv ?_
    refine O.yes rfl rfl ?_
    refine O.gtrI rfl rfl ?_
    refine O.cast (v' := .bool false) rfl ?_
    refine O.pickF rfl ?_
    refine O.nil ?_
    refine hK12 _ _ ?_
    refine C.condF rfl ?_
    refine C.skip ?_
    refine hK10 _ _ ?_
    refine C.seqK fun K13 hK13 => ?_
    refine C.region ?_
    refine O.asg ?_
    refine O.nil ?_
    refine hK13 _ _ ?_
    refine C.seqK fun K14 hK14 => ?_
    refine C.seqK fun K15 hK15 => ?_
    refine C.region ?_
    refine O.mv ?_
    refine O.nil ?_
    refine hK15 _ _ ?_
    refine C.block fun K16 hK16 => ?_
    refine C.seqK fun K17 hK17 => ?_
    refine C.region ?_
    refine O.eqlI rfl rfl ?_
    refine O.cast (v' := .bool false) rfl ?_
    refine O.asg ?_
    refine O.nil ?_
    refine hK17 _ _ ?_
    refine C.condF rfl ?_
    refine C.seqK fun K18 hK18 => ?_
    refine C.region ?_
    refine O.eqlI rfl rfl ?_
    refine O.cast (v' := .bool true) rfl ?_
    refine O.asg ?_
    refine O.nil ?_
    refine hK18 _ _ ?_
    refine C.condT rfl ?_
    refine C.region ?_
    refine O.asg ?_
    refine O.nil ?_
    refine hK16 _ _ ?_
    refine hK14 _ _ ?_
    refine C.seqK fun K19 hK19 => ?_
    refine C.region ?_
    refine O.mv ?_
    refine O.convIU (m' := 64) Tryd.underlying3 Tryd.underlying63 rfl rfl rfl ?_
    refine O.cast (v' := .int .u64 ((32#64).toNat : Int)) rfl ?_
    refine O.shlU (m := 64) (a := 1#64) (c := 32) rfl rfl rfl rfl ?_
    refine O.cast (v' := .int .u64 ((4294967296#64).toNat : Int)) rfl ?_
    refine O.subU (m := 64) (a := 4294967296#64) (b := 1#64) rfl rfl rfl rfl ?_
    refine O.cast (v' := .int .u64 ((4294967295#64).toNat : Int)) rfl ?_
    refine O.asg ?_
    refine O.nil ?_
    refine hK19 _ _ ?_
    refine C.seqK fun K20 hK20 => ?_
    refine C.region ?_
    refine O.asg ?_
    refine O.nil ?_
    refine hK20 _ _ ?_
    refine C.seqK fun K21 hK21 => ?_
    refine C.region ?_
    refine O.asg ?_
    refine O.nil ?_
    refine hK21 _ _ ?_
    refine C.seqK fun K22 hK22 => ?_
    refine C.seqK fun K23 hK23 => ?_
    refine C.region ?_
    refine O.mv ?_
    refine O.strB Tryd.underlying9 Tryd.underlying68 Tryd.underlying5 rfl hl (fun b99 cap99 w1 hb99 hc99 h99 hs99 e1 => ?_)
    have z1 := e1.size
    refine O.len Tryd.underlying68 rfl hs99 ?_
    refine O.mv ?_
    refine O.nil ?_
    refine hK23 _ _ ?_
    refine C.block fun K24 hK24 => ?_
    refine C.loop0 (σ := Nat × BitVec 64) (fun f0 w0 ⟨k, m⟩ f w => f 13 = .int .u64 ((m).toNat : Int) ∧ f 101 = .int .i64 (k) ∧ f 12 = .bool (false) ∧ f 1 = f0 1 ∧ f 8 = f0 8 ∧ f 9 = f0 9 ∧ f 10 = f0 10 ∧ f 11 = f0 11 ∧ f 99 = f0 99 ∧ f 100 = f0 100 ∧ w = w0 ∧ k ≤ l.length ∧ Hex.parseFrom 4294967295#64 0#64 l = Hex.parseFrom 4294967295#64 m (l.drop k)) (fun ⟨k, m⟩ => l.length - k) (0, 0#64) ?_ ?_
    ·
      refine ⟨rfl, rfl, rfl, rfl, rfl, rfl, rfl, rfl, rfl, rfl, rfl, ?_⟩
      exact ⟨Nat.zero_le _, rfl⟩
    ·
      rintro ⟨k, m⟩ f_1 wx ⟨s13_1, s101_1, s12_1, s1_1, s8_1, s9_1, s10_1, s11_1, s99_1, s100_1, rfl, ⟨hk, hp⟩⟩
      refine C.seqK fun K25 hK25 => ?_
      refine C.region ?_
      refine O.lssI s101_1 s100_1 ?_
      refine O.nil ?_
      refine hK25 _ _ ?_
      refine C.seqK fun K26 hK26 => ?_
      refine C.condD rfl (fun c102 => ?_) (fun c102 => ?_)
      ·
        have hk2 : k < l.length := by omega
        obtain ⟨c, hc⟩ : ∃ c : BitVec 8, c = (l[k]'hk2).toBitVec := ⟨_, rfl⟩
        refine C.skip ?_
        refine hK26 _ _ ?_
        refine C.seqK fun K27 hK27 => ?_
        refine C.block fun K28 hK28 => ?_
        refine C.seqK fun K29 hK29 => ?_
        refine C.region ?_
        refine O.idx Tryd.underlying68 Tryd.sizeOf5 rfl s99_1 hs99 s101_1 (by omega) (fun a103 h103 => ?_)
        refine O.loadB Tryd.isAgg5 rfl h103 ?_
        refine O.cast (v' := .int .u8 (c.toNat : Int)) (by rw [hc]; rfl) ?_
        refine O.asg ?_
        refine O.nil ?_
        refine hK29 _ _ ?_
        refine C.seqK fun K30 hK30 => ?_
        refine C.region ?_
        refine O.asg ?_
        refine O.nil ?_
        refine hK30 _ _ ?_
        refine C.seqK fun K31 hK31 => ?_
        refine C.block fun K32 hK32 => ?_
        refine C.seqK fun K33 hK33 => ?_
        refine C.region ?_
        refine O.mv ?_
        refine O.eqlU (m := 8) (b := 95#8) rfl rfl ?_
        refine O.mv ?_
        refine O.cut 2 (fun f f' => f' 111 = .bool false ∧ f' 1 = f 1 ∧ f' 8 = f 8 ∧ f' 9 = f 9 ∧ f' 10 = f 10 ∧ f' 11 = f 11 ∧ f' 12 = f 12 ∧ f' 13 = f 13 ∧ f' 15 = f 15 ∧ f' 16 = f 16 ∧ f' 99 = f 99 ∧ f' 100 = f 100 ∧ f' 101 = f 101) ?_ ?_
        ·
          refine O.splitD (x := .tmp 109) rfl (fun c109 => ?_) (fun c109 => ?_)
          ·
            refine O.yes rfl (isT rfl c109) ?_
            refine O.mv ?_
            refine O.pickT (isT rfl c109) ?_
            refine O.nil ?_
            refine ⟨⟨?_, rfl, rfl, rfl, rfl, rfl, rfl, rfl, rfl, rfl, rfl, rfl, rfl⟩, rfl⟩
            first | exact s8_1 | exact Eq.trans s8_1 (congrArg Value.bool (dAnd (by assumption))) | exact Eq.trans s8_1 (congrArg Value.bool (dAndF (by assumption))) | exact Eq.trans s8_1 (congrArg Value.bool (dOr (by assumption))) | exact Eq.trans s8_1 (congrArg Value.bool (dOrT (by assumption)))
          ·
            refine O.no rfl (noB (isF rfl c109) rfl) ?_
            refine O.pickF (isF rfl c109) ?_
            refine O.nil ?_
            refine ⟨⟨?_, rfl, rfl, rfl, rfl, rfl, rfl, rfl, rfl, rfl, rfl, rfl, rfl⟩, rfl⟩
            first | exact rfl | exact Eq.trans rfl (congrArg Value.bool (dAnd (by assumption))) | exact Eq.trans rfl (congrArg Value.bool (dAndF (by assumption))) | exact Eq.trans rfl (congrArg Value.bool (dOr (by assumption))) | exact Eq.trans rfl (congrArg Value.bool (dOrT (by assumption)))
        ·
          rintro f_2 ⟨s111_2, s1_2, s8_2, s9_2, s10_2, s11_2, s12_2, s13_2, s15_2, s16_2, s99_2, s100_2, s101_2⟩
          refine O.asg ?_
          refine O.nil ?_
          refine hK33 _ _ ?_
          refine C.condF s111_2 ?_
          refine C.seqK fun K34 hK34 => ?_
          refine C.region ?_
          refine O.mv ?_
          refine O.leqU (m := 8) (a := 48#8) rfl s15_2 ?_
          refine O.mv ?_
          refine O.cut 3 (fun f f' => f' 118 = .bool (decide (48#8 ≤ c ∧ c ≤ 57#8)) ∧ f' 1 = f 1 ∧ f' 8 = f 8 ∧ f' 9 = f 9 ∧ f' 10 = f 10 ∧ f' 11 = f 11 ∧ f' 12 = f 12 ∧ f' 13 = f 13 ∧ f' 15 = f 15 ∧ f' 16 = f 16 ∧ f' 99 = f 99 ∧ f' 100 = f 100 ∧ f' 101 = f 101) ?_ ?_
          ·
            refine O.splitD (x := .tmp 115) rfl (fun c115 => ?_) (fun c115 => ?_)
            ·
              refine O.yes rfl (isT rfl c115) ?_
              refine O.mv ?_
              refine O.yes rfl (isT rfl c115) ?_
              refine O.leqU (m := 8) (b := 57#8) s15_2 rfl ?_
              refine O.pickT (isT rfl c115) ?_
              refine O.nil ?_
              refine ⟨⟨?_, rfl, rfl, rfl, rfl, rfl, rfl, rfl, rfl, rfl, rfl, rfl, rfl⟩, rfl⟩
              first | exact rfl | exact Eq.trans rfl (congrArg Value.bool (dAnd (by assumption))) | exact Eq.trans rfl (congrArg Value.bool (dAndF (by assumption))) | exact Eq.trans rfl (congrArg Value.bool (dOr (by assumption))) | exact Eq.trans rfl (congrArg Value.bool (dOrT (by assumption)))
            ·
              refine O.no rfl (noB (isF rfl c115) rfl) ?_
              refine O.no rfl (noB (isF rfl c115) rfl) ?_
              refine O.pickF (isF rfl c115) ?_
              refine O.nil ?_
              refine ⟨⟨?_, rfl, rfl, rfl, rfl, rfl, rfl, rfl, rfl, rfl, rfl, rfl, rfl⟩, rfl⟩
              first | exact rfl | exact Eq.trans rfl (congrArg Value.bool (dAnd (by assumption))) | exact Eq.trans rfl (congrArg Value.bool (dAndF (by assumption))) | exact Eq.trans rfl (congrArg Value.bool (dOr (by assumption))) | exact Eq.trans rfl (congrArg Value.bool (dOrT (by assumption)))
          ·
            rintro f_3 ⟨s118_3, s1_3, s8_3, s9_3, s10_3, s11_3, s12_3, s13_3, s15_3, s16_3, s99_3, s100_3, s101_3⟩
            refine O.asg ?_
            refine O.nil ?_
            refine hK34 _ _ ?_
            refine C.condD s118_3 (fun c112 => ?_) (fun c112 => ?_)
            ·
              refine C.region ?_
              refine O.mv ?_
              refine O.subU (m := 8) (b := 48#8) rfl rfl (Eq.trans s15_3 s15_2) rfl ?_
              refine O.asg ?_
              refine O.nil ?_
              refine hK32 _ _ ?_
              refine hK31 _ _ ?_
              refine C.seqK fun K35 hK35 => ?_
              refine C.seqK fun K36 hK36 => ?_
              refine C.region ?_
              refine O.mv ?_
              refine O.mv ?_
              refine O.convIU (m' := 8) Tryd.underlying3 Tryd.underlying5 rfl rfl (Eq.trans s1_3 (Eq.trans s1_2 s1_1)) ?_
              refine O.cast (v' := .int .u8 ((16#8).toNat : Int)) rfl ?_
              refine O.geqU (m := 8) (b := 16#8) rfl rfl ?_
              refine O.nil ?_
              refine hK36 _ _ ?_
              refine C.condD rfl (fun c137 => ?_) (fun c137 => ?_)
              ·
                refine C.seqK fun K37 hK37 => ?_
                refine C.region ?_
                refine O.mkI Tryd.underlying116 rfl rfl ?_
                refine O.asg ?_
                refine O.asg ?_
                refine O.nil ?_
                refine hK37 _ _ ?_
                refine C.ret ?_
                refine Outs.two rfl rfl rfl ?_
                first
                | exact ⟨0#64, _, rfl, .inr ⟨by rw [c19]; rfl, _, rfl, .inr rfl⟩, e1⟩
                | exact ⟨0#64, _, rfl, .inr ⟨Hex.from_none hk2 hp hc (by first | exact Hex.more_bad c112 c121 | exact Hex.more_ge (Hex.val_dig c112) c137 | exact Hex.more_ge (Hex.val_let c112 c121) c137 | exact Hex.more_cut (Hex.val_dig c112) c141 | exact Hex.more_cut (Hex.val_let c112 c121) c141 | exact Hex.more_o1 (Hex.val_dig c112) c155 | exact Hex.more_o1 (Hex.val_let c112 c121) c155 | exact Hex.more_o2 (Hex.val_dig c112) c159 | exact Hex.more_o2 (Hex.val_let c112 c121) c159) c19, _, rfl, by first | exact .inl rfl | exact .inr rfl⟩, e1⟩
                | exact ⟨4294967295#64, _, rfl, .inr ⟨Hex.from_none hk2 hp hc (by first | exact Hex.more_bad c112 c121 | exact Hex.more_ge (Hex.val_dig c112) c137 | exact Hex.more_ge (Hex.val_let c112 c121) c137 | exact Hex.more_cut (Hex.val_dig c112) c141 | exact Hex.more_cut (Hex.val_let c112 c121) c141 | exact Hex.more_o1 (Hex.val_dig c112) c155 | exact Hex.more_o1 (Hex.val_let c112 c121) c155 | exact Hex.more_o2 (Hex.val_dig c112) c159 | exact Hex.more_o2 (Hex.val_let c112 c121) c159) c19, _, rfl, by first | exact .inl rfl | exact .inr rfl⟩, e1⟩
                | exact ⟨m, _, rfl, .inl ⟨Hex.from_end (by omega) hp c19, rfl⟩, e1⟩
              ·
                refine C.skip ?_
                refine hK35 _ _ ?_
                refine C.seqK fun K38 hK38 => ?_
                refine C.seqK fun K39 hK39 => ?_
                refine C.region ?_
                refine O.mv ?_
                refine O.mv ?_
                refine O.geqU (m := 64) (b := 1152921504606846976#64) (Eq.trans s13_3 (Eq.trans s13_2 s13_1)) (Eq.trans s10_3 (Eq.trans s10_2 s10_1)) ?_
                refine O.nil ?_
                refine hK39 _ _ ?_
                refine C.condD rfl (fun c141 => ?_) (fun c141 => ?_)
                ·
                  refine C.seqK fun K40 hK40 => ?_
                  refine C.region ?_
                  refine O.mv ?_
                  refine O.mkI Tryd.underlying116 rfl rfl ?_
                  refine O.asg ?_
                  refine O.asg ?_
                  refine O.nil ?_
                  refine hK40 _ _ ?_
                  refine C.ret ?_
                  refine Outs.two rfl (Eq.trans s11_3 (Eq.trans s11_2 s11_1)) rfl ?_
                  first
                  | exact ⟨0#64, _, rfl, .inr ⟨by rw [c19]; rfl, _, rfl, .inr rfl⟩, e1⟩
                  | exact ⟨0#64, _, rfl, .inr ⟨Hex.from_none hk2 hp hc (by first | exact Hex.more_bad c112 c121 | exact Hex.more_ge (Hex.val_dig c112) c137 | exact Hex.more_ge (Hex.val_let c112 c121) c137 | exact Hex.more_cut (Hex.val_dig c112) c141 | exact Hex.more_cut (Hex.val_let c112 c121) c141 | exact Hex.more_o1 (Hex.val_dig c112) c155 | exact Hex.more_o1 (Hex.val_let c112 c121) c155 | exact Hex.more_o2 (Hex.val_dig c112) c159 | exact Hex.more_o2 (Hex.val_let c112 c121) c159) c19, _, rfl, by first | exact .inl rfl | exact .inr rfl⟩, e1⟩
                  | exact ⟨4294967295#64, _, rfl, .inr ⟨Hex.from_none hk2 hp hc (by first | exact Hex.more_bad c112 c121 | exact Hex.more_ge (Hex.val_dig c112) c137 | exact Hex.more_ge (Hex.val_let c112 c121) c137 | exact Hex.more_cut (Hex.val_dig c112) c141 | exact Hex.more_cut (Hex.val_let c112 c121) c141 | exact Hex.more_o1 (Hex.val_dig c112) c155 | exact Hex.more_o1 (Hex.val_let c112 c121) c155 | exact Hex.more_o2 (Hex.val_dig c112) c159 | exact Hex.more_o2 (Hex.val_let c112 c121) c159) c19, _, rfl, by first | exact .inl rfl | exact .inr rfl⟩, e1⟩
                  | exact ⟨m, _, rfl, .inl ⟨Hex.from_end (by omega) hp c19, rfl⟩, e1⟩
                ·
                  refine C.skip ?_
                  refine hK38 _ _ ?_
                  refine C.seqK fun K41 hK41 => ?_
                  refine C.region ?_
                  refine O.mv ?_
                  refine O.mv ?_
                  refine O.convIU (m' := 64) Tryd.underlying3 Tryd.underlying22 rfl rfl (Eq.trans s1_3 (Eq.trans s1_2 s1_1)) ?_
                  refine O.cast (v' := .int .u64 ((16#64).toNat : Int)) rfl ?_
                  refine O.mulU (m := 64) (b := 16#64) rfl rfl (Eq.trans s13_3 (Eq.trans s13_2 s13_1)) rfl ?_
                  refine O.asg ?_
                  refine O.nil ?_
                  refine hK41 _ _ ?_
                  refine C.seqK fun K42 hK42 => ?_
                  refine C.region ?_
                  refine O.mv ?_
                  refine O.mv ?_
                  refine O.convUU (m := 8) (m' := 64) Tryd.underlying5 Tryd.underlying22 rfl rfl rfl ?_
                  refine O.addU (m := 64) rfl rfl rfl rfl ?_
                  refine O.asg ?_
                  refine O.nil ?_
                  refine hK42 _ _ ?_
                  refine C.seqK fun K43 hK43 => ?_
                  refine C.seqK fun K44 hK44 => ?_
                  refine C.region ?_
                  refine O.mv ?_
                  refine O.mv ?_
                  refine O.lssU (m := 64) rfl rfl ?_
                  refine O.mv ?_
                  refine O.splitD (x := .tmp 155) rfl (fun c155 => ?_) (fun c155 => ?_)
                  ·
                    refine O.no rfl (noB (isT rfl c155) rfl) ?_
                    refine O.no rfl (noB (isT rfl c155) rfl) ?_
                    refine O.no rfl (noB (isT rfl c155) rfl) ?_
                    refine O.pickT (isT rfl c155) ?_
                    refine O.nil ?_
                    refine hK44 _ _ ?_
                    refine C.condT rfl ?_
                    refine C.seqK fun K45 hK45 => ?_
                    refine C.region ?_
                    refine O.mv ?_
                    refine O.mkI Tryd.underlying116 rfl rfl ?_
                    refine O.asg ?_
                    refine O.asg ?_
                    refine O.nil ?_
                    refine hK45 _ _ ?_
                    refine C.ret ?_
                    refine Outs.two rfl (Eq.trans s11_3 (Eq.trans s11_2 s11_1)) rfl ?_
                    first
                    | exact ⟨0#64, _, rfl, .inr ⟨by rw [c19]; rfl, _, rfl, .inr rfl⟩, e1⟩
                    | exact ⟨0#64, _, rfl, .inr ⟨Hex.from_none hk2 hp hc (by first | exact Hex.more_bad c112 c121 | exact Hex.more_ge (Hex.val_dig c112) c137 | exact Hex.more_ge (Hex.val_let c112 c121) c137 | exact Hex.more_cut (Hex.val_dig c112) c141 | exact Hex.more_cut (Hex.val_let c112 c121) c141 | exact Hex.more_o1 (Hex.val_dig c112) c155 | exact Hex.more_o1 (Hex.val_let c112 c121) c155 | exact Hex.more_o2 (Hex.val_dig c112) c159 | exact Hex.more_o2 (Hex.val_let c112 c121) c159) c19, _, rfl, by first | exact .inl rfl | exact .inr rfl⟩, e1⟩
                    | exact ⟨4294967295#64, _, rfl, .inr ⟨Hex.from_none hk2 hp hc (by first | exact Hex.more_bad c112 c121 | exact Hex.more_ge (Hex.val_dig c112) c137 | exact Hex.more_ge (Hex.val_let c112 c121) c137 | exact Hex.more_cut (Hex.val_dig c112) c141 | exact Hex.more_cut (Hex.val_let c112 c121) c141 | exact Hex.more_o1 (Hex.val_dig c112) c155 | exact Hex.more_o1 (Hex.val_let c112 c121) c155 | exact Hex.more_o2 (Hex.val_dig c112) c159 | exact Hex.more_o2 (Hex.val_let c112 c121) c159) c19, _, rfl, by first | exact .inl rfl | exact .inr rfl⟩, e1⟩
                    | exact ⟨m, _, rfl, .inl ⟨Hex.from_end (by omega) hp c19, rfl⟩, e1⟩
                  ·
                    refine O.yes rfl (isF rfl c155) ?_
                    refine O.mv ?_
                    refine O.yes rfl (isF rfl c155) ?_
                    refine O.mv ?_
                    refine O.yes rfl (isF rfl c155) ?_
                    refine O.gtrU (m := 64) (b := 4294967295#64) rfl (Eq.trans s11_3 (Eq.trans s11_2 s11_1)) ?_
                    refine O.pickF (isF rfl c155) ?_
                    refine O.nil ?_
                    refine hK44 _ _ ?_
                    refine C.condD rfl (fun c159 => ?_) (fun c159 => ?_)
                    ·
                      refine C.seqK fun K46 hK46 => ?_
                      refine C.region ?_
                      refine O.mv ?_
                      refine O.mkI Tryd.underlying116 rfl rfl ?_
                      refine O.asg ?_
                      refine O.asg ?_
                      refine O.nil ?_
                      refine hK46 _ _ ?_
                      refine C.ret ?_
                      refine Outs.two rfl (Eq.trans s11_3 (Eq.trans s11_2 s11_1)) rfl ?_
                      first
                      | exact ⟨0#64, _, rfl, .inr ⟨by rw [c19]; rfl, _, rfl, .inr rfl⟩, e1⟩
                      | exact ⟨0#64, _, rfl, .inr ⟨Hex.from_none hk2 hp hc (by first | exact Hex.more_bad c112 c121 | exact Hex.more_ge (Hex.val_dig c112) c137 | exact Hex.more_ge (Hex.val_let c112 c121) c137 | exact Hex.more_cut (Hex.val_dig c112) c141 | exact Hex.more_cut (Hex.val_let c112 c121) c141 | exact Hex.more_o1 (Hex.val_dig c112) c155 | exact Hex.more_o1 (Hex.val_let c112 c121) c155 | exact Hex.more_o2 (Hex.val_dig c112) c159 | exact Hex.more_o2 (Hex.val_let c112 c121) c159) c19, _, rfl, by first | exact .inl rfl | exact .inr rfl⟩, e1⟩
                      | exact ⟨4294967295#64, _, rfl, .inr ⟨Hex.from_none hk2 hp hc (by first | exact Hex.more_bad c112 c121 | exact Hex.more_ge (Hex.val_dig c112) c137 | exact Hex.more_ge (Hex.val_let c112 c121) c137 | exact Hex.more_cut (Hex.val_dig c112) c141 | exact Hex.more_cut (Hex.val_let c112 c121) c141 | exact Hex.more_o1 (Hex.val_dig c112) c155 | exact Hex.more_o1 (Hex.val_let c112 c121) c155 | exact Hex.more_o2 (Hex.val_dig c112) c159 | exact Hex.more_o2 (Hex.val_let c112 c121) c159) c19, _, rfl, by first | exact .inl rfl | exact .inr rfl⟩, e1⟩
                      | exact ⟨m, _, rfl, .inl ⟨Hex.from_end (by omega) hp c19, rfl⟩, e1⟩
                    ·
                      refine C.skip ?_
                      refine hK43 _ _ ?_
                      refine C.region ?_
                      refine O.mv ?_
                      refine O.asg ?_
                      refine O.nil ?_
                      refine hK28 _ _ ?_
                      refine hK27 _ _ ?_
                      refine C.region ?_
                      refine O.addI (Eq.trans s101_3 (Eq.trans s101_2 s101_1)) rfl (by unfold InI; omega) ?_
                      refine O.mv ?_
                      refine O.nil ?_
                      refine ⟨(k + 1, _), ⟨rfl, rfl, (Eq.trans s12_3 (Eq.trans s12_2 s12_1)), (Eq.trans s1_3 (Eq.trans s1_2 s1_1)), (Eq.trans s8_3 (Eq.trans s8_2 s8_1)), (Eq.trans s9_3 (Eq.trans s9_2 s9_1)), (Eq.trans s10_3 (Eq.trans s10_2 s10_1)), (Eq.trans s11_3 (Eq.trans s11_2 s11_1)), (Eq.trans s99_3 (Eq.trans s99_2 s99_1)), (Eq.trans s100_3 (Eq.trans s100_2 s100_1)), rfl, ?_⟩, by first | omega | (simp only []; omega)⟩
                      refine ⟨by omega, ?_⟩
                      refine Hex.from_some hk2 hp hc ?_
                      first | exact Hex.more_ok (Hex.val_dig c112) c137 c141 c155 c159 | exact Hex.more_ok (Hex.val_let c112 c121) c137 c141 c155 c159
            ·
              refine C.seqK fun K47 hK47 => ?_
              refine C.region ?_
              refine O.mv ?_
              refine O.call Tryd.call86 (args1 (Eq.trans s15_3 s15_2)) (lower_spec _ _) ?_
              rintro v_123 w2 ⟨rfl, hw_⟩
              replace hw_ := hw_.symm
              subst hw_
              refine O.leqU (m := 8) (a := 97#8) rfl rfl ?_
              refine O.mv ?_
              refine O.cut 4 (fun f f' => f' 129 = .bool (decide (97#8 ≤ c ||| 32#8 ∧ c ||| 32#8 ≤ 122#8)) ∧ f' 1 = f 1 ∧ f' 8 = f 8 ∧ f' 9 = f 9 ∧ f' 10 = f 10 ∧ f' 11 = f 11 ∧ f' 12 = f 12 ∧ f' 13 = f 13 ∧ f' 15 = f 15 ∧ f' 16 = f 16 ∧ f' 99 = f 99 ∧ f' 100 = f 100 ∧ f' 101 = f 101) ?_ ?_
              ·
                refine O.splitD (x := .tmp 125) rfl (fun c125 => ?_) (fun c125 => ?_)
                ·
                  refine O.yes rfl (isT rfl c125) ?_
                  refine O.mv ?_
                  refine O.yes rfl (isT rfl c125) ?_
                  refine O.call Tryd.call86 (args1 (Eq.trans s15_3 s15_2)) (lower_spec _ _) ?_
                  rintro v_127 w2 ⟨rfl, hw_⟩
                  replace hw_ := hw_.symm
                  subst hw_
                  refine O.yes rfl (isT rfl c125) ?_
                  refine O.leqU (m := 8) (b := 122#8) rfl rfl ?_
                  refine O.pickT (isT rfl c125) ?_
                  refine O.nil ?_
                  refine ⟨⟨?_, rfl, rfl, rfl, rfl, rfl, rfl, rfl, rfl, rfl, rfl, rfl, rfl⟩, rfl⟩
                  first | exact rfl | exact Eq.trans rfl (congrArg Value.bool (dAnd (by assumption))) | exact Eq.trans rfl (congrArg Value.bool (dAndF (by assumption))) | exact Eq.trans rfl (congrArg Value.bool (dOr (by assumption))) | exact Eq.trans rfl (congrArg Value.bool (dOrT (by assumption)))
                ·
                  refine O.no rfl (noB (isF rfl c125) rfl) ?_
                  refine O.no rfl (noB (isF rfl c125) rfl) ?_
                  refine O.no rfl (noB (isF rfl c125) rfl) ?_
                  refine O.pickF (isF rfl c125) ?_
                  refine O.nil ?_
                  refine ⟨⟨?_, rfl, rfl, rfl, rfl, rfl, rfl, rfl, rfl, rfl, rfl, rfl, rfl⟩, rfl⟩
                  first | exact rfl | exact Eq.trans rfl (congrArg Value.bool (dAnd (by assumption))) | exact Eq.trans rfl (congrArg Value.bool (dAndF (by assumption))) | exact Eq.trans rfl (congrArg Value.bool (dOr (by assumption))) | exact Eq.trans rfl (congrArg Value.bool (dOrT (by assumption)))
              ·
                rintro f_4 ⟨s129_4, s1_4, s8_4, s9_4, s10_4, s11_4, s12_4, s13_4, s15_4, s16_4, s99_4, s100_4, s101_4⟩
                refine O.asg ?_
                refine O.nil ?_
                refine hK47 _ _ ?_
                refine C.condD s129_4 (fun c121 => ?_) (fun c121 => ?_)
                ·
                  refine C.region ?_
                  refine O.mv ?_
                  refine O.call Tryd.call86 (args1 (Eq.trans s15_4 (Eq.trans s15_3 s15_2))) (lower_spec _ _) ?_
                  rintro v_131 w2 ⟨rfl, hw_⟩
                  replace hw_ := hw_.symm
                  subst hw_
                  refine O.subU (m := 8) (b := 97#8) rfl rfl rfl rfl ?_
                  refine O.addU (m := 8) (b := 10#8) rfl rfl rfl rfl ?_
                  refine O.asg ?_
                  refine O.nil ?_
                  refine hK32 _ _ ?_
                  refine hK31 _ _ ?_
                  refine C.seqK fun K48 hK48 => ?_
                  refine C.seqK fun K49 hK49 => ?_
                  refine C.region ?_
                  refine O.mv ?_
                  refine O.mv ?_
                  refine O.convIU (m' := 8) Tryd.underlying3 Tryd.underlying5 rfl rfl (Eq.trans s1_4 (Eq.trans s1_3 (Eq.trans s1_2 s1_1))) ?_
                  refine O.cast (v' := .int .u8 ((16#8).toNat : Int)) rfl ?_
                  refine O.geqU (m := 8) (b := 16#8) rfl rfl ?_
                  refine O.nil ?_
                  refine hK49 _ _ ?_
                  refine C.condD rfl (fun c137 => ?_) (fun c137 => ?_)
                  ·
                    refine C.seqK fun K50 hK50 => ?_
                    refine C.region ?_
                    refine O.mkI Tryd.underlying116 rfl rfl ?_
                    refine O.asg ?_
                    refine O.asg ?_
                    refine O.nil ?_
                    refine hK50 _ _ ?_
                    refine C.ret ?_
                    refine Outs.two rfl rfl rfl ?_
                    first
                    | exact ⟨0#64, _, rfl, .inr ⟨by rw [c19]; rfl, _, rfl, .inr rfl⟩, e1⟩
                    | exact ⟨0#64, _, rfl, .inr ⟨Hex.from_none hk2 hp hc (by first | exact Hex.more_bad c112 c121 | exact Hex.more_ge (Hex.val_dig c112) c137 | exact Hex.more_ge (Hex.val_let c112 c121) c137 | exact Hex.more_cut (Hex.val_dig c112) c141 | exact Hex.more_cut (Hex.val_let c112 c121) c141 | exact Hex.more_o1 (Hex.val_dig c112) c155 | exact Hex.more_o1 (Hex.val_let c112 c121) c155 | exact Hex.more_o2 (Hex.val_dig c112) c159 | exact Hex.more_o2 (Hex.val_let c112 c121) c159) c19, _, rfl, by first | exact .inl rfl | exact .inr rfl⟩, e1⟩
                    | exact ⟨4294967295#64, _, rfl, .inr ⟨Hex.from_none hk2 hp hc (by first | exact Hex.more_bad c112 c121 | exact Hex.more_ge (Hex.val_dig c112) c137 | exact Hex.more_ge (Hex.val_let c112 c121) c137 | exact Hex.more_cut (Hex.val_dig c112) c141 | exact Hex.more_cut (Hex.val_let c112 c121) c141 | exact Hex.more_o1 (Hex.val_dig c112) c155 | exact Hex.more_o1 (Hex.val_let c112 c121) c155 | exact Hex.more_o2 (Hex.val_dig c112) c159 | exact Hex.more_o2 (Hex.val_let c112 c121) c159) c19, _, rfl, by first | exact .inl rfl | exact .inr rfl⟩, e1⟩
                    | exact ⟨m, _, rfl, .inl ⟨Hex.from_end (by omega) hp c19, rfl⟩, e1⟩
                  ·
                    refine C.skip ?_
                    refine hK48 _ _ ?_
                    refine C.seqK fun K51 hK51 => ?_
                    refine C.seqK fun K52 hK52 => ?_
                    refine C.region ?_
                    refine O.mv ?_
                    refine O.mv ?_
                    refine O.geqU (m := 64) (b := 1152921504606846976#64) (Eq.trans s13_4 (Eq.trans s13_3 (Eq.trans s13_2 s13_1))) (Eq.trans s10_4 (Eq.trans s10_3 (Eq.trans s10_2 s10_1))) ?_
                    refine O.nil ?_
                    refine hK52 _ _ ?_
                    refine C.condD rfl (fun c141 => ?_) (fun c141 => ?_)
                    ·
                      refine C.seqK fun K53 hK53 => ?_
                      refine C.region ?_
                      refine O.mv ?_
                      refine O.mkI Tryd.underlying116 rfl rfl ?_
                      refine O.asg ?_
                      refine O.asg ?_
                      refine O.nil ?_
                      refine hK53 _ _ ?_
                      refine C.ret ?_
                      refine Outs.two rfl (Eq.trans s11_4 (Eq.trans s11_3 (Eq.trans s11_2 s11_1))) rfl ?_
                      first
                      | exact ⟨0#64, _, rfl, .inr ⟨by rw [c19]; rfl, _, rfl, .inr rfl⟩, e1⟩
                      | exact ⟨0#64, _, rfl, .inr ⟨Hex.from_none hk2 hp hc (by first | exact Hex.more_bad c112 c121 | exact Hex.more_ge (Hex.val_dig c112) c137 | exact Hex.more_ge (Hex.val_let c112 c121) c137 | exact Hex.more_cut (Hex.val_dig c112) c141 | exact Hex.more_cut (Hex.val_let c112 c121) c141 | exact Hex.more_o1 (Hex.val_dig c112) c155 | exact Hex.more_o1 (Hex.val_let c112 c121) c155 | exact Hex.more_o2 (Hex.val_dig c112) c159 | exact Hex.more_o2 (Hex.val_let c112 c121) c159) c19, _, rfl, by first | exact .inl rfl | exact .inr rfl⟩, e1⟩
                      | exact ⟨4294967295#64, _, rfl, .inr ⟨Hex.from_none hk2 hp hc (by first | exact Hex.more_bad c112 c121 | exact Hex.more_ge (Hex.val_dig c112) c137 | exact Hex.more_ge (Hex.val_let c112 c121) c137 | exact Hex.more_cut (Hex.val_dig c112) c141 | exact Hex.more_cut (Hex.val_let c112 c121) c141 | exact Hex.more_o1 (Hex.val_dig c112) c155 | exact Hex.more_o1 (Hex.val_let c112 c121) c155 | exact Hex.more_o2 (Hex.val_dig c112) c159 | exact Hex.more_o2 (Hex.val_let c112 c121) c159) c19, _, rfl, by first | exact .inl rfl | exact .inr rfl⟩, e1⟩
                      | exact ⟨m, _, rfl, .inl ⟨Hex.from_end (by omega) hp c19, rfl⟩, e1⟩
                    ·
                      refine C.skip ?_
                      refine hK51 _ _ ?_
                      refine C.seqK fun K54 hK54 => ?_
                      refine C.region ?_
                      refine O.mv ?_
                      refine O.mv ?_
                      refine O.convIU (m' := 64) Tryd.underlying3 Tryd.underlying22 rfl rfl (Eq.trans s1_4 (Eq.trans s1_3 (Eq.trans s1_2 s1_1))) ?_
                      refine O.cast (v' := .int .u64 ((16#64).toNat : Int)) rfl ?_
                      refine O.mulU (m := 64) (b := 16#64) rfl rfl (Eq.trans s13_4 (Eq.trans s13_3 (Eq.trans s13_2 s13_1))) rfl ?_
                      refine O.asg ?_
                      refine O.nil ?_
                      refine hK54 _ _ ?_
                      refine C.seqK fun K55 hK55 => ?_
                      refine C.region ?_
                      refine O.mv ?_
                      refine O.mv ?_
                      refine O.convUU (m := 8) (m' := 64) Tryd.underlying5 Tryd.underlying22 rfl rfl rfl ?_
                      refine O.addU (m := 64) rfl rfl rfl rfl ?_
                      refine O.asg ?_
                      refine O.nil ?_
                      refine hK55 _ _ ?_
                      refine C.seqK fun K56 hK56 => ?_
                      refine C.seqK fun K57 hK57 => ?_
                      refine C.region ?_
                      refine O.mv ?_
                      refine O.mv ?_
                      refine O.lssU (m := 64) rfl rfl ?_
                      refine O.mv ?_
                      refine O.splitD (x := .tmp 155) rfl (fun c155 => ?_) (fun c155 => ?_)
                      ·
                        refine O.no rfl (noB (isT rfl c155) rfl) ?_
                        refine O.no rfl (noB (isT rfl c155) rfl) ?_
                        refine O.no rfl (noB (isT rfl c155) rfl) ?_
                        refine O.pickT (isT rfl c155) ?_
                        refine O.nil ?_
                        refine hK57 _ _ ?_
                        refine C.condT rfl ?_
                        refine C.seqK fun K58 hK58 => ?_
                        refine C.region ?_
                        refine O.mv ?_
                        refine O.mkI Tryd.underlying116 rfl rfl ?_
                        refine O.asg ?_
                        refine O.asg ?_
                        refine O.nil ?_
                        refine hK58 _ _ ?_
                        refine C.ret ?_
                        refine Outs.two rfl (Eq.trans s11_4 (Eq.trans s11_3 (Eq.trans s11_2 s11_1))) rfl ?_
                        first
                        | exact ⟨0#64, _, rfl, .inr ⟨by rw [c19]; rfl, _, rfl, .inr rfl⟩, e1⟩
                        | exact ⟨0#64, _, rfl, .inr ⟨Hex.from_none hk2 hp hc (by first | exact Hex.more_bad c112 c121 | exact Hex.more_ge (Hex.val_dig c112) c137 | exact Hex.more_ge (Hex.val_let c112 c121) c137 | exact Hex.more_cut (Hex.val_dig c112) c141 | exact Hex.more_cut (Hex.val_let c112 c121) c141 | exact Hex.more_o1 (Hex.val_dig c112) c155 | exact Hex.more_o1 (Hex.val_let c112 c121) c155 | exact Hex.more_o2 (Hex.val_dig c112) c159 | exact Hex.more_o2 (Hex.val_let c112 c121) c159) c19, _, rfl, by first | exact .inl rfl | exact .inr rfl⟩, e1⟩
                        | exact ⟨4294967295#64, _, rfl, .inr ⟨Hex.from_none hk2 hp hc (by first | exact Hex.more_bad c112 c121 | exact Hex.more_ge (Hex.val_dig c112) c137 | exact Hex.more_ge (Hex.val_let c112 c121) c137 | exact Hex.more_cut (Hex.val_dig c112) c141 | exact Hex.more_cut (Hex.val_let c112 c121) c141 | exact Hex.more_o1 (Hex.val_dig c112) c155 | exact Hex.more_o1 (Hex.val_let c112 c121) c155 | exact Hex.more_o2 (Hex.val_dig c112) c159 | exact Hex.more_o2 (Hex.val_let c112 c121) c159) c19, _, rfl, by first | exact .inl rfl | exact .inr rfl⟩, e1⟩
                        | exact ⟨m, _, rfl, .inl ⟨Hex.from_end (by omega) hp c19, rfl⟩, e1⟩
                      ·
                        refine O.yes rfl (isF rfl c155) ?_
                        refine O.mv ?_
                        refine O.yes rfl (isF rfl c155) ?_
                        refine O.mv ?_
                        refine O.yes rfl (isF rfl c155) ?_
                        refine O.gtrU (m := 64) (b := 4294967295#64) rfl (Eq.trans s11_4 (Eq.trans s11_3 (Eq.trans s11_2 s11_1))) ?_
                        refine O.pickF (isF rfl c155) ?_
                        refine O.nil ?_
                        refine hK57 _ _ ?_
                        refine C.condD rfl (fun c159 => ?_) (fun c159 => ?_)
                        ·
                          refine C.seqK fun K59 hK59 => ?_
                          refine C.region ?_
                          refine O.mv ?_
                          refine O.mkI Tryd.underlying116 rfl rfl ?_
                          refine O.asg ?_
                          refine O.asg ?_
                          refine O.nil ?_
                          refine hK59 _ _ ?_
                          refine C.ret ?_
                          refine Outs.two rfl (Eq.trans s11_4 (Eq.trans s11_3 (Eq.trans s11_2 s11_1))) rfl ?_
                          first
                          | exact ⟨0#64, _, rfl, .inr ⟨by rw [c19]; rfl, _, rfl, .inr rfl⟩, e1⟩
                          | exact ⟨0#64, _, rfl, .inr ⟨Hex.from_none hk2 hp hc (by first | exact Hex.more_bad c112 c121 | exact Hex.more_ge (Hex.val_dig c112) c137 | exact Hex.more_ge (Hex.val_let c112 c121) c137 | exact Hex.more_cut (Hex.val_dig c112) c141 | exact Hex.more_cut (Hex.val_let c112 c121) c141 | exact Hex.more_o1 (Hex.val_dig c112) c155 | exact Hex.more_o1 (Hex.val_let c112 c121) c155 | exact Hex.more_o2 (Hex.val_dig c112) c159 | exact Hex.more_o2 (Hex.val_let c112 c121) c159) c19, _, rfl, by first | exact .inl rfl | exact .inr rfl⟩, e1⟩
                          | exact ⟨4294967295#64, _, rfl, .inr ⟨Hex.from_none hk2 hp hc (by first | exact Hex.more_bad c112 c121 | exact Hex.more_ge (Hex.val_dig c112) c137 | exact Hex.more_ge (Hex.val_let c112 c121) c137 | exact Hex.more_cut (Hex.val_dig c112) c141 | exact Hex.more_cut (Hex.val_let c112 c121) c141 | exact Hex.more_o1 (Hex.val_dig c112) c155 | exact Hex.more_o1 (Hex.val_let c112 c121) c155 | exact Hex.more_o2 (Hex.val_dig c112) c159 | exact Hex.more_o2 (Hex.val_let c112 c121) c159) c19, _, rfl, by first | exact .inl rfl | exact .inr rfl⟩, e1⟩
                          | exact ⟨m, _, rfl, .inl ⟨Hex.from_end (by omega) hp c19, rfl⟩, e1⟩
                        ·
                          refine C.skip ?_
                          refine hK56 _ _ ?_
                          refine C.region ?_
                          refine O.mv ?_
                          refine O.asg ?_
                          refine O.nil ?_
                          refine hK28 _ _ ?_
                          refine hK27 _ _ ?_
                          refine C.region ?_
                          refine O.addI (Eq.trans s101_4 (Eq.trans s101_3 (Eq.trans s101_2 s101_1))) rfl (by unfold InI; omega) ?_
                          refine O.mv ?_
                          refine O.nil ?_
                          refine ⟨(k + 1, _), ⟨rfl, rfl, (Eq.trans s12_4 (Eq.trans s12_3 (Eq.trans s12_2 s12_1))), (Eq.trans s1_4 (Eq.trans s1_3 (Eq.trans s1_2 s1_1))), (Eq.trans s8_4 (Eq.trans s8_3 (Eq.trans s8_2 s8_1))), (Eq.trans s9_4 (Eq.trans s9_3 (Eq.trans s9_2 s9_1))), (Eq.trans s10_4 (Eq.trans s10_3 (Eq.trans s10_2 s10_1))), (Eq.trans s11_4 (Eq.trans s11_3 (Eq.trans s11_2 s11_1))), (Eq.trans s99_4 (Eq.trans s99_3 (Eq.trans s99_2 s99_1))), (Eq.trans s100_4 (Eq.trans s100_3 (Eq.trans s100_2 s100_1))), rfl, ?_⟩, by first | omega | (simp only []; omega)⟩
                          refine ⟨by omega, ?_⟩
                          refine Hex.from_some hk2 hp hc ?_
                          first | exact Hex.more_ok (Hex.val_dig c112) c137 c141 c155 c159 | exact Hex.more_ok (Hex.val_let c112 c121) c137 c141 c155 c159
                ·
                  refine C.seqK fun K60 hK60 => ?_
                  refine C.region ?_
                  refine O.mkI Tryd.underlying116 rfl rfl ?_
                  refine O.asg ?_
                  refine O.asg ?_
                  refine O.nil ?_
                  refine hK60 _ _ ?_
                  refine C.ret ?_
                  refine Outs.two rfl rfl rfl ?_
                  first
                  | exact ⟨0#64, _, rfl, .inr ⟨by rw [c19]; rfl, _, rfl, .inr rfl⟩, e1⟩
                  | exact ⟨0#64, _, rfl, .inr ⟨Hex.from_none hk2 hp hc (by first | exact Hex.more_bad c112 c121 | exact Hex.more_ge (Hex.val_dig c112) c137 | exact Hex.more_ge (Hex.val_let c112 c121) c137 | exact Hex.more_cut (Hex.val_dig c112) c141 | exact Hex.more_cut (Hex.val_let c112 c121) c141 | exact Hex.more_o1 (Hex.val_dig c112) c155 | exact Hex.more_o1 (Hex.val_let c112 c121) c155 | exact Hex.more_o2 (Hex.val_dig c112) c159 | exact Hex.more_o2 (Hex.val_let c112 c121) c159) c19, _, rfl, by first | exact .inl rfl | exact .inr rfl⟩, e1⟩
                  | exact ⟨4294967295#64, _, rfl, .inr ⟨Hex.from_none hk2 hp hc (by first | exact Hex.more_bad c112 c121 | exact Hex.more_ge (Hex.val_dig c112) c137 | exact Hex.more_ge (Hex.val_let c112 c121) c137 | exact Hex.more_cut (Hex.val_dig c112) c141 | exact Hex.more_cut (Hex.val_let c112 c121) c141 | exact Hex.more_o1 (Hex.val_dig c112) c155 | exact Hex.more_o1 (Hex.val_let c112 c121) c155 | exact Hex.more_o2 (Hex.val_dig c112) c159 | exact Hex.more_o2 (Hex.val_let c112 c121) c159) c19, _, rfl, by first | exact .inl rfl | exact .inr rfl⟩, e1⟩
                  | exact ⟨m, _, rfl, .inl ⟨Hex.from_end (by omega) hp c19, rfl⟩, e1⟩
      ·
        refine C.exit ?_
        refine hK24 _ _ ?_
        refine hK22 _ _ ?_
        refine C.seqK fun K61 hK61 => ?_
        refine C.seqK fun K62 hK62 => ?_
        refine C.region ?_
        refine O.mv ?_
        refine O.mv ?_
        refine O.no rfl (noB s12_1 rfl) ?_
        refine O.no rfl (noB s12_1 rfl) ?_
        refine O.no rfl (noB s12_1 rfl) ?_
        refine O.pickF s12_1 ?_
        refine O.nil ?_
        refine hK62 _ _ ?_
        refine C.condF rfl ?_
        refine C.skip ?_
        refine hK61 _ _ ?_
        refine C.seqK fun K63 hK63 => ?_
        refine C.region ?_
        refine O.mv ?_
        refine O.asg ?_
        refine O.asg ?_
        refine O.nil ?_
        refine hK63 _ _ ?_
        refine C.ret ?_
        refine Outs.two rfl s13_1 rfl ?_
        first
        | exact ⟨0#64, _, rfl, .inr ⟨by rw [c19]; rfl, _, rfl, .inr rfl⟩, e1⟩
        | exact ⟨0#64, _, rfl, .inr ⟨Hex.from_none hk2 hp hc (by first | exact Hex.more_bad c112 c121 | exact Hex.more_ge (Hex.val_dig c112) c137 | exact Hex.more_ge (Hex.val_let c112 c121) c137 | exact Hex.more_cut (Hex.val_dig c112) c141 | exact Hex.more_cut (Hex.val_let c112 c121) c141 | exact Hex.more_o1 (Hex.val_dig c112) c155 | exact Hex.more_o1 (Hex.val_let c112 c121) c155 | exact Hex.more_o2 (Hex.val_dig c112) c159 | exact Hex.more_o2 (Hex.val_let c112 c121) c159) c19, _, rfl, by first | exact .inl rfl | exact .inr rfl⟩, e1⟩
        | exact ⟨4294967295#64, _, rfl, .inr ⟨Hex.from_none hk2 hp hc (by first | exact Hex.more_bad c112 c121 | exact Hex.more_ge (Hex.val_dig c112) c137 | exact Hex.more_ge (Hex.val_let c112 c121) c137 | exact Hex.more_cut (Hex.val_dig c112) c141 | exact Hex.more_cut (Hex.val_let c112 c121) c141 | exact Hex.more_o1 (Hex.val_dig c112) c155 | exact Hex.more_o1 (Hex.val_let c112 c121) c155 | exact Hex.more_o2 (Hex.val_dig c112) c159 | exact Hex.more_o2 (Hex.val_let c112 c121) c159) c19, _, rfl, by first | exact .inl rfl | exact .inr rfl⟩, e1⟩
        | exact ⟨m, _, rfl, .inl ⟨Hex.from_end (by omega) hp c19, rfl⟩, e1⟩


theorem pui32_ok (l : List UInt8) (n : BitVec 64) (w : World) (hl : l.length ≤ maxLen) (hp : Hex.parse 4294967295#64 l = some n) :
    Ret Tryd.prog 73 #[str l, .int .i64 16, .int .i64 32] w (fun v w' => v = .tuple #[.int .u64 (n.toNat : Int), .nilIface] ∧ Le w w') := by
  refine (pui32_spec l w hl).mono ?_
  rintro v w' ⟨m, er, rfl, ⟨h1, rfl⟩ | ⟨h1, _⟩, e⟩
  · rw [hp] at h1; cases h1; exact ⟨rfl, e⟩
  · rw [hp] at h1; cases h1
theorem pui32_err (l : List UInt8) (w : World) (hl : l.length ≤ maxLen) (hp : Hex.parse 4294967295#64 l = none) :
    Ret Tryd.prog 73 #[str l, .int .i64 16, .int .i64 32] w (fun v w' => ∃ (x : BitVec 64) (c : Int), v = .tuple #[.int .u64 (x.toNat : Int), .iface 116 (.int .i64 c)] ∧ (c = 1 ∨ c = 2) ∧ Le w w') := by
  refine (pui32_spec l w hl).mono ?_
  rintro v w' ⟨m, er, rfl, ⟨h1, _⟩ | ⟨_, c, rfl, hc⟩, e⟩
  · rw [hp] at h1; cases h1
  · exact ⟨m, c, rfl, hc, e⟩

theorem pu32_ok_spec (l : List UInt8) (n : BitVec 64) (w : World) (hl : l.length ≤ maxLen) (hp : Hex.parse 4294967295#64 l = some n) :
    Ret Tryd.prog 53 #[str (l), .int .i64 (16), .int .i64 (32)] w (fun v w' => v = .tuple #[.int .u64 (n.toNat : Int), .nilIface] ∧ Le w w') := by
  refine enter (args := [str (l), .int .i64 (16), .int .i64 (32)]) (n := 26) Tryd.func53 rfl rfl (Nat.le_of_ble_eq_true rfl) ?_
  refine C.seqK fun K1 hK1 => ?_
  refine C.region ?_
  refine O.asg ?_
  refine O.asg ?_
  refine O.nil ?_
  refine hK1 _ _ ?_
  refine C.seqK fun K2 hK2 => ?_
  refine C.region ?_
  refine O.mv ?_
  refine O.mv ?_
  refine O.mv ?_
  refine O.call Tryd.call73 (args3 rfl rfl rfl) (pui32_ok _ _ _ hl hp) ?_
  rintro v_14 w1 ⟨rfl, e1⟩
  have z1 := e1.size
  refine O.mv ?_
  refine O.extract rfl rfl ?_
  refine O.extract rfl rfl ?_
  refine O.asg ?_
  refine O.asg ?_
  refine O.nil ?_
  refine hK2 _ _ ?_
  refine C.seqK fun K3 hK3 => ?_
  refine C.seqK fun K4 hK4 => ?_
  refine C.region ?_
  refine O.mv ?_
  refine O.neqN0 rfl Tryd.underlying73 ?_
  refine O.nil ?_
  refine hK4 _ _ ?_
  refine C.condF rfl ?_
  refine C.skip ?_
  refine hK3 _ _ ?_
  refine C.seqK fun K5 hK5 => ?_
  refine C.region ?_
  refine O.mv ?_
  refine O.asg ?_
  refine O.asg ?_
  refine O.nil ?_
  refine hK5 _ _ ?_
  refine C.ret ?_
  refine Outs.two rfl rfl rfl ?_
  exact ⟨rfl, e1⟩

theorem pu32_err_spec (l : List UInt8) (es er : Value) (w : World) (hl : l.length ≤ 281474976710656) (hp : Hex.parse 4294967295#64 l = none) (hes : CellIs w 3 es) (her : CellIs w 4 er) (h1 : ∃ te pe, es = .iface te pe) (h2 : ∃ te pe, er = .iface te pe) :
    Ret Tryd.prog 53 #[str (l), .int .i64 (16), .int .i64 (32)] w (fun v w' => ∃ (x : BitVec 64) (y : Value), v = .tuple #[.int .u64 (x.toNat : Int), .iface 119 y] ∧ Le w w') := by
  refine enter (args := [str (l), .int .i64 (16), .int .i64 (32)]) (n := 26) Tryd.func53 rfl rfl (Nat.le_of_ble_eq_true rfl) ?_
  refine C.seqK fun K1 hK1 => ?_
  refine C.region ?_
  refine O.asg ?_
  refine O.asg ?_
  refine O.nil ?_
  refine hK1 _ _ ?_
  refine C.seqK fun K2 hK2 => ?_
  refine C.region ?_
  refine O.mv ?_
  refine O.mv ?_
  refine O.mv ?_
  refine O.call Tryd.call73 (args3 rfl rfl rfl) (pui32_err _ _ (by unfold maxLen; omega) hp) ?_
  rintro v_14 w1 ⟨xv14, cv14, rfl, hcv14, e1⟩
  have z1 := e1.size
  refine O.mv ?_
  refine O.extract rfl rfl ?_
  refine O.extract rfl rfl ?_
  refine O.asg ?_
  refine O.asg ?_
  refine O.nil ?_
  refine hK2 _ _ ?_
  refine C.seqK fun K3 hK3 => ?_
  refine C.seqK fun K4 hK4 => ?_
  refine C.region ?_
  refine O.mv ?_
  refine O.neqN1 rfl rfl Tryd.underlying73 ?_
  refine O.nil ?_
  refine hK4 _ _ ?_
  refine C.condT rfl ?_
  refine C.seqK fun K5 hK5 => ?_
  refine C.region ?_
  refine O.mv ?_
  refine O.mv ?_
  refine O.mv ?_
  refine O.mv ?_
  refine O.mv ?_
  refine O.call Tryd.call74 (args5 rfl rfl rfl rfl rfl) (toErr_spec _ l _ _ _ _ _ _ hl (hes.keep e1) (her.keep e1) h1 h2 hcv14) ?_
  rintro v_24 w2 ⟨yv24, rfl, e2⟩
  have z2 := e2.size
  refine O.asg ?_
  refine O.asg ?_
  refine O.nil ?_
  refine hK5 _ _ ?_
  refine C.ret ?_
  refine Outs.two rfl rfl rfl ?_
  exact ⟨_, _, rfl, (Ext.trans e1 e2)⟩

set_option maxHeartbeats 1000000 in
theorem pui64_spec (l : List UInt8) (w : World) (hl : l.length ≤ maxLen) :
    Ret Tryd.prog 73 #[str (l), .int .i64 (16), .int .i64 (64)] w (fun v w' => ∃ (n : BitVec 64) (er : Value), v = .tuple #[.int .u64 (n.toNat : Int), er] ∧ ((Hex.parse 18446744073709551615#64 l = some n ∧ er = .nilIface) ∨ (Hex.parse 18446744073709551615#64 l = none ∧ ∃ c, er = .iface 116 (.int .i64 c) ∧ (c = 1 ∨ c = 2))) ∧ Le w w') := by
  have hl2 := hl
  unfold maxLen at hl2
  refine enter (args := [str (l), .int .i64 (16), .int .i64 (64)]) (n := 172) Tryd.func73 rfl rfl (Nat.le_of_ble_eq_true rfl) ?_
  refine C.seqK fun K1 hK1 => ?_
  refine C.region ?_
  refine O.asg ?_
  refine O.asg ?_
  refine O.nil ?_
  refine hK1 _ _ ?_
  refine C.seqK fun K2 hK2 => ?_
  refine C.seqK fun K3 hK3 => ?_
  refine C.region ?_
  refine O.mv ?_
  refine O.eqlS rfl rfl ?_
  refine O.nil ?_
  refine hK3 _ _ ?_
  refine C.condD rfl (fun c19 => ?_) (fun c19 => ?_)
  ·
    refine C.seqK fun K4 hK4 => ?_
    refine C.region ?_
    refine O.mkI Tryd.underlying116 rfl rfl ?_
    refine O.asg ?_
    refine O.asg ?_
    refine O.nil ?_
    refine hK4 _ _ ?_
    refine C.ret ?_
    refine Outs.two rfl rfl rfl ?_
    first
    | exact ⟨0#64, _, rfl, .inr ⟨by rw [c19]; rfl, _, rfl, .inr rfl⟩, (Le.refl _)⟩
    | exact ⟨0#64, _, rfl, .inr ⟨Hex.from_none hk2 hp hc (by first | exact Hex.more_bad c112 c121 | exact Hex.more_ge (Hex.val_dig c112) c137 | exact Hex.more_ge (Hex.val_let c112 c121) c137 | exact Hex.more_cut (Hex.val_dig c112) c141 | exact Hex.more_cut (Hex.val_let c112 c121) c141 | exact Hex.more_o1 (Hex.val_dig c112) c155 | exact Hex.more_o1 (Hex.val_let c112 c121) c155 | exact Hex.more_o2 (Hex.val_dig c112) c159 | exact Hex.more_o2 (Hex.val_let c112 c121) c159) c19, _, rfl, by first | exact .inl rfl | exact .inr rfl⟩, (Le.refl _)⟩
    | exact ⟨18446744073709551615#64, _, rfl, .inr ⟨Hex.from_none hk2 hp hc (by first | exact Hex.more_bad c112 c121 | exact Hex.more_ge (Hex.val_dig c112) c137 | exact Hex.more_ge (Hex.val_let c112 c121) c137 | exact Hex.more_cut (Hex.val_dig c112) c141 | exact Hex.more_cut (Hex.val_let c112 c121) c141 | exact Hex.more_o1 (Hex.val_dig c112) c155 | exact Hex.more_o1 (Hex.val_let c112 c121) c155 | exact Hex.more_o2 (Hex.val_dig c112) c159 | exact Hex.more_o2 (Hex.val_let c112 c121) c159) c19, _, rfl, by first | exact .inl rfl | exact .inr rfl⟩, (Le.refl _)⟩
    | exact ⟨m, _, rfl, .inl ⟨Hex.from_end (by omega) hp c19, rfl⟩, (Le.refl _)⟩
  ·
    refine C.skip ?_
    refine hK2 _ _ ?_
    refine C.seqK fun K5 hK5 => ?_
    refine C.region ?_
    refine O.mv ?_
    refine O.eqlI rfl rfl ?_
    refine O.cast (v' := .bool false) rfl ?_
    refine O.asg ?_
    refine O.nil ?_
    refine hK5 _ _ ?_
    refine C.seqK fun K6 hK6 => ?_
    refine C.region ?_
    refine O.mv ?_
    refine O.asg ?_
    refine O.nil ?_
    refine hK6 _ _ ?_
    refine C.seqK fun K7 hK7 => ?_
    refine C.block fun K8 hK8 => ?_
    refine C.seqK fun K9 hK9 => ?_
    refine C.region ?_
    refine O.mv ?_
    refine O.leqI rfl rfl ?_
    refine O.cast (v' := .bool true) rfl ?_
    refine O.mv ?_
    refine O.yes rfl rfl ?_
    refine O.mv ?_
    refine O.yes rfl rfl ?_
    refine O.leqI rfl rfl ?_
    refine O.cast (v' := .bool true) rfl ?_
    refine O.pickT rfl ?_
    refine O.asg ?_
    refine O.nil ?_
    refine hK9 _ _ ?_
    refine C.condT rfl ?_
    refine C.skip ?_
    refine hK8 _ _ ?_
    refine hK7 _ _ ?_
    refine C.seqK fun K10 hK10 => ?_
    refine C.seqK fun K11 hK11 => ?_
    refine C.region ?_
    refine O.mv ?_
    refine O.eqlI rfl rfl ?_
    refine O.cast (v' := .bool false) rfl ?_
    refine O.nil ?_
    refine hK11 _ _ ?_
    refine C.condF rfl ?_
    refine C.seqK fun K12 hK12 => ?_
    refine C.region ?_
    refine O.mv ?_
    refine O.lssI rfl rfl ?_
    refine O.cast (v' := .bool false) rfl ?_
    refine O.mv ?_
    refine O.yes rfl rfl ?_
    refine O.mv ?_
    refine O.yes rfl rfl ?_
    refine O.gtrI rfl rfl ?_
    refine O.cast (v' := .bool false) rfl ?_
    refine O.pickF rfl ?_
    refine O.nil ?_
    refine hK12 _ _ ?_
    refine C.condF rfl ?_
    refine C.skip ?_
    refine hK10 _ _ ?_
    refine C.seqK fun K13 hK13 => ?_
    refine C.region ?_
    refine O.asg ?_
    refine O.nil ?_
    refine hK13 _ _ ?_
    refine C.seqK fun K14 hK14 => ?_
    refine C.seqK fun K15 hK15 => ?_
    refine C.region ?_
    refine O.mv ?_
    refine O.nil ?_
    refine hK15 _ _ ?_
    refine C.block fun K16 hK16 => ?_
    refine C.seqK fun K17 hK17 => ?_
    refine C.region ?_
    refine O.eqlI rfl rfl ?_
    refine O.cast (v' := .bool false) rfl ?_
    refine O.asg ?_
    refine O.nil ?_
    refine hK17 _ _ ?_
    refine C.condF rfl ?_
    refine C.seqK fun K18 hK18 => ?_
    refine C.region ?_
    refine O.eqlI rfl rfl ?_
    refine O.cast (v' := .bool true) rfl ?_
    refine O.asg ?_
    refine O.nil ?_
    refine hK18 _ _ ?_
    refine C.condT rfl ?_
    refine C.region ?_
    refine O.asg ?_
    refine O.nil ?_
    refine hK16 _ _ ?_
    refine hK14 _ _ ?_
    refine C.seqK fun K19 hK19 => ?_
    refine C.region ?_
    refine O.mv ?_
    refine O.convIU (m' := 64) Tryd.underlying3 Tryd.underlying63 rfl rfl rfl ?_
    refine O.cast (v' := .int .u64 ((64#64).toNat : Int)) rfl ?_
    refine O.shlU (m := 64) (a := 1#64) (c := 64) rfl rfl rfl rfl ?_
    refine O.cast (v' := .int .u64 ((0#64).toNat : Int)) rfl ?_
    refine O.subU (m := 64) (a := 0#64) (b := 1#64) rfl rfl rfl rfl ?_
    refine O.cast (v' := .int .u64 ((18446744073709551615#64).toNat : Int)) rfl ?_
    refine O.asg ?_
    refine O.nil ?_
    refine hK19 _ _ ?_
    refine C.seqK fun K20 hK20 => ?_
    refine C.region ?_
    refine O.asg ?_
    refine O.nil ?_
    refine hK20 _ _ ?_
    refine C.seqK fun K21 hK21 => ?_
    refine C.region ?_
    refine O.asg ?_
    refine O.nil ?_
    refine hK21 _ _ ?_
    refine C.seqK fun K22 hK22 => ?_
    refine C.seqK fun K23 hK23 => ?_
    refine C.region ?_
    refine O.mv ?_
    refine O.strB Tryd.underlying9 Tryd.underlying68 Tryd.underlying5 rfl hl (fun b99 cap99 w1 hb99 hc99 h99 hs99 e1 => ?_)
    have z1 := e1.size
    refine O.len Tryd.underlying68 rfl hs99 ?_
    refine O.mv ?_
    refine O.nil ?_
    refine hK23 _ _ ?_
    refine C.block fun K24 hK24 => ?_
    refine C.loop0 (σ := Nat × BitVec 64) (fun f0 w0 ⟨k, m⟩ f w => f 13 = .int .u64 ((m).toNat : Int) ∧ f 101 = .int .i64 (k) ∧ f 12 = .bool (false) ∧ f 1 = f0 1 ∧ f 8 = f0 8 ∧ f 9 = f0 9 ∧ f 10 = f0 10 ∧ f 11 = f0 11 ∧ f 99 = f0 99 ∧ f 100 = f0 100 ∧ w = w0 ∧ k ≤ l.length ∧ Hex.parseFrom 18446744073709551615#64 0#64 l = Hex.parseFrom 18446744073709551615#64 m (l.drop k)) (fun ⟨k, m⟩ => l.length - k) (0, 0#64) ?_ ?_
    ·
      refine ⟨rfl, rfl, rfl, rfl, rfl, rfl, rfl, rfl, rfl, rfl, rfl, ?_⟩
      exact ⟨Nat.zero_le _, rfl⟩
    ·
      rintro ⟨k, m⟩ f_1 wx ⟨s13_1, s101_1, s12_1, s1_1, s8_1, s9_1, s10_1, s11_1, s99_1, s100_1, rfl, ⟨hk, hp⟩⟩
      refine C.seqK fun K25 hK25 => ?_
      refine C.region ?_
      refine O.lssI s101_1 s100_1 ?_
      refine O.nil ?_
      refine hK25 _ _ ?_
      refine C.seqK fun K26 hK26 => ?_
      refine C.condD rfl (fun c102 => ?_) (fun c102 => ?_)
      ·
        have hk2 : k < l.length := by omega
        obtain ⟨c, hc⟩ : ∃ c : BitVec 8, c = (l[k]'hk2).toBitVec := ⟨_, rfl⟩
        refine C.skip ?_
        refine hK26 _ _ ?_
        refine C.seqK fun K27 hK27 => ?_
        refine C.block fun K28 hK28 => ?_
        refine C.seqK fun K29 hK29 => ?_
        refine C.region ?_
        refine O.idx Tryd.underlying68 Tryd.sizeOf5 rfl s99_1 hs99 s101_1 (by omega) (fun a103 h103 => ?_)
        refine O.loadB Tryd.isAgg5 rfl h103 ?_
        refine O.cast (v' := .int .u8 (c.toNat : Int)) (by rw [hc]; rfl) ?_
        refine O.asg ?_
        refine O.nil ?_
        refine hK29 _ _ ?_
        refine C.seqK fun K30 hK30 => ?_
        refine C.region ?_
        refine O.asg ?_
        refine O.nil ?_
        refine hK30 _ _ ?_
        refine C.seqK fun K31 hK31 => ?_
        refine C.block fun K32 hK32 => ?_
        refine C.seqK fun K33 hK33 => ?_
        refine C.region ?_
        refine O.mv ?_
        refine O.eqlU (m := 8) (b := 95#8) rfl rfl ?_
        refine O.mv ?_
        refine O.cut 2 (fun f f' => f' 111 = .bool false ∧ f' 1 = f 1 ∧ f' 8 = f 8 ∧ f' 9 = f 9 ∧ f' 10 = f 10 ∧ f' 11 = f 11 ∧ f' 12 = f 12 ∧ f' 13 = f 13 ∧ f' 15 = f 15 ∧ f' 16 = f 16 ∧ f' 99 = f 99 ∧ f' 100 = f 100 ∧ f' 101 = f 101) ?_ ?_
        ·
          refine O.splitD (x := .tmp 109) rfl (fun c109 => ?_) (fun c109 => ?_)
          ·
            refine O.yes rfl (isT rfl c109) ?_
            refine O.mv ?_
            refine O.pickT (isT rfl c109) ?_
            refine O.nil ?_
            refine ⟨⟨?_, rfl, rfl, rfl, rfl, rfl, rfl, rfl, rfl, rfl, rfl, rfl, rfl⟩, rfl⟩
            first | exact s8_1 | exact Eq.trans s8_1 (congrArg Value.bool (dAnd (by assumption))) | exact Eq.trans s8_1 (congrArg Value.bool (dAndF (by assumption))) | exact Eq.trans s8_1 (congrArg Value.bool (dOr (by assumption))) | exact Eq.trans s8_1 (congrArg Value.bool (dOrT (by assumption)))
          ·
            refine O.no rfl (noB (isF rfl c109) rfl) ?_
            refine O.pickF (isF rfl c109) ?_
            refine O.nil ?_
            refine ⟨⟨?_, rfl, rfl, rfl, rfl, rfl, rfl, rfl, rfl, rfl, rfl, rfl, rfl⟩, rfl⟩
            first | exact rfl | exact Eq.trans rfl (congrArg Value.bool (dAnd (by assumption))) | exact Eq.trans rfl (congrArg Value.bool (dAndF (by assumption))) | exact Eq.trans rfl (congrArg Value.bool (dOr (by assumption))) | exact Eq.trans rfl (congrArg Value.bool (dOrT (by assumption)))
        ·
          rintro f_2 ⟨s111_2, s1_2, s8_2, s9_2, s10_2, s11_2, s12_2, s13_2, s15_2, s16_2, s99_2, s100_2, s101_2⟩
          refine O.asg ?_
          refine O.nil ?_
          refine hK33 _ _ ?_
          refine C.condF s111_2 ?_
          refine C.seqK fun K34 hK34 => ?_
          refine C.region ?_
          refine O.mv ?_
          refine O.leqU (m := 8) (a := 48#8) rfl s15_2 ?_
          refine O.mv ?_
          refine O.cut 3 (fun f f' => f' 118 = .bool (decide (48#8 ≤ c ∧ c ≤ 57#8)) ∧ f' 1 = f 1 ∧ f' 8 = f 8 ∧ f' 9 = f 9 ∧ f' 10 = f 10 ∧ f' 11 = f 11 ∧ f' 12 = f 12 ∧ f' 13 = f 13 ∧ f' 15 = f 15 ∧ f' 16 = f 16 ∧ f' 99 = f 99 ∧ f' 100 = f 100 ∧ f' 101 = f 101) ?_ ?_
          ·
            refine O.splitD (x := .tmp 115) rfl (fun c115 => ?_) (fun c115 => ?_)
            ·
              refine O.yes rfl (isT rfl c115) ?_
              refine O.mv ?_
              refine O.yes rfl (isT rfl c115) ?_
              refine O.leqU (m := 8) (b := 57#8) s15_2 rfl ?_
              refine O.pickT (isT rfl c115) ?_
              refine O.nil ?_
              refine ⟨⟨?_, rfl, rfl, rfl, rfl, rfl, rfl, rfl, rfl, rfl, rfl, rfl, rfl⟩, rfl⟩
              first | exact rfl | exact Eq.trans rfl (congrArg Value.bool (dAnd (by assumption))) | exact Eq.trans rfl (congrArg Value.bool (dAndF (by assumption))) | exact Eq.trans rfl (congrArg Value.bool (dOr (by assumption))) | exact Eq.trans rfl (congrArg Value.bool (dOrT (by assumption)))
            ·
              refine O.no rfl (noB (isF rfl c115) rfl) ?_
              refine O.no rfl (noB (isF rfl c115) rfl) ?_
              refine O.pickF (isF rfl c115) ?_
              refine O.nil ?_
              refine ⟨⟨?_, rfl, rfl, rfl, rfl, rfl, rfl, rfl, rfl, rfl, rfl, rfl, rfl⟩, rfl⟩
              first | exact rfl | exact Eq.trans rfl (congrArg Value.bool (dAnd (by assumption))) | exact Eq.trans rfl (congrArg Value.bool (dAndF (by assumption))) | exact Eq.trans rfl (congrArg Value.bool (dOr (by assumption))) | exact Eq.trans rfl (congrArg Value.bool (dOrT (by assumption)))
          ·
            rintro f_3 ⟨s118_3, s1_3, s8_3, s9_3, s10_3, s11_3, s12_3, s13_3, s15_3, s16_3, s99_3, s100_3, s101_3⟩
            refine O.asg ?_
            refine O.nil ?_
            refine hK34 _ _ ?_
            refine C.condD s118_3 (fun c112 => ?_) (fun c112 => ?_)
            ·
              refine C.region ?_
              refine O.mv ?_
              refine O.subU (m := 8) (b := 48#8) rfl rfl (Eq.trans s15_3 s15_2) rfl ?_
              refine O.asg ?_
              refine O.nil ?_
              refine hK32 _ _ ?_
              refine hK31 _ _ ?_
              refine C.seqK fun K35 hK35 => ?_
              refine C.seqK fun K36 hK36 => ?_
              refine C.region ?_
              refine O.mv ?_
              refine O.mv ?_
              refine O.convIU (m' := 8) Tryd.underlying3 Tryd.underlying5 rfl rfl (Eq.trans s1_3 (Eq.trans s1_2 s1_1)) ?_
              refine O.cast (v' := .int .u8 ((16#8).toNat : Int)) rfl ?_
              refine O.geqU (m := 8) (b := 16#8) rfl rfl ?_
              refine O.nil ?_
              refine hK36 _ _ ?_
              refine C.condD rfl (fun c137 => ?_) (fun c137 => ?_)
              ·
                refine C.seqK fun K37 hK37 => ?_
                refine C.region ?_
                refine O.mkI Tryd.underlying116 rfl rfl ?_
                refine O.asg ?_
                refine O.asg ?_
                refine O.nil ?_
                refine hK37 _ _ ?_
                refine C.ret ?_
                refine Outs.two rfl rfl rfl ?_
                first
                | exact ⟨0#64, _, rfl, .inr ⟨by rw [c19]; rfl, _, rfl, .inr rfl⟩, e1⟩
                | exact ⟨0#64, _, rfl, .inr ⟨Hex.from_none hk2 hp hc (by first | exact Hex.more_bad c112 c121 | exact Hex.more_ge (Hex.val_dig c112) c137 | exact Hex.more_ge (Hex.val_let c112 c121) c137 | exact Hex.more_cut (Hex.val_dig c112) c141 | exact Hex.more_cut (Hex.val_let c112 c121) c141 | exact Hex.more_o1 (Hex.val_dig c112) c155 | exact Hex.more_o1 (Hex.val_let c112 c121) c155 | exact Hex.more_o2 (Hex.val_dig c112) c159 | exact Hex.more_o2 (Hex.val_let c112 c121) c159) c19, _, rfl, by first | exact .inl rfl | exact .inr rfl⟩, e1⟩
                | exact ⟨18446744073709551615#64, _, rfl, .inr ⟨Hex.from_none hk2 hp hc (by first | exact Hex.more_bad c112 c121 | exact Hex.more_ge (Hex.val_dig c112) c137 | exact Hex.more_ge (Hex.val_let c112 c121) c137 | exact Hex.more_cut (Hex.val_dig c112) c141 | exact Hex.more_cut (Hex.val_let c112 c121) c141 | exact Hex.more_o1 (Hex.val_dig c112) c155 | exact Hex.more_o1 (Hex.val_let c112 c121) c155 | exact Hex.more_o2 (Hex.val_dig c112) c159 | exact Hex.more_o2 (Hex.val_let c112 c121) c159) c19, _, rfl, by first | exact .inl rfl | exact .inr rfl⟩, e1⟩
                | exact ⟨m, _, rfl, .inl ⟨Hex.from_end (by omega) hp c19, rfl⟩, e1⟩
              ·
                refine C.skip ?_
                refine hK35 _ _ ?_
                refine C.seqK fun K38 hK38 => ?_
                refine C.seqK fun K39 hK39 => ?_
                refine C.region ?_
                refine O.mv ?_
                refine O.mv ?_
                refine O.geqU (m := 64) (b := 1152921504606846976#64) (Eq.trans s13_3 (Eq.trans s13_2 s13_1)) (Eq.trans s10_3 (Eq.trans s10_2 s10_1)) ?_
                refine O.nil ?_
                refine hK39 _ _ ?_
                refine C.condD rfl (fun c141 => ?_) (fun c141 => ?_)
                ·
                  refine C.seqK fun K40 hK40 => ?_
                  refine C.region ?_
                  refine O.mv ?_
                  refine O.mkI Tryd.underlying116 rfl rfl ?_
                  refine O.asg ?_
                  refine O.asg ?_
                  refine O.nil ?_
                  refine hK40 _ _ ?_
                  refine C.ret ?_
                  refine Outs.two rfl (Eq.trans s11_3 (Eq.trans s11_2 s11_1)) rfl ?_
                  first
                  | exact ⟨0#64, _, rfl, .inr ⟨by rw [c19]; rfl, _, rfl, .inr rfl⟩, e1⟩
                  | exact ⟨0#64, _, rfl, .inr ⟨Hex.from_none hk2 hp hc (by first | exact Hex.more_bad c112 c121 | exact Hex.more_ge (Hex.val_dig c112) c137 | exact Hex.more_ge (Hex.val_let c112 c121) c137 | exact Hex.more_cut (Hex.val_dig c112) c141 | exact Hex.more_cut (Hex.val_let c112 c121) c141 | exact Hex.more_o1 (Hex.val_dig c112) c155 | exact Hex.more_o1 (Hex.val_let c112 c121) c155 | exact Hex.more_o2 (Hex.val_dig c112) c159 | exact Hex.more_o2 (Hex.val_let c112 c121) c159) c19, _, rfl, by first | exact .inl rfl | exact .inr rfl⟩, e1⟩
                  | exact ⟨18446744073709551615#64, _, rfl, .inr ⟨Hex.from_none hk2 hp hc (by first | exact Hex.more_bad c112 c121 | exact Hex.more_ge (Hex.val_dig c112) c137 | exact Hex.more_ge (Hex.val_let c112 c121) c137 | exact Hex.more_cut (Hex.val_dig c112) c141 | exact Hex.more_cut (Hex.val_let c112 c121) c141 | exact Hex.more_o1 (Hex.val_dig c112) c155 | exact Hex.more_o1 (Hex.val_let c112 c121) c155 | exact Hex.more_o2 (Hex.val_dig c112) c159 | exact Hex.more_o2 (Hex.val_let c112 c121) c159) c19, _, rfl, by first | exact .inl rfl | exact .inr rfl⟩, e1⟩
                  | exact ⟨m, _, rfl, .inl ⟨Hex.from_end (by omega) hp c19, rfl⟩, e1⟩
                ·
                  refine C.skip ?_
                  refine hK38 _ _ ?_
                  refine C.seqK fun K41 hK41 => ?_
                  refine C.region ?_
                  refine O.mv ?_
                  refine O.mv ?_
                  refine O.convIU (m' := 64) Tryd.underlying3 Tryd.underlying22 rfl rfl (Eq.trans s1_3 (Eq.trans s1_2 s1_1)) ?_
                  refine O.cast (v' := .int .u64 ((16#64).toNat : Int)) rfl ?_
                  refine O.mulU (m := 64) (b := 16#64) rfl rfl (Eq.trans s13_3 (Eq.trans s13_2 s13_1)) rfl ?_
                  refine O.asg ?_
                  refine O.nil ?_
                  refine hK41 _ _ ?_
                  refine C.seqK fun K42 hK42 => ?_
                  refine C.region ?_
                  refine O.mv ?_
                  refine O.mv ?_
                  refine O.convUU (m := 8) (m' := 64) Tryd.underlying5 Tryd.underlying22 rfl rfl rfl ?_
                  refine O.addU (m := 64) rfl rfl rfl rfl ?_
                  refine O.asg ?_
                  refine O.nil ?_
                  refine hK42 _ _ ?_
                  refine C.seqK fun K43 hK43 => ?_
                  refine C.seqK fun K44 hK44 => ?_
                  refine C.region ?_
                  refine O.mv ?_
                  refine O.mv ?_
                  refine O.lssU (m := 64) rfl rfl ?_
                  refine O.mv ?_
                  refine O.splitD (x := .tmp 155) rfl (fun c155 => ?_) (fun c155 => ?_)
                  ·
                    refine O.no rfl (noB (isT rfl c155) rfl) ?_
                    refine O.no rfl (noB (isT rfl c155) rfl) ?_
                    refine O.no rfl (noB (isT rfl c155) rfl) ?_
                    refine O.pickT (isT rfl c155) ?_
                    refine O.nil ?_
                    refine hK44 _ _ ?_
                    refine C.condT rfl ?_
                    refine C.seqK fun K45 hK45 => ?_
                    refine C.region ?_
                    refine O.mv ?_
                    refine O.mkI Tryd.underlying116 rfl rfl ?_
                    refine O.asg ?_
                    refine O.asg ?_
                    refine O.nil ?_
                    refine hK45 _ _ ?_
                    refine C.ret ?_
                    refine Outs.two rfl (Eq.trans s11_3 (Eq.trans s11_2 s11_1)) rfl ?_
                    first
                    | exact ⟨0#64, _, rfl, .inr ⟨by rw [c19]; rfl, _, rfl, .inr rfl⟩, e1⟩
                    | exact ⟨0#64, _, rfl, .inr ⟨Hex.from_none hk2 hp hc (by first | exact Hex.more_bad c112 c121 | exact Hex.more_ge (Hex.val_dig c112) c137 | exact Hex.more_ge (Hex.val_let c112 c121) c137 | exact Hex.more_cut (Hex.val_dig c112) c141 | exact Hex.more_cut (Hex.val_let c112 c121) c141 | exact Hex.more_o1 (Hex.val_dig c112) c155 | exact Hex.more_o1 (Hex.val_let c112 c121) c155 | exact Hex.more_o2 (Hex.val_dig c112) c159 | exact Hex.more_o2 (Hex.val_let c112 c121) c159) c19, _, rfl, by first | exact .inl rfl | exact .inr rfl⟩, e1⟩
                    | exact ⟨18446744073709551615#64, _, rfl, .inr ⟨Hex.from_none hk2 hp hc (by first | exact Hex.more_bad c112 c121 | exact Hex.more_ge (Hex.val_dig c112) c137 | exact Hex.more_ge (Hex.val_let c112 c121) c137 | exact Hex.more_cut (Hex.val_dig c112) c141 | exact Hex.more_cut (Hex.val_let c112 c121) c141 | exact Hex.more_o1 (Hex.val_dig c112) c155 | exact Hex.more_o1 (Hex.val_let c112 c121) c155 | exact Hex.more_o2 (Hex.val_dig c112) c159 | exact Hex.more_o2 (Hex.val_let c112 c121) c159) c19, _, rfl, by first | exact .inl rfl | exact .inr rfl⟩, e1⟩
                    | exact ⟨m, _, rfl, .inl ⟨Hex.from_end (by omega) hp c19, rfl⟩, e1⟩
                  ·
                    refine O.yes rfl (isF rfl c155) ?_
                    refine O.mv ?_
                    refine O.yes rfl (isF rfl c155) ?_
                    refine O.mv ?_
                    refine O.yes rfl (isF rfl c155) ?_
                    refine O.gtrU (m := 64) (b := 18446744073709551615#64) rfl (Eq.trans s11_3 (Eq.trans s11_2 s11_1)) ?_
                    refine O.pickF (isF rfl c155) ?_
                    refine O.nil ?_
                    refine hK44 _ _ ?_
                    refine C.condD rfl (fun c159 => ?_) (fun c159 => ?_)
                    ·
                      refine C.seqK fun K46 hK46 => ?_
                      refine C.region ?_
                      refine O.mv ?_
                      refine O.mkI Tryd.underlying116 rfl rfl ?_
                      refine O.asg ?_
                      refine O.asg ?_
                      refine O.nil ?_
                      refine hK46 _ _ ?_
                      refine C.ret ?_
                      refine Outs.two rfl (Eq.trans s11_3 (Eq.trans s11_2 s11_1)) rfl ?_
                      first
                      | exact ⟨0#64, _, rfl, .inr ⟨by rw [c19]; rfl, _, rfl, .inr rfl⟩, e1⟩
                      | exact ⟨0#64, _, rfl, .inr ⟨Hex.from_none hk2 hp hc (by first | exact Hex.more_bad c112 c121 | exact Hex.more_ge (Hex.val_dig c112) c137 | exact Hex.more_ge (Hex.val_let c112 c121) c137 | exact Hex.more_cut (Hex.val_dig c112) c141 | exact Hex.more_cut (Hex.val_let c112 c121) c141 | exact Hex.more_o1 (Hex.val_dig c112) c155 | exact Hex.more_o1 (Hex.val_let c112 c121) c155 | exact Hex.more_o2 (Hex.val_dig c112) c159 | exact Hex.more_o2 (Hex.val_let c112 c121) c159) c19, _, rfl, by first | exact .inl rfl | exact .inr rfl⟩, e1⟩
                      | exact ⟨18446744073709551615#64, _, rfl, .inr ⟨Hex.from_none hk2 hp hc (by first | exact Hex.more_bad c112 c121 | exact Hex.more_ge (Hex.val_dig c112) c137 | exact Hex.more_ge (Hex.val_let c112 c121) c137 | exact Hex.more_cut (Hex.val_dig c112) c141 | exact Hex.more_cut (Hex.val_let c112 c121) c141 | exact Hex.more_o1 (Hex.val_dig c112) c155 | exact Hex.more_o1 (Hex.val_let c112 c121) c155 | exact Hex.more_o2 (Hex.val_dig c112) c159 | exact Hex.more_o2 (Hex.val_let c112 c121) c159) c19, _, rfl, by first | exact .inl rfl | exact .inr rfl⟩, e1⟩
                      | exact ⟨m, _, rfl, .inl ⟨Hex.from_end (by omega) hp c19, rfl⟩, e1⟩
                    ·
                      refine C.skip ?_
                      refine hK43 _ _ ?_
                      refine C.region ?_
                      refine O.mv ?_
                      refine O.asg ?_
                      refine O.nil ?_
                      refine hK28 _ _ ?_
                      refine hK27 _ _ ?_
                      refine C.region ?_
                      refine O.addI (Eq.trans s101_3 (Eq.trans s101_2 s101_1)) rfl (by unfold InI; omega) ?_
                      refine O.mv ?_
                      refine O.nil ?_
                      refine ⟨(k + 1, _), ⟨rfl, rfl, (Eq.trans s12_3 (Eq.trans s12_2 s12_1)), (Eq.trans s1_3 (Eq.trans s1_2 s1_1)), (Eq.trans s8_3 (Eq.trans s8_2 s8_1)), (Eq.trans s9_3 (Eq.trans s9_2 s9_1)), (Eq.trans s10_3 (Eq.trans s10_2 s10_1)), (Eq.trans s11_3 (Eq.trans s11_2 s11_1)), (Eq.trans s99_3 (Eq.trans s99_2 s99_1)), (Eq.trans s100_3 (Eq.trans s100_2 s100_1)), rfl, ?_⟩, by first | omega | (simp only []; omega)⟩
                      refine ⟨by omega, ?_⟩
                      refine Hex.from_some hk2 hp hc ?_
                      first | exact Hex.more_ok (Hex.val_dig c112) c137 c141 c155 c159 | exact Hex.more_ok (Hex.val_let c112 c121) c137 c141 c155 c159
            ·
              refine C.seqK fun K47 hK47 => ?_
              refine C.region ?_
              refine O.mv ?_
              refine O.call Tryd.call86 (args1 (Eq.trans s15_3 s15_2)) (lower_spec _ _) ?_
              rintro v_123 w2 ⟨rfl, hw_⟩
              replace hw_ := hw_.symm
              subst hw_
              refine O.leqU (m := 8) (a := 97#8) rfl rfl ?_
              refine O.mv ?_
              refine O.cut 4 (fun f f' => f' 129 = .bool (decide (97#8 ≤ c ||| 32#8 ∧ c ||| 32#8 ≤ 122#8)) ∧ f' 1 = f 1 ∧ f' 8 = f 8 ∧ f' 9 = f 9 ∧ f' 10 = f 10 ∧ f' 11 = f 11 ∧ f' 12 = f 12 ∧ f' 13 = f 13 ∧ f' 15 = f 15 ∧ f' 16 = f 16 ∧ f' 99 = f 99 ∧ f' 100 = f 100 ∧ f' 101 = f 101) ?_ ?_
              ·
                refine O.splitD (x := .tmp 125) rfl (fun c125 => ?_) (fun c125 => ?_)
                ·
                  refine O.yes rfl (isT rfl c125) ?_
                  refine O.mv ?_
                  refine O.yes rfl (isT rfl c125) ?_
                  refine O.call Tryd.call86 (args1 (Eq.trans s15_3 s15_2)) (lower_spec _ _) ?_
                  rintro v_127 w2 ⟨rfl, hw_⟩
                  replace hw_ := hw_.symm
                  subst hw_
                  refine O.yes rfl (isT rfl c125) ?_
                  refine O.leqU (m := 8) (b := 122#8) rfl rfl ?_
                  refine O.pickT (isT rfl c125) ?_
                  refine O.nil ?_
                  refine ⟨⟨?_, rfl, rfl, rfl, rfl, rfl, rfl, rfl, rfl, rfl, rfl, rfl, rfl⟩, rfl⟩
                  first | exact rfl | exact Eq.trans rfl (congrArg Value.bool (dAnd (by assumption))) | exact Eq.trans rfl (congrArg Value.bool (dAndF (by assumption))) | exact Eq.trans rfl (congrArg Value.bool (dOr (by assumption))) | exact Eq.trans rfl (congrArg Value.bool (dOrT (by assumption)))
                ·
                  refine O.no rfl (noB (isF rfl c125) rfl) ?_
                  refine O.no rfl (noB (isF rfl c125) rfl) ?_
                  refine O.no rfl (noB (isF rfl c125) rfl) ?_
                  refine O.pickF (isF rfl c125) ?_
                  refine O.nil ?_
                  refine ⟨⟨?_, rfl, rfl, rfl, rfl, rfl, rfl, rfl, rfl, rfl, rfl, rfl, rfl⟩, rfl⟩
                  first | exact rfl | exact Eq.trans rfl (congrArg Value.bool (dAnd (by assumption))) | exact Eq.trans rfl (congrArg Value.bool (dAndF (by assumption))) | exact Eq.trans rfl (congrArg Value.bool (dOr (by assumption))) | exact Eq.trans rfl (congrArg Value.bool (dOrT (by assumption)))
              ·
                rintro f_4 ⟨s129_4, s1_4, s8_4, s9_4, s10_4, s11_4, s12_4, s13_4, s15_4, s16_4, s99_4, s100_4, s101_4⟩
                refine O.asg ?_
                refine O.nil ?_
                refine hK47 _ _ ?_
                refine C.condD s129_4 (fun c121 => ?_) (fun c121 => ?_)
                ·
                  refine C.region ?_
                  refine O.mv ?_
                  refine O.call Tryd.call86 (args1 (Eq.trans s15_4 (Eq.trans s15_3 s15_2))) (lower_spec _ _) ?_
                  rintro v_131 w2 ⟨rfl, hw_⟩
                  replace hw_ := hw_.symm
                  subst hw_
                  refine O.subU (m := 8) (b := 97#8) rfl rfl rfl rfl ?_
                  refine O.addU (m := 8) (b := 10#8) rfl rfl rfl rfl ?_
                  refine O.asg ?_
                  refine O.nil ?_
                  refine hK32 _ _ ?_
                  refine hK31 _ _ ?_
                  refine C.seqK fun K48 hK48 => ?_
                  refine C.seqK fun K49 hK49 => ?_
                  refine C.region ?_
                  refine O.mv ?_
                  refine O.mv ?_
                  refine O.convIU (m' := 8) Tryd.underlying3 Tryd.underlying5 rfl rfl (Eq.trans s1_4 (Eq.trans s1_3 (Eq.trans s1_2 s1_1))) ?_
                  refine O.cast (v' := .int .u8 ((16#8).toNat : Int)) rfl ?_
                  refine O.geqU (m := 8) (b := 16#8) rfl rfl ?_
                  refine O.nil ?_
                  refine hK49 _ _ ?_
                  refine C.condD rfl (fun c137 => ?_) (fun c137 => ?_)
                  ·
                    refine C.seqK fun K50 hK50 => ?_
                    refine C.region ?_
                    refine O.mkI Tryd.underlying116 rfl rfl ?_
                    refine O.asg ?_
                    refine O.asg ?_
                    refine O.nil ?_
                    refine hK50 _ _ ?_
                    refine C.ret ?_
                    refine Outs.two rfl rfl rfl ?_
                    first
                    | exact ⟨0#64, _, rfl, .inr ⟨by rw [c19]; rfl, _, rfl, .inr rfl⟩, e1⟩
                    | exact ⟨0#64, _, rfl, .inr ⟨Hex.from_none hk2 hp hc (by first | exact Hex.more_bad c112 c121 | exact Hex.more_ge (Hex.val_dig c112) c137 | exact Hex.more_ge (Hex.val_let c112 c121) c137 | exact Hex.more_cut (Hex.val_dig c112) c141 | exact Hex.more_cut (Hex.val_let c112 c121) c141 | exact Hex.more_o1 (Hex.val_dig c112) c155 | exact Hex.more_o1 (Hex.val_let c112 c121) c155 | exact Hex.more_o2 (Hex.val_dig c112) c159 | exact Hex.more_o2 (Hex.val_let c112 c121) c159) c19, _, rfl, by first | exact .inl rfl | exact .inr rfl⟩, e1⟩
                    | exact ⟨18446744073709551615#64, _, rfl, .inr ⟨Hex.from_none hk2 hp hc (by first | exact Hex.more_bad c112 c121 | exact Hex.more_ge (Hex.val_dig c112) c137 | exact Hex.more_ge (Hex.val_let c112 c121) c137 | exact Hex.more_cut (Hex.val_dig c112) c141 | exact Hex.more_cut (Hex.val_let c112 c121) c141 | exact Hex.more_o1 (Hex.val_dig c112) c155 | exact Hex.more_o1 (Hex.val_let c112 c121) c155 | exact Hex.more_o2 (Hex.val_dig c112) c159 | exact Hex.more_o2 (Hex.val_let c112 c121) c159) c19, _, rfl, by first | exact .inl rfl | exact .inr rfl⟩, e1⟩
                    | exact ⟨m, _, rfl, .inl ⟨Hex.from_end (by omega) hp c19, rfl⟩, e1⟩
                  ·
                    refine C.skip ?_
                    refine hK48 _ _ ?_
                    refine C.seqK fun K51 hK51 => ?_
                    refine C.seqK fun K52 hK52 => ?_
                    refine C.region ?_
                    refine O.mv ?_
                    refine O.mv ?_
                    refine O.geqU (m := 64) (b := 1152921504606846976#64) (Eq.trans s13_4 (Eq.trans s13_3 (Eq.trans s13_2 s13_1))) (Eq.trans s10_4 (Eq.trans s10_3 (Eq.trans s10_2 s10_1))) ?_
                    refine O.nil ?_
                    refine hK52 _ _ ?_
                    refine C.condD rfl (fun c141 => ?_) (fun c141 => ?_)
                    ·
                      refine C.seqK fun K53 hK53 => ?_
                      refine C.region ?_
                      refine O.mv ?_
                      refine O.mkI Tryd.underlying116 rfl rfl ?_
                      refine O.asg ?_
                      refine O.asg ?_
                      refine O.nil ?_
                      refine hK53 _ _ ?_
                      refine C.ret ?_
                      refine Outs.two rfl (Eq.trans s11_4 (Eq.trans s11_3 (Eq.trans s11_2 s11_1))) rfl ?_
                      first
                      | exact ⟨0#64, _, rfl, .inr ⟨by rw [c19]; rfl, _, rfl, .inr rfl⟩, e1⟩
                      | exact ⟨0#64, _, rfl, .inr ⟨Hex.from_none hk2 hp hc (by first | exact Hex.more_bad c112 c121 | exact Hex.more_ge (Hex.val_dig c112) c137 | exact Hex.more_ge (Hex.val_let c112 c121) c137 | exact Hex.more_cut (Hex.val_dig c112) c141 | exact Hex.more_cut (Hex.val_let c112 c121) c141 | exact Hex.more_o1 (Hex.val_dig c112) c155 | exact Hex.more_o1 (Hex.val_let c112 c121) c155 | exact Hex.more_o2 (Hex.val_dig c112) c159 | exact Hex.more_o2 (Hex.val_let c112 c121) c159) c19, _, rfl, by first | exact .inl rfl | exact .inr rfl⟩, e1⟩
                      | exact ⟨18446744073709551615#64, _, rfl, .inr ⟨Hex.from_none hk2 hp hc (by first | exact Hex.more_bad c112 c121 | exact Hex.more_ge (Hex.val_dig c112) c137 | exact Hex.more_ge (Hex.val_let c112 c121) c137 | exact Hex.more_cut (Hex.val_dig c112) c141 | exact Hex.more_cut (Hex.val_let c112 c121) c141 | exact Hex.more_o1 (Hex.val_dig c112) c155 | exact Hex.more_o1 (Hex.val_let c112 c121) c155 | exact Hex.more_o2 (Hex.val_dig c112) c159 | exact Hex.more_o2 (Hex.val_let c112 c121) c159) c19, _, rfl, by first | exact .inl rfl | exact .inr rfl⟩, e1⟩
                      | exact ⟨m, _, rfl, .inl ⟨Hex.from_end (by omega) hp c19, rfl⟩, e1⟩
                    ·
                      refine C.skip ?_
                      refine hK51 _ _ ?_
                      refine C.seqK fun K54 hK54 => ?_
                      refine C.region ?_
                      refine O.mv ?_
                      refine O.mv ?_
                      refine O.convIU (m' := 64) Tryd.underlying3 Tryd.underlying22 rfl rfl (Eq.trans s1_4 (Eq.trans s1_3 (Eq.trans s1_2 s1_1))) ?_
                      refine O.cast (v' := .int .u64 ((16#64).toNat : Int)) rfl ?_
                      refine O.mulU (m := 64) (b := 16#64) rfl rfl (Eq.trans s13_4 (Eq.trans s13_3 (Eq.trans s13_2 s13_1))) rfl ?_
                      refine O.asg ?_
                      refine O.nil ?_
                      refine hK54 _ _ ?_
                      refine C.seqK fun K55 hK55 => ?_
                      refine C.region ?_
                      refine O.mv ?_
                      refine O.mv ?_
                      refine O.convUU (m := 8) (m' := 64) Tryd.underlying5 Tryd.underlying22 rfl rfl rfl ?_
                      refine O.addU (m := 64) rfl rfl rfl rfl ?_
                      refine O.asg ?_
                      refine O.nil ?_
                      refine hK55 _ _ ?_
                      refine C.seqK fun K56 hK56 => ?_
                      refine C.seqK fun K57 hK57 => ?_
                      refine C.region ?_
                      refine O.mv ?_
                      refine O.mv ?_
                      refine O.lssU (m := 64) rfl rfl ?_
                      refine O.mv ?_
                      refine O.splitD (x := .tmp 155) rfl (fun c155 => ?_) (fun c155 => ?_)
                      ·
                        refine O.no rfl (noB (isT rfl c155) rfl) ?_
                        refine O.no rfl (noB (isT rfl c155) rfl) ?_
                        refine O.no rfl (noB (isT rfl c155) rfl) ?_
                        refine O.pickT (isT rfl c155) ?_
                        refine O.nil ?_
                        refine hK57 _ _ ?_
                        refine C.condT rfl ?_
                        refine C.seqK fun K58 hK58 => ?_
                        refine C.region ?_
                        refine O.mv ?_
                        refine O.mkI Tryd.underlying116 rfl rfl ?_
                        refine O.asg ?_
                        refine O.asg ?_
                        refine O.nil ?_
                        refine hK58 _ _ ?_
                        refine C.ret ?_
                        refine Outs.two rfl (Eq.trans s11_4 (Eq.trans s11_3 (Eq.trans s11_2 s11_1))) rfl ?_
                        first
                        | exact ⟨0#64, _, rfl, .inr ⟨by rw [c19]; rfl, _, rfl, .inr rfl⟩, e1⟩
                        | exact ⟨0#64, _, rfl, .inr ⟨Hex.from_none hk2 hp hc (by first | exact Hex.more_bad c112 c121 | exact Hex.more_ge (Hex.val_dig c112) c137 | exact Hex.more_ge (Hex.val_let c112 c121) c137 | exact Hex.more_cut (Hex.val_dig c112) c141 | exact Hex.more_cut (Hex.val_let c112 c121) c141 | exact Hex.more_o1 (Hex.val_dig c112) c155 | exact Hex.more_o1 (Hex.val_let c112 c121) c155 | exact Hex.more_o2 (Hex.val_dig c112) c159 | exact Hex.more_o2 (Hex.val_let c112 c121) c159) c19, _, rfl, by first | exact .inl rfl | exact .inr rfl⟩, e1⟩
                        | exact ⟨18446744073709551615#64, _, rfl, .inr ⟨Hex.from_none hk2 hp hc (by first | exact Hex.more_bad c112 c121 | exact Hex.more_ge (Hex.val_dig c112) c137 | exact Hex.more_ge (Hex.val_let c112 c121) c137 | exact Hex.more_cut (Hex.val_dig c112) c141 | exact Hex.more_cut (Hex.val_let c112 c121) c141 | exact Hex.more_o1 (Hex.val_dig c112) c155 | exact Hex.more_o1 (Hex.val_let c112 c121) c155 | exact Hex.more_o2 (Hex.val_dig c112) c159 | exact Hex.more_o2 (Hex.val_let c112 c121) c159) c19, _, rfl, by first | exact .inl rfl | exact .inr rfl⟩, e1⟩
                        | exact ⟨m, _, rfl, .inl ⟨Hex.from_end (by omega) hp c19, rfl⟩, e1⟩
                      ·
                        refine O.yes rfl (isF rfl c155) ?_
                        refine O.mv ?_
                        refine O.yes rfl (isF rfl c155) ?_
                        refine O.mv ?_
                        refine O.yes rfl (isF rfl c155) ?_
                        refine O.gtrU (m := 64) (b := 18446744073709551615#64) rfl (Eq.trans s11_4 (Eq.trans s11_3 (Eq.trans s11_2 s11_1))) ?_
                        refine O.pickF (isF rfl c155) ?_
                        refine O.nil ?_
                        refine hK57 _ _ ?_
                        refine C.condD rfl (fun c159 => ?_) (fun c159 => ?_)
                        ·
                          refine C.seqK fun K59 hK59 => ?_
                          refine C.region ?_
                          refine O.mv ?_
                          refine O.mkI Tryd.underlying116 rfl rfl ?_
                          refine O.asg ?_
                          refine O.asg ?_
                          refine O.nil ?_
                          refine hK59 _ _ ?_
                          refine C.ret ?_
                          refine Outs.two rfl (Eq.trans s11_4 (Eq.trans s11_3 (Eq.trans s11_2 s11_1))) rfl ?_
                          first
                          | exact ⟨0#64, _, rfl, .inr ⟨by rw [c19]; rfl, _, rfl, .inr rfl⟩, e1⟩
                          | exact ⟨0#64, _, rfl, .inr ⟨Hex.from_none hk2 hp hc (by first | exact Hex.more_bad c112 c121 | exact Hex.more_ge (Hex.val_dig c112) c137 | exact Hex.more_ge (Hex.val_let c112 c121) c137 | exact Hex.more_cut (Hex.val_dig c112) c141 | exact Hex.more_cut (Hex.val_let c112 c121) c141 | exact Hex.more_o1 (Hex.val_dig c112) c155 | exact Hex.more_o1 (Hex.val_let c112 c121) c155 | exact Hex.more_o2 (Hex.val_dig c112) c159 | exact Hex.more_o2 (Hex.val_let c112 c121) c159) c19, _, rfl, by first | exact .inl rfl | exact .inr rfl⟩, e1⟩
                          | exact ⟨18446744073709551615#64, _, rfl, .inr ⟨Hex.from_none hk2 hp hc (by first | exact Hex.more_bad c112 c121 | exact Hex.more_ge (Hex.val_dig c112) c137 | exact Hex.more_ge (Hex.val_let c112 c121) c137 | exact Hex.more_cut (Hex.val_dig c112) c141 | exact Hex.more_cut (Hex.val_let c112 c121) c141 | exact Hex.more_o1 (Hex.val_dig c112) c155 | exact Hex.more_o1 (Hex.val_let c112 c121) c155 | exact Hex.more_o2 (Hex.val_dig c112) c159 | exact Hex.more_o2 (Hex.val_let c112 c121) c159) c19, _, rfl, by first | exact .inl rfl | exact .inr rfl⟩, e1⟩
                          | exact ⟨m, _, rfl, .inl ⟨Hex.from_end (by omega) hp c19, rfl⟩, e1⟩
                        ·
                          refine C.skip ?_
                          refine hK56 _ _ ?_
                          refine C.region ?_
                          refine O.mv ?_
                          refine O.asg ?_
                          refine O.nil ?_
                          refine hK28 _ _ ?_
                          refine hK27 _ _ ?_
                          refine C.region ?_
                          refine O.addI (Eq.trans s101_4 (Eq.trans s101_3 (Eq.trans s101_2 s101_1))) rfl (by unfold InI; omega) ?_
                          refine O.mv ?_
                          refine O.nil ?_
                          refine ⟨(k + 1, _), ⟨rfl, rfl, (Eq.trans s12_4 (Eq.trans s12_3 (Eq.trans s12_2 s12_1))), (Eq.trans s1_4 (Eq.trans s1_3 (Eq.trans s1_2 s1_1))), (Eq.trans s8_4 (Eq.trans s8_3 (Eq.trans s8_2 s8_1))), (Eq.trans s9_4 (Eq.trans s9_3 (Eq.trans s9_2 s9_1))), (Eq.trans s10_4 (Eq.trans s10_3 (Eq.trans s10_2 s10_1))), (Eq.trans s11_4 (Eq.trans s11_3 (Eq.trans s11_2 s11_1))), (Eq.trans s99_4 (Eq.trans s99_3 (Eq.trans s99_2 s99_1))), (Eq.trans s100_4 (Eq.trans s100_3 (Eq.trans s100_2 s100_1))), rfl, ?_⟩, by first | omega | (simp only []; omega)⟩
                          refine ⟨by omega, ?_⟩
                          refine Hex.from_some hk2 hp hc ?_
                          first | exact Hex.more_ok (Hex.val_dig c112) c137 c141 c155 c159 | exact Hex.more_ok (Hex.val_let c112 c121) c137 c141 c155 c159
                ·
                  refine C.seqK fun K60 hK60 => ?_
                  refine C.region ?_
                  refine O.mkI Tryd.underlying116 rfl rfl ?_
                  refine O.asg ?_
                  refine O.asg ?_
                  refine O.nil ?_
                  refine hK60 _ _ ?_
                  refine C.ret ?_
                  refine Outs.two rfl rfl rfl ?_
                  first
                  | exact ⟨0#64, _, rfl, .inr ⟨by rw [c19]; rfl, _, rfl, .inr rfl⟩, e1⟩
                  | exact ⟨0#64, _, rfl, .inr ⟨Hex.from_none hk2 hp hc (by first | exact Hex.more_bad c112 c121 | exact Hex.more_ge (Hex.val_dig c112) c137 | exact Hex.more_ge (Hex.val_let c112 c121) c137 | exact Hex.more_cut (Hex.val_dig c112) c141 | exact Hex.more_cut (Hex.val_let c112 c121) c141 | exact Hex.more_o1 (Hex.val_dig c112) c155 | exact Hex.more_o1 (Hex.val_let c112 c121) c155 | exact Hex.more_o2 (Hex.val_dig c112) c159 | exact Hex.more_o2 (Hex.val_let c112 c121) c159) c19, _, rfl, by first | exact .inl rfl | exact .inr rfl⟩, e1⟩
                  | exact ⟨18446744073709551615#64, _, rfl, .inr ⟨Hex.from_none hk2 hp hc (by first | exact Hex.more_bad c112 c121 | exact Hex.more_ge (Hex.val_dig c112) c137 | exact Hex.more_ge (Hex.val_let c112 c121) c137 | exact Hex.more_cut (Hex.val_dig c112) c141 | exact Hex.more_cut (Hex.val_let c112 c121) c141 | exact Hex.more_o1 (Hex.val_dig c112) c155 | exact Hex.more_o1 (Hex.val_let c112 c121) c155 | exact Hex.more_o2 (Hex.val_dig c112) c159 | exact Hex.more_o2 (Hex.val_let c112 c121) c159) c19, _, rfl, by first | exact .inl rfl | exact .inr rfl⟩, e1⟩
                  | exact ⟨m, _, rfl, .inl ⟨Hex.from_end (by omega) hp c19, rfl⟩, e1⟩
      ·
        refine C.exit ?_
        refine hK24 _ _ ?_
        refine hK22 _ _ ?_
        refine C.seqK fun K61 hK61 => ?_
        refine C.seqK fun K62 hK62 => ?_
        refine C.region ?_
        refine O.mv ?_
        refine O.mv ?_
        refine O.no rfl (noB s12_1 rfl) ?_
        refine O.no rfl (noB s12_1 rfl) ?_
        refine O.no rfl (noB s12_1 rfl) ?_
        refine O.pickF s12_1 ?_
        refine O.nil ?_
        refine hK62 _ _ ?_
        refine C.condF rfl ?_
        refine C.skip ?_
        refine hK61 _ _ ?_
        refine C.seqK fun K63 hK63 => ?_
        refine C.region ?_
        refine O.mv ?_
        refine O.asg ?_
        refine O.asg ?_
        refine O.nil ?_
        refine hK63 _ _ ?_
        refine C.ret ?_
        refine Outs.two rfl s13_1 rfl ?_
        first
        | exact ⟨0#64, _, rfl, .inr ⟨by rw [c19]; rfl, _, rfl, .inr rfl⟩, e1⟩
        | exact ⟨0#64, _, rfl, .inr ⟨Hex.from_none hk2 hp hc (by first | exact Hex.more_bad c112 c121 | exact Hex.more_ge (Hex.val_dig c112) c137 | exact Hex.more_ge (Hex.val_let c112 c121) c137 | exact Hex.more_cut (Hex.val_dig c112) c141 | exact Hex.more_cut (Hex.val_let c112 c121) c141 | exact Hex.more_o1 (Hex.val_dig c112) c155 | exact Hex.more_o1 (Hex.val_let c112 c121) c155 | exact Hex.more_o2 (Hex.val_dig c112) c159 | exact Hex.more_o2 (Hex.val_let c112 c121) c159) c19, _, rfl, by first | exact .inl rfl | exact .inr rfl⟩, e1⟩
        | exact ⟨18446744073709551615#64, _, rfl, .inr ⟨Hex.from_none hk2 hp hc (by first | exact Hex.more_bad c112 c121 | exact Hex.more_ge (Hex.val_dig c112) c137 | exact Hex.more_ge (Hex.val_let c112 c121) c137 | exact Hex.more_cut (Hex.val_dig c112) c141 | exact Hex.more_cut (Hex.val_let c112 c121) c141 | exact Hex.more_o1 (Hex.val_dig c112) c155 | exact Hex.more_o1 (Hex.val_let c112 c121) c155 | exact Hex.more_o2 (Hex.val_dig c112) c159 | exact Hex.more_o2 (Hex.val_let c112 c121) c159) c19, _, rfl, by first | exact .inl rfl | exact .inr rfl⟩, e1⟩
        | exact ⟨m, _, rfl, .inl ⟨Hex.from_end (by omega) hp c19, rfl⟩, e1⟩


theorem pui64_ok (l : List UInt8) (n : BitVec 64) (w : World) (hl : l.length ≤ maxLen) (hp : Hex.parse 18446744073709551615#64 l = some n) :
    Ret Tryd.prog 73 #[str l, .int .i64 16, .int .i64 64] w (fun v w' => v = .tuple #[.int .u64 (n.toNat : Int), .nilIface] ∧ Le w w') := by
  refine (pui64_spec l w hl).mono ?_
  rintro v w' ⟨m, er, rfl, ⟨h1, rfl⟩ | ⟨h1, _⟩, e⟩
  · rw [hp] at h1; cases h1; exact ⟨rfl, e⟩
  · rw [hp] at h1; cases h1
theorem pui64_err (l : List UInt8) (w : World) (hl : l.length ≤ maxLen) (hp : Hex.parse 18446744073709551615#64 l = none) :
    Ret Tryd.prog 73 #[str l, .int .i64 16, .int .i64 64] w (fun v w' => ∃ (x : BitVec 64) (c : Int), v = .tuple #[.int .u64 (x.toNat : Int), .iface 116 (.int .i64 c)] ∧ (c = 1 ∨ c = 2) ∧ Le w w') := by
  refine (pui64_spec l w hl).mono ?_
  rintro v w' ⟨m, er, rfl, ⟨h1, _⟩ | ⟨_, c, rfl, hc⟩, e⟩
  · rw [hp] at h1; cases h1
  · exact ⟨m, c, rfl, hc, e⟩

theorem pu64_ok_spec (l : List UInt8) (n : BitVec 64) (w : World) (hl : l.length ≤ maxLen) (hp : Hex.parse 18446744073709551615#64 l = some n) :
    Ret Tryd.prog 53 #[str (l), .int .i64 (16), .int .i64 (64)] w (fun v w' => v = .tuple #[.int .u64 (n.toNat : Int), .nilIface] ∧ Le w w') := by
  refine enter (args := [str (l), .int .i64 (16), .int .i64 (64)]) (n := 26) Tryd.func53 rfl rfl (Nat.le_of_ble_eq_true rfl) ?_
  refine C.seqK fun K1 hK1 => ?_
  refine C.region ?_
  refine O.asg ?_
  refine O.asg ?_
  refine O.nil ?_
  refine hK1 _ _ ?_
  refine C.seqK fun K2 hK2 => ?_
  refine C.region ?_
  refine O.mv ?_
  refine O.mv ?_
  refine O.mv ?_
  refine O.call Tryd.call73 (args3 rfl rfl rfl) (pui64_ok _ _ _ hl hp) ?_
  rintro v_14 w1 ⟨rfl, e1⟩
  have z1 := e1.size
  refine O.mv ?_
  refine O.extract rfl rfl ?_
  refine O.extract rfl rfl ?_
  refine O.asg ?_
  refine O.asg ?_
  refine O.nil ?_
  refine hK2 _ _ ?_
  refine C.seqK fun K3 hK3 => ?_
  refine C.seqK fun K4 hK4 => ?_
  refine C.region ?_
  refine O.mv ?_
  refine O.neqN0 rfl Tryd.underlying73 ?_
  refine O.nil ?_
  refine hK4 _ _ ?_
  refine C.condF rfl ?_
  refine C.skip ?_
  refine hK3 _ _ ?_
  refine C.seqK fun K5 hK5 => ?_
  refine C.region ?_
  refine O.mv ?_
  refine O.asg ?_
  refine O.asg ?_
  refine O.nil ?_
  refine hK5 _ _ ?_
  refine C.ret ?_
  refine Outs.two rfl rfl rfl ?_
  exact ⟨rfl, e1⟩

theorem pu64_err_spec (l : List UInt8) (es er : Value) (w : World) (hl : l.length ≤ 281474976710656) (hp : Hex.parse 18446744073709551615#64 l = none) (hes : CellIs w 3 es) (her : CellIs w 4 er) (h1 : ∃ te pe, es = .iface te pe) (h2 : ∃ te pe, er = .iface te pe) :
    Ret Tryd.prog 53 #[str (l), .int .i64 (16), .int .i64 (64)] w (fun v w' => ∃ (x : BitVec 64) (y : Value), v = .tuple #[.int .u64 (x.toNat : Int), .iface 119 y] ∧ Le w w') := by
  refine enter (args := [str (l), .int .i64 (16), .int .i64 (64)]) (n := 26) Tryd.func53 rfl rfl (Nat.le_of_ble_eq_true rfl) ?_
  refine C.seqK fun K1 hK1 => ?_
  refine C.region ?_
  refine O.asg ?_
  refine O.asg ?_
  refine O.nil ?_
  refine hK1 _ _ ?_
  refine C.seqK fun K2 hK2 => ?_
  refine C.region ?_
  refine O.mv ?_
  refine O.mv ?_
  refine O.mv ?_
  refine O.call Tryd.call73 (args3 rfl rfl rfl) (pui64_err _ _ (by unfold maxLen; omega) hp) ?_
  rintro v_14 w1 ⟨xv14, cv14, rfl, hcv14, e1⟩
  have z1 := e1.size
  refine O.mv ?_
  refine O.extract rfl rfl ?_
  refine O.extract rfl rfl ?_
  refine O.asg ?_
  refine O.asg ?_
  refine O.nil ?_
  refine hK2 _ _ ?_
  refine C.seqK fun K3 hK3 => ?_
  refine C.seqK fun K4 hK4 => ?_
  refine C.region ?_
  refine O.mv ?_
  refine O.neqN1 rfl rfl Tryd.underlying73 ?_
  refine O.nil ?_
  refine hK4 _ _ ?_
  refine C.condT rfl ?_
  refine C.seqK fun K5 hK5 => ?_
  refine C.region ?_
  refine O.mv ?_
  refine O.mv ?_
  refine O.mv ?_
  refine O.mv ?_
  refine O.mv ?_
  refine O.call Tryd.call74 (args5 rfl rfl rfl rfl rfl) (toErr_spec _ l _ _ _ _ _ _ hl (hes.keep e1) (her.keep e1) h1 h2 hcv14) ?_
  rintro v_24 w2 ⟨yv24, rfl, e2⟩
  have z2 := e2.size
  refine O.asg ?_
  refine O.asg ?_
  refine O.nil ?_
  refine hK5 _ _ ?_
  refine C.ret ?_
  refine Outs.two rfl rfl rfl ?_
  exact ⟨_, _, rfl, (Ext.trans e1 e2)⟩

end Go.Proofs.YtbadfphdniliaaaDoor
