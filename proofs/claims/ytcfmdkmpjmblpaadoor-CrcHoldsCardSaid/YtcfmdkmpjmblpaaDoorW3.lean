/-
  The walks of the laws of check sums. Conditions: slices as they lie in memory; the library's table and its two errors lie in memory.
-/
import Derived.Test.YtcfmdkmpjmblpaaDoorLaw
import Derived.Test.YtcfmdkmpjmblpaaDoorW2
namespace Go.Proofs.YtcfmdkmpjmblpaaDoor
open Go.Pn Go.RowKit

set_option maxHeartbeats 1000000 in
theorem known_spec (es er : Value) (w : World) (hT : Row byteE w (fun k => k = 5) 5 0 Hex.bruijn) (hes : CellIs w 2 es) (her : CellIs w 3 er) (h1 : ∃ te pe, es = .iface te pe) (h2 : ∃ te pe, er = .iface te pe) :
    Ret Tryd.prog 8 #[] w (fun v w' => v = .bool true ∧ Le w w') := by
  refine enter (args := []) (n := 64) Tryd.func8 rfl rfl (Nat.le_of_ble_eq_true rfl) ?_
  refine C.seqK fun K1 hK1 => ?_
  refine C.region ?_
  refine O.asg ?_
  refine O.nil ?_
  refine hK1 _ _ ?_
  refine C.seqK fun K2 hK2 => ?_
  refine C.region ?_
  refine O.lit (vs := [(0, .int .u8 49), (1, .int .u8 50), (2, .int .u8 51), (3, .int .u8 52), (4, .int .u8 53)]) (cells := #[.int .u8 49, .int .u8 50, .int .u8 51, .int .u8 52, .int .u8 53]) Tryd.underlying23 rfl rfl (by decide) (by decide) rfl (by kernel_rfl) (fun b4 w1 hb4 hz4 e1 => ?_)
  have z1 := e1.size
  have h4 := hz4.own
  have hl4 := h4.lt
  refine O.convBB Tryd.underlying23 Tryd.underlying5 rfl h4 (fun w2 h5 e2 => ?_)
  have e2n : Le w w2 := Ext.new e1 e2 (by rintro i hi rfl; omega)
  have z2 := e2.size
  have h1005 : Sl byteE w2 (fun k => k = b4) (.slice (some ⟨b4, 0, none⟩) 5 5) [49, 50, 51, 52, 53] := Sl.of_own (G := byteF) h5 rfl (by decide) (by unfold maxLen; omega) (by decide)
  refine O.call Tryd.call9 (args1 rfl) (sum_spec _ _ _ _ h1005) ?_
  rintro v_6 w3 ⟨rfl, e3⟩
  have z3 := e3.size
  refine O.lit (vs := [(0, .int .u8 54), (1, .int .u8 55), (2, .int .u8 56), (3, .int .u8 57)]) (cells := #[.int .u8 54, .int .u8 55, .int .u8 56, .int .u8 57]) Tryd.underlying23 rfl rfl (by decide) (by decide) rfl (by kernel_rfl) (fun b7 w4 hb7 hz7 e4 => ?_)
  have z4 := e4.size
  have h7 := hz7.own
  have hl7 := h7.lt
  refine O.convBB Tryd.underlying23 Tryd.underlying5 rfl h7 (fun w5 h8 e5 => ?_)
  have e5n : Le w3 w5 := Ext.new e4 e5 (by rintro i hi rfl; omega)
  have z5 := e5.size
  have h1008 : Sl byteE w5 (fun k => k = b7) (.slice (some ⟨b7, 0, none⟩) 4 4) [54, 55, 56, 57] := Sl.of_own (G := byteF) h8 rfl (by decide) (by unfold maxLen; omega) (by decide)
  refine O.call Tryd.call9 (args1 rfl) (sum_spec _ _ _ _ h1008) ?_
  rintro v_9 w6 ⟨rfl, e6⟩
  have z6 := e6.size
  refine O.asg ?_
  refine O.asg ?_
  refine O.asg ?_
  refine O.nil ?_
  refine hK2 _ _ ?_
  refine C.seqK fun K3 hK3 => ?_
  refine C.seqK fun K4 hK4 => ?_
  refine C.region ?_
  refine O.call Tryd.call9 (args1 rfl) (sum_spec _ _ _ _ (Sl.nil byteE _ (fun _ => False))) ?_
  rintro v_10 w7 ⟨rfl, e7⟩
  have z7 := e7.size
  refine O.call Tryd.call15 (args1 rfl) (ctext_spec _ _ (((((hT.keep e2n).keep e3).keep e5n).keep e6).keep e7)) ?_
  rintro v_11 w8 ⟨rfl, e8⟩
  have z8 := e8.size
  refine O.neqS rfl rfl ?_
  refine O.cast (v' := .bool false) (congrArg Value.bool (by decide +kernel)) ?_
  refine O.mv ?_
  refine O.yes rfl rfl ?_
  refine O.lit (vs := [(0, .int .u8 0)]) (cells := #[.int .u8 0]) Tryd.underlying23 rfl rfl (by decide) (by decide) rfl (by kernel_rfl) (fun b14 w9 hb14 hz14 e9 => ?_)
  have z9 := e9.size
  have h14 := hz14.own
  have hl14 := h14.lt
  have h1014 : Sl byteE w9 (fun k => k = b14) (.slice (some ⟨b14, 0, none⟩) 1 1) [0] := Sl.of_own (G := byteF) h14 rfl (by decide) (by unfold maxLen; omega) (by decide)
  refine O.yes rfl rfl ?_
  refine O.call Tryd.call9 (args1 rfl) (sum_spec _ _ _ _ h1014) ?_
  rintro v_15 w10 ⟨rfl, e10⟩
  have z10 := e10.size
  refine O.yes rfl rfl ?_
  refine O.call Tryd.call15 (args1 rfl) (ctext_spec _ _ ((((((((hT.keep e2n).keep e3).keep e5n).keep e6).keep e7).keep e8).keep e9).keep e10)) ?_
  rintro v_16 w11 ⟨rfl, e11⟩
  have z11 := e11.size
  refine O.yes rfl rfl ?_
  refine O.neqS rfl rfl ?_
  refine O.cast (v' := .bool false) (congrArg Value.bool (by decide +kernel)) ?_
  refine O.pickF rfl ?_
  refine O.mv ?_
  refine O.yes rfl rfl ?_
  refine O.lit (vs := [(0, .int .u8 97)]) (cells := #[.int .u8 97]) Tryd.underlying23 rfl rfl (by decide) (by decide) rfl (by kernel_rfl) (fun b20 w12 hb20 hz20 e12 => ?_)
  have z12 := e12.size
  have h20 := hz20.own
  have hl20 := h20.lt
  refine O.yes rfl rfl ?_
  refine O.convBB Tryd.underlying23 Tryd.underlying5 rfl h20 (fun w13 h21 e13 => ?_)
  have e13n : Le w11 w13 := Ext.new e12 e13 (by rintro i hi rfl; omega)
  have z13 := e13.size
  have h1021 : Sl byteE w13 (fun k => k = b20) (.slice (some ⟨b20, 0, none⟩) 1 1) [97] := Sl.of_own (G := byteF) h21 rfl (by decide) (by unfold maxLen; omega) (by decide)
  refine O.yes rfl rfl ?_
  refine O.call Tryd.call9 (args1 rfl) (sum_spec _ _ _ _ h1021) ?_
  rintro v_22 w14 ⟨rfl, e14⟩
  have z14 := e14.size
  refine O.yes rfl rfl ?_
  refine O.call Tryd.call15 (args1 rfl) (ctext_spec _ _ (((((((((((hT.keep e2n).keep e3).keep e5n).keep e6).keep e7).keep e8).keep e9).keep e10).keep e11).keep e13n).keep e14)) ?_
  rintro v_23 w15 ⟨rfl, e15⟩
  have z15 := e15.size
  refine O.yes rfl rfl ?_
  refine O.neqS rfl rfl ?_
  refine O.cast (v' := .bool false) (congrArg Value.bool (by decide +kernel)) ?_
  refine O.pickF rfl ?_
  refine O.mv ?_
  refine O.yes rfl rfl ?_
  refine O.lit (vs := [(0, .int .u8 49), (1, .int .u8 50), (2, .int .u8 51), (3, .int .u8 52), (4, .int .u8 53), (5, .int .u8 54), (6, .int .u8 55), (7, .int .u8 56), (8, .int .u8 57)]) (cells := #[.int .u8 49, .int .u8 50, .int .u8 51, .int .u8 52, .int .u8 53, .int .u8 54, .int .u8 55, .int .u8 56, .int .u8 57]) Tryd.underlying23 rfl rfl (by decide) (by decide) rfl (by kernel_rfl) (fun b27 w16 hb27 hz27 e16 => ?_)
  have z16 := e16.size
  have h27 := hz27.own
  have hl27 := h27.lt
  refine O.yes rfl rfl ?_
  refine O.convBB Tryd.underlying23 Tryd.underlying5 rfl h27 (fun w17 h28 e17 => ?_)
  have e17n : Le w15 w17 := Ext.new e16 e17 (by rintro i hi rfl; omega)
  have z17 := e17.size
  have h1028 : Sl byteE w17 (fun k => k = b27) (.slice (some ⟨b27, 0, none⟩) 9 9) [49, 50, 51, 52, 53, 54, 55, 56, 57] := Sl.of_own (G := byteF) h28 rfl (by decide) (by unfold maxLen; omega) (by decide)
  refine O.yes rfl rfl ?_
  refine O.call Tryd.call9 (args1 rfl) (sum_spec _ _ _ _ h1028) ?_
  rintro v_29 w18 ⟨rfl, e18⟩
  have z18 := e18.size
  refine O.yes rfl rfl ?_
  refine O.call Tryd.call15 (args1 rfl) (ctext_spec _ _ ((((((((((((((hT.keep e2n).keep e3).keep e5n).keep e6).keep e7).keep e8).keep e9).keep e10).keep e11).keep e13n).keep e14).keep e15).keep e17n).keep e18)) ?_
  rintro v_30 w19 ⟨rfl, e19⟩
  have z19 := e19.size
  refine O.yes rfl rfl ?_
  refine O.neqS rfl rfl ?_
  refine O.cast (v' := .bool false) (congrArg Value.bool (by decide +kernel)) ?_
  refine O.pickF rfl ?_
  refine O.nil ?_
  refine hK4 _ _ ?_
  refine C.condF rfl ?_
  refine C.skip ?_
  refine hK3 _ _ ?_
  refine C.seqK fun K5 hK5 => ?_
  refine C.seqK fun K6 hK6 => ?_
  refine C.region ?_
  refine O.mv ?_
  refine O.lit (vs := [(0, .int .u8 54), (1, .int .u8 55), (2, .int .u8 56), (3, .int .u8 57)]) (cells := #[.int .u8 54, .int .u8 55, .int .u8 56, .int .u8 57]) Tryd.underlying23 rfl rfl (by decide) (by decide) rfl (by kernel_rfl) (fun b34 w20 hb34 hz34 e20 => ?_)
  have z20 := e20.size
  have h34 := hz34.own
  have hl34 := h34.lt
  refine O.convBB Tryd.underlying23 Tryd.underlying5 rfl h34 (fun w21 h35 e21 => ?_)
  have e21n : Le w19 w21 := Ext.new e20 e21 (by rintro i hi rfl; omega)
  have z21 := e21.size
  have h1035 : Sl byteE w21 (fun k => k = b34) (.slice (some ⟨b34, 0, none⟩) 4 4) [54, 55, 56, 57] := Sl.of_own (G := byteF) h35 rfl (by decide) (by unfold maxLen; omega) (by decide)
  refine O.call Tryd.call11 (args2 rfl rfl) (update_spec _ _ _ _ _ h1035) ?_
  rintro v_36 w22 ⟨rfl, e22⟩
  have z22 := e22.size
  refine O.mv ?_
  refine O.neqU (m := 32) (b := 3421780262#32) rfl rfl ?_
  refine O.cast (v' := .bool false) (congrArg Value.bool (by decide +kernel)) ?_
  refine O.mv ?_
  refine O.yes rfl rfl ?_
  refine O.mv ?_
  refine O.yes rfl rfl ?_
  refine O.mv ?_
  refine O.yes rfl rfl ?_
  refine O.mv ?_
  refine O.yes rfl rfl ?_
  refine O.call Tryd.call13 (args5 rfl rfl rfl rfl rfl) (joins_ok_spec (Crc.update 0#32 [49, 50, 51, 52, 53]) (Crc.update 0#32 [54, 55, 56, 57]) 4 3421780262#32 _ (by decide) (by decide +kernel)) ?_
  rintro v_43 w23 ⟨rfl, e23⟩
  have z23 := e23.size
  refine O.yes rfl rfl ?_
  refine O.not rfl ?_
  refine O.cast (v' := .bool false) rfl ?_
  refine O.pickF rfl ?_
  refine O.mv ?_
  refine O.yes rfl rfl ?_
  refine O.mv ?_
  refine O.yes rfl rfl ?_
  refine O.call Tryd.call15 (args1 rfl) (ctext_spec 3421780262#32 _ ((((((((((((((((((hT.keep e2n).keep e3).keep e5n).keep e6).keep e7).keep e8).keep e9).keep e10).keep e11).keep e13n).keep e14).keep e15).keep e17n).keep e18).keep e19).keep e21n).keep e22).keep e23)) ?_
  rintro v_48 w24 ⟨rfl, e24⟩
  have z24 := e24.size
  refine O.yes rfl rfl ?_
  refine O.neqS rfl rfl ?_
  refine O.cast (v' := .bool false) (congrArg Value.bool (by decide +kernel)) ?_
  refine O.pickF rfl ?_
  refine O.nil ?_
  refine hK6 _ _ ?_
  refine C.condF rfl ?_
  refine C.skip ?_
  refine hK5 _ _ ?_
  refine C.seqK fun K7 hK7 => ?_
  refine C.region ?_
  refine O.call Tryd.call13 (args5 rfl rfl rfl rfl rfl) (joins_no_spec 1#32 2#32 (-1) _ (by decide)) ?_
  rintro v_51 w25 ⟨rfl, e25⟩
  have z25 := e25.size
  refine O.mv ?_
  refine O.yes rfl rfl ?_
  refine O.call Tryd.call13 (args5 rfl rfl rfl rfl rfl) (joins_ok_spec 7#32 0#32 0 7#32 _ (by decide) (by decide +kernel)) ?_
  rintro v_53 w26 ⟨rfl, e26⟩
  have z26 := e26.size
  refine O.pickT rfl ?_
  refine O.mv ?_
  refine O.yes rfl rfl ?_
  refine O.call Tryd.call18 (args3 rfl rfl rfl) (parses_ok_spec _ es er 3523407757#32 _ (by decide) (((((((((((((((((((((hT.keep e2n).keep e3).keep e5n).keep e6).keep e7).keep e8).keep e9).keep e10).keep e11).keep e13n).keep e14).keep e15).keep e17n).keep e18).keep e19).keep e21n).keep e22).keep e23).keep e24).keep e25).keep e26) (((((((((((((((((((((hes.keep e2n).keep e3).keep e5n).keep e6).keep e7).keep e8).keep e9).keep e10).keep e11).keep e13n).keep e14).keep e15).keep e17n).keep e18).keep e19).keep e21n).keep e22).keep e23).keep e24).keep e25).keep e26) (((((((((((((((((((((her.keep e2n).keep e3).keep e5n).keep e6).keep e7).keep e8).keep e9).keep e10).keep e11).keep e13n).keep e14).keep e15).keep e17n).keep e18).keep e19).keep e21n).keep e22).keep e23).keep e24).keep e25).keep e26) h1 h2 (by decide +kernel)) ?_
  rintro v_56 w27 ⟨rfl, e27⟩
  have z27 := e27.size
  refine O.pickT rfl ?_
  refine O.mv ?_
  refine O.yes rfl rfl ?_
  refine O.call Tryd.call18 (args3 rfl rfl rfl) (parses_no_spec _ es er _ (by decide) ((((((((((((((((((((((hT.keep e2n).keep e3).keep e5n).keep e6).keep e7).keep e8).keep e9).keep e10).keep e11).keep e13n).keep e14).keep e15).keep e17n).keep e18).keep e19).keep e21n).keep e22).keep e23).keep e24).keep e25).keep e26).keep e27) ((((((((((((((((((((((hes.keep e2n).keep e3).keep e5n).keep e6).keep e7).keep e8).keep e9).keep e10).keep e11).keep e13n).keep e14).keep e15).keep e17n).keep e18).keep e19).keep e21n).keep e22).keep e23).keep e24).keep e25).keep e26).keep e27) ((((((((((((((((((((((her.keep e2n).keep e3).keep e5n).keep e6).keep e7).keep e8).keep e9).keep e10).keep e11).keep e13n).keep e14).keep e15).keep e17n).keep e18).keep e19).keep e21n).keep e22).keep e23).keep e24).keep e25).keep e26).keep e27) h1 h2 (by decide +kernel)) ?_
  rintro v_59 w28 ⟨rfl, e28⟩
  have z28 := e28.size
  refine O.pickT rfl ?_
  refine O.mv ?_
  refine O.yes rfl rfl ?_
  refine O.call Tryd.call18 (args3 rfl rfl rfl) (parses_no_spec _ es er _ (by decide) (((((((((((((((((((((((hT.keep e2n).keep e3).keep e5n).keep e6).keep e7).keep e8).keep e9).keep e10).keep e11).keep e13n).keep e14).keep e15).keep e17n).keep e18).keep e19).keep e21n).keep e22).keep e23).keep e24).keep e25).keep e26).keep e27).keep e28) (((((((((((((((((((((((hes.keep e2n).keep e3).keep e5n).keep e6).keep e7).keep e8).keep e9).keep e10).keep e11).keep e13n).keep e14).keep e15).keep e17n).keep e18).keep e19).keep e21n).keep e22).keep e23).keep e24).keep e25).keep e26).keep e27).keep e28) (((((((((((((((((((((((her.keep e2n).keep e3).keep e5n).keep e6).keep e7).keep e8).keep e9).keep e10).keep e11).keep e13n).keep e14).keep e15).keep e17n).keep e18).keep e19).keep e21n).keep e22).keep e23).keep e24).keep e25).keep e26).keep e27).keep e28) h1 h2 (by decide +kernel)) ?_
  rintro v_62 w29 ⟨rfl, e29⟩
  have z29 := e29.size
  refine O.pickT rfl ?_
  refine O.asg ?_
  refine O.nil ?_
  refine hK7 _ _ ?_
  refine C.ret ?_
  refine Outs.one rfl rfl ?_
  exact ⟨rfl, (Ext.trans (Ext.trans (Ext.trans (Ext.trans (Ext.trans (Ext.trans (Ext.trans (Ext.trans (Ext.trans (Ext.trans (Ext.trans (Ext.trans (Ext.trans (Ext.trans (Ext.trans (Ext.trans (Ext.trans (Ext.trans (Ext.trans (Ext.trans (Ext.trans (Ext.trans (Ext.trans e2n e3) e5n) e6) e7) e8) e9) e10) e11) e13n) e14) e15) e17n) e18) e19) e21n) e22) e23) e24) e25) e26) e27) e28) e29)⟩

theorem crcSums_spec (s : BitVec 32) (v1 : Value) (l : List UInt8) (F : Nat → Prop) (es er : Value) (w : World) (hl : Sl byteE w F v1 l) (hT : Row byteE w (fun k => k = 5) 5 0 Hex.bruijn) (hes : CellIs w 2 es) (her : CellIs w 3 er) (h1 : ∃ te pe, es = .iface te pe) (h2 : ∃ te pe, er = .iface te pe) :
    Ret Tryd.prog 3 #[.int .u32 ((s).toNat : Int), v1] w (fun v w' => v = .bool true ∧ Le w w') := by
  have hle := hl.le
  refine enter (args := [.int .u32 ((s).toNat : Int), v1]) (n := 36) Tryd.func3 rfl rfl (Nat.le_of_ble_eq_true rfl) ?_
  refine C.seqK fun K1 hK1 => ?_
  refine C.region ?_
  refine O.asg ?_
  refine O.nil ?_
  refine hK1 _ _ ?_
  refine C.seqK fun K2 hK2 => ?_
  refine C.seqK fun K3 hK3 => ?_
  refine C.region ?_
  refine O.mv ?_
  refine O.len Tryd.underlying23 rfl hl ?_
  refine O.gtrI rfl rfl ?_
  refine O.nil ?_
  refine hK3 _ _ ?_
  refine C.condD rfl (fun c8 => ?_) (fun c8 => ?_)
  ·
    refine C.seqK fun K4 hK4 => ?_
    refine C.region ?_
    refine O.call Tryd.call8 (argsN) (known_spec _ _ _ hT hes her h1 h2) ?_
    rintro v_9 w1 ⟨rfl, e1⟩
    have z1 := e1.size
    refine O.asg ?_
    refine O.nil ?_
    refine hK4 _ _ ?_
    refine C.ret ?_
    refine Outs.one rfl rfl ?_
    exact ⟨rfl, e1⟩
  ·
    refine C.skip ?_
    refine hK2 _ _ ?_
    refine C.seqK fun K5 hK5 => ?_
    refine C.region ?_
    refine O.mv ?_
    refine O.appF (G := byteF) Tryd.underlying23 rfl rfl rfl rfl rfl rfl (OwnF.nil _ _ _ _) hl (by show (0 + l.length) * 1 ≤ _; omega) (by unfold maxLen; simp; omega) (Nat.le_refl _) (fun v11 w2 h11 e2 => ?_)
    replace e2 : Le w w2 := e2.mono (fun _ _ h => h)
    have z2 := e2.size
    have h11s := h11.sl
    refine O.asg ?_
    refine O.nil ?_
    refine hK5 _ _ ?_
    refine C.seqK fun K6 hK6 => ?_
    refine C.region ?_
    refine O.mv ?_
    refine O.call Tryd.call9 (args1 rfl) (sum_spec _ _ _ _ h11s) ?_
    rintro v_13 w3 ⟨rfl, e3⟩
    have z3 := e3.size
    refine O.mv ?_
    refine O.call Tryd.call10 (args1 rfl) (refSum_spec _ _ _ _ ((hl.keep e2).keep e3)) ?_
    rintro v_15 w4 ⟨rfl, rfl⟩
    refine O.eqlU (m := 32) rfl rfl ?_
    refine O.cast (v' := .bool true) (congrArg Value.bool (by exact decide_eq_true rfl)) ?_
    refine O.mv ?_
    refine O.yes rfl rfl ?_
    refine O.mv ?_
    refine O.yes rfl rfl ?_
    refine O.mv ?_
    refine O.yes rfl rfl ?_
    refine O.call Tryd.call11 (args2 rfl rfl) (update_spec _ _ _ _ _ (h11s.keep e3)) ?_
    rintro v_20 w4 ⟨rfl, e4⟩
    have z4 := e4.size
    refine O.yes rfl rfl ?_
    refine O.mv ?_
    refine O.yes rfl rfl ?_
    refine O.mv ?_
    refine O.yes rfl rfl ?_
    refine O.call Tryd.call12 (args2 rfl rfl) (refUpdate_spec _ _ _ _ _ (((hl.keep e2).keep e3).keep e4)) ?_
    rintro v_23 w5 ⟨rfl, rfl⟩
    refine O.yes rfl rfl ?_
    refine O.eqlU (m := 32) rfl rfl ?_
    refine O.cast (v' := .bool true) (congrArg Value.bool (by exact decide_eq_true rfl)) ?_
    refine O.pickT rfl ?_
    refine O.mv ?_
    refine O.yes rfl rfl ?_
    refine O.mv ?_
    refine O.yes rfl rfl ?_
    refine O.bytesS Tryd.underlying23 Tryd.underlying5 Tryd.underlying9 rfl ((h11s.keep e3).keep e4) ?_
    refine O.yes rfl rfl ?_
    refine O.mv ?_
    refine O.yes rfl rfl ?_
    refine O.bytesS Tryd.underlying23 Tryd.underlying5 Tryd.underlying9 rfl (((hl.keep e2).keep e3).keep e4) ?_
    refine O.yes rfl rfl ?_
    refine O.eqlS rfl rfl ?_
    refine O.cast (v' := .bool true) (congrArg Value.bool (by exact decide_eq_true rfl)) ?_
    refine O.pickT rfl ?_
    refine O.mv ?_
    refine O.yes rfl rfl ?_
    refine O.call Tryd.call8 (argsN) (known_spec _ _ _ (((hT.keep e2).keep e3).keep e4) (((hes.keep e2).keep e3).keep e4) (((her.keep e2).keep e3).keep e4) h1 h2) ?_
    rintro v_34 w5 ⟨rfl, e5⟩
    have z5 := e5.size
    refine O.pickT rfl ?_
    refine O.asg ?_
    refine O.nil ?_
    refine hK6 _ _ ?_
    refine C.ret ?_
    refine Outs.one rfl rfl ?_
    exact ⟨rfl, (Ext.trans (Ext.trans (Ext.trans e2 e3) e4) e5)⟩

theorem crcJoins_spec (a b : BitVec 32) (len : Int) (es er : Value) (w : World) (hT : Row byteE w (fun k => k = 5) 5 0 Hex.bruijn) (hes : CellIs w 2 es) (her : CellIs w 3 er) (h1 : ∃ te pe, es = .iface te pe) (h2 : ∃ te pe, er = .iface te pe) :
    Ret Tryd.prog 4 #[.int .u32 ((a).toNat : Int), .int .u32 ((b).toNat : Int), .int .i64 (len)] w (fun v w' => v = .bool true ∧ Le w w') := by
  refine enter (args := [.int .u32 ((a).toNat : Int), .int .u32 ((b).toNat : Int), .int .i64 (len)]) (n := 34) Tryd.func4 rfl rfl (Nat.le_of_ble_eq_true rfl) ?_
  refine C.seqK fun K1 hK1 => ?_
  refine C.region ?_
  refine O.asg ?_
  refine O.nil ?_
  refine hK1 _ _ ?_
  refine C.seqK fun K2 hK2 => ?_
  refine C.seqK fun K3 hK3 => ?_
  refine C.region ?_
  refine O.mv ?_
  refine O.lssI rfl rfl ?_
  refine O.mv ?_
  refine O.cut 3 (fun f f' => f' 12 = .bool (decide (len < 0 ∨ len > 16777216)) ∧ f' 0 = f 0 ∧ f' 1 = f 1 ∧ f' 2 = f 2 ∧ f' 6 = f 6) ?_ ?_
  ·
    refine O.splitD (x := .tmp 9) rfl (fun c9 => ?_) (fun c9 => ?_)
    ·
      refine O.no rfl (noB (isT rfl c9) rfl) ?_
      refine O.no rfl (noB (isT rfl c9) rfl) ?_
      refine O.pickT (isT rfl c9) ?_
      refine O.nil ?_
      refine ⟨⟨?_, rfl, rfl, rfl, rfl⟩, rfl⟩
      first | exact rfl | exact Eq.trans rfl (congrArg Value.bool (dAnd (by assumption))) | exact Eq.trans rfl (congrArg Value.bool (dAndF (by assumption))) | exact Eq.trans rfl (congrArg Value.bool (dOr (by assumption))) | exact Eq.trans rfl (congrArg Value.bool (dOrT (by assumption)))
    ·
      refine O.yes rfl (isF rfl c9) ?_
      refine O.mv ?_
      refine O.yes rfl (isF rfl c9) ?_
      refine O.gtrI rfl rfl ?_
      refine O.pickF (isF rfl c9) ?_
      refine O.nil ?_
      refine ⟨⟨?_, rfl, rfl, rfl, rfl⟩, rfl⟩
      first | exact rfl | exact Eq.trans rfl (congrArg Value.bool (dAnd (by assumption))) | exact Eq.trans rfl (congrArg Value.bool (dAndF (by assumption))) | exact Eq.trans rfl (congrArg Value.bool (dOr (by assumption))) | exact Eq.trans rfl (congrArg Value.bool (dOrT (by assumption)))
  ·
    rintro f_1 ⟨s12_1, s0_1, s1_1, s2_1, s6_1⟩
    refine O.nil ?_
    refine hK3 _ _ ?_
    refine C.condD s12_1 (fun c12 => ?_) (fun c12 => ?_)
    ·
      refine C.seqK fun K4 hK4 => ?_
      refine C.region ?_
      refine O.mv ?_
      refine O.mv ?_
      refine O.mv ?_
      refine O.call Tryd.call13 (args5 s0_1 s1_1 s2_1 rfl rfl) (joins_no_spec _ _ _ _ (by omega)) ?_
      rintro v_16 w1 ⟨rfl, e1⟩
      have z1 := e1.size
      refine O.mv ?_
      refine O.yes rfl rfl ?_
      refine O.call Tryd.call8 (argsN) (known_spec _ _ _ (hT.keep e1) (hes.keep e1) (her.keep e1) h1 h2) ?_
      rintro v_18 w2 ⟨rfl, e2⟩
      have z2 := e2.size
      refine O.pickT rfl ?_
      refine O.asg ?_
      refine O.nil ?_
      refine hK4 _ _ ?_
      refine C.ret ?_
      refine Outs.one rfl rfl ?_
      exact ⟨rfl, (Ext.trans e1 e2)⟩
    ·
      refine C.skip ?_
      refine hK2 _ _ ?_
      refine C.seqK fun K5 hK5 => ?_
      refine C.seqK fun K6 hK6 => ?_
      refine C.region ?_
      refine O.mv ?_
      refine O.gtrI s2_1 rfl ?_
      refine O.nil ?_
      refine hK6 _ _ ?_
      refine C.condD rfl (fun c21 => ?_) (fun c21 => ?_)
      ·
        refine C.seqK fun K7 hK7 => ?_
        refine C.region ?_
        refine O.call Tryd.call8 (argsN) (known_spec _ _ _ hT hes her h1 h2) ?_
        rintro v_22 w3 ⟨rfl, e3⟩
        have z3 := e3.size
        refine O.asg ?_
        refine O.nil ?_
        refine hK7 _ _ ?_
        refine C.ret ?_
        refine Outs.one rfl rfl ?_
        exact ⟨rfl, e3⟩
      ·
        refine C.skip ?_
        refine hK5 _ _ ?_
        refine C.seqK fun K8 hK8 => ?_
        refine C.region ?_
        refine O.mv ?_
        refine O.mv ?_
        refine O.mv ?_
        refine O.mv ?_
        refine O.mv ?_
        refine O.mv ?_
        obtain ⟨m, hm⟩ : ∃ m : Nat, len = m := ⟨len.toNat, by omega⟩
        have hm2 : m ≤ 16777216 := by omega
        refine O.cast (v' := .int .i64 (m : Int)) (Eq.trans s2_1 (by rw [← hm]; rfl)) ?_
        refine O.call Tryd.call14 (args3 s0_1 s1_1 rfl) (refJoin_spec _ _ _ _ hm2) ?_
        rintro v_29 w4 ⟨rfl, rfl⟩
        refine O.call Tryd.call13 (args5 s0_1 s1_1 s2_1 rfl rfl) (joins_ok_spec _ _ _ _ _ (by omega) (by rw [hm, Int.toNat_natCast])) ?_
        rintro v_30 w4 ⟨rfl, e4⟩
        have z4 := e4.size
        refine O.mv ?_
        refine O.yes rfl rfl ?_
        refine O.call Tryd.call8 (argsN) (known_spec _ _ _ (hT.keep e4) (hes.keep e4) (her.keep e4) h1 h2) ?_
        rintro v_32 w5 ⟨rfl, e5⟩
        have z5 := e5.size
        refine O.pickT rfl ?_
        refine O.asg ?_
        refine O.nil ?_
        refine hK8 _ _ ?_
        refine C.ret ?_
        refine Outs.one rfl rfl ?_
        exact ⟨rfl, (Ext.trans e4 e5)⟩

theorem crcLong_spec (v0 : Value) (l : List UInt8) (F : Nat → Prop) (fewer : Int) (es er : Value) (w : World) (hl : Sl byteE w F v0 l) (hT : Row byteE w (fun k => k = 5) 5 0 Hex.bruijn) (hes : CellIs w 2 es) (her : CellIs w 3 er) (h1 : ∃ te pe, es = .iface te pe) (h2 : ∃ te pe, er = .iface te pe) :
    Ret Tryd.prog 5 #[v0, .int .i64 (fewer)] w (fun v w' => v = .bool true ∧ Le w w') := by
  have hle := hl.le
  refine enter (args := [v0, .int .i64 (fewer)]) (n := 38) Tryd.func5 rfl rfl (Nat.le_of_ble_eq_true rfl) ?_
  refine C.seqK fun K1 hK1 => ?_
  refine C.region ?_
  refine O.asg ?_
  refine O.nil ?_
  refine hK1 _ _ ?_
  refine C.seqK fun K2 hK2 => ?_
  refine C.seqK fun K3 hK3 => ?_
  refine C.region ?_
  refine O.mv ?_
  refine O.len Tryd.underlying23 rfl hl ?_
  refine O.gtrI rfl rfl ?_
  refine O.mv ?_
  refine O.splitD (x := .tmp 11) rfl (fun c11 => ?_) (fun c11 => ?_)
  ·
    refine O.no rfl (noB (isT rfl c11) rfl) ?_
    refine O.no rfl (noB (isT rfl c11) rfl) ?_
    refine O.pickT (isT rfl c11) ?_
    refine O.mv ?_
    refine O.no rfl (noB rfl rfl) ?_
    refine O.no rfl (noB rfl rfl) ?_
    refine O.pickT rfl ?_
    refine O.nil ?_
    refine hK3 _ _ ?_
    refine C.condT rfl ?_
    refine C.seqK fun K4 hK4 => ?_
    refine C.region ?_
    refine O.call Tryd.call8 (argsN) (known_spec _ _ _ hT hes her h1 h2) ?_
    rintro v_19 w1 ⟨rfl, e1⟩
    have z1 := e1.size
    refine O.asg ?_
    refine O.nil ?_
    refine hK4 _ _ ?_
    refine C.ret ?_
    refine Outs.one rfl rfl ?_
    exact ⟨rfl, e1⟩
  ·
    refine O.yes rfl (isF rfl c11) ?_
    refine O.mv ?_
    refine O.yes rfl (isF rfl c11) ?_
    refine O.lssI rfl rfl ?_
    refine O.pickF (isF rfl c11) ?_
    refine O.mv ?_
    refine O.splitD (x := .tmp 15) rfl (fun c15 => ?_) (fun c15 => ?_)
    ·
      refine O.no rfl (noB (isT rfl c15) rfl) ?_
      refine O.no rfl (noB (isT rfl c15) rfl) ?_
      refine O.pickT (isT rfl c15) ?_
      refine O.nil ?_
      refine hK3 _ _ ?_
      refine C.condT rfl ?_
      refine C.seqK fun K5 hK5 => ?_
      refine C.region ?_
      refine O.call Tryd.call8 (argsN) (known_spec _ _ _ hT hes her h1 h2) ?_
      rintro v_19 w2 ⟨rfl, e2⟩
      have z2 := e2.size
      refine O.asg ?_
      refine O.nil ?_
      refine hK5 _ _ ?_
      refine C.ret ?_
      refine Outs.one rfl rfl ?_
      exact ⟨rfl, e2⟩
    ·
      refine O.yes rfl (isF rfl c15) ?_
      refine O.mv ?_
      refine O.yes rfl (isF rfl c15) ?_
      refine O.gtrI rfl rfl ?_
      refine O.pickF (isF rfl c15) ?_
      refine O.nil ?_
      refine hK3 _ _ ?_
      refine C.condD rfl (fun c18 => ?_) (fun c18 => ?_)
      ·
        refine C.seqK fun K6 hK6 => ?_
        refine C.region ?_
        refine O.call Tryd.call8 (argsN) (known_spec _ _ _ hT hes her h1 h2) ?_
        rintro v_19 w3 ⟨rfl, e3⟩
        have z3 := e3.size
        refine O.asg ?_
        refine O.nil ?_
        refine hK6 _ _ ?_
        refine C.ret ?_
        refine Outs.one rfl rfl ?_
        exact ⟨rfl, e3⟩
      ·
        refine C.skip ?_
        refine hK2 _ _ ?_
        refine C.seqK fun K7 hK7 => ?_
        refine C.region ?_
        refine O.mv ?_
        refine O.subI rfl rfl (by unfold InI; omega) ?_
        obtain ⟨m, hm⟩ : ∃ m : Nat, (16777216 : Int) - fewer = m := ⟨_, (Int.toNat_of_nonneg (by omega)).symm⟩
        have hm2 : m ≤ 16777216 := by omega
        refine O.cast (v' := .int .i64 (m : Int)) (by rw [hm]) ?_
        refine O.mkF (G := byteF) (zx := 0) Tryd.underlying23 rfl rfl rfl rfl rfl rfl (by show 1 * m ≤ _; omega) (by unfold maxLen; omega) (Nat.le_refl _) (fun b22 w4 hb22 hz22 ho22 e4 => ?_)
        have z4 := e4.size
        have ho22s := ho22.sl
        refine O.asg ?_
        refine O.nil ?_
        refine hK7 _ _ ?_
        refine C.seqK fun K8 hK8 => ?_
        refine C.region ?_
        refine O.mv ?_
        refine O.call Tryd.call9 (args1 rfl) (sum_spec _ _ _ _ (hl.keep e4)) ?_
        rintro v_24 w5 ⟨rfl, e5⟩
        have z5 := e5.size
        refine O.mv ?_
        refine O.call Tryd.call9 (args1 rfl) (sum_spec _ _ _ _ (ho22s.keep e5)) ?_
        rintro v_26 w6 ⟨rfl, e6⟩
        have z6 := e6.size
        refine O.asg ?_
        refine O.asg ?_
        refine O.nil ?_
        refine hK8 _ _ ?_
        refine C.seqK fun K9 hK9 => ?_
        refine C.region ?_
        refine O.mv ?_
        refine O.mv ?_
        refine O.mv ?_
        refine O.len Tryd.underlying23 rfl ((ho22s.keep e5).keep e6) ?_
        refine O.cast (v' := .int .i64 (m : Int)) (by rw [List.length_replicate]) ?_
        refine O.mv ?_
        refine O.mv ?_
        refine O.call Tryd.call11 (args2 rfl rfl) (update_spec _ _ _ _ _ ((ho22s.keep e5).keep e6)) ?_
        rintro v_33 w7 ⟨rfl, e7⟩
        have z7 := e7.size
        refine O.call Tryd.call13 (args5 rfl rfl rfl rfl rfl) (joins_ok_spec _ _ _ _ _ (by omega) (by rw [Crc.update_join, List.length_replicate, Int.toNat_natCast])) ?_
        rintro v_34 w8 ⟨rfl, e8⟩
        have z8 := e8.size
        refine O.mv ?_
        refine O.yes rfl rfl ?_
        refine O.call Tryd.call8 (argsN) (known_spec _ _ _ (((((hT.keep e4).keep e5).keep e6).keep e7).keep e8) (((((hes.keep e4).keep e5).keep e6).keep e7).keep e8) (((((her.keep e4).keep e5).keep e6).keep e7).keep e8) h1 h2) ?_
        rintro v_36 w9 ⟨rfl, e9⟩
        have z9 := e9.size
        refine O.pickT rfl ?_
        refine O.asg ?_
        refine O.nil ?_
        refine hK9 _ _ ?_
        refine C.ret ?_
        refine Outs.one rfl rfl ?_
        exact ⟨rfl, (Ext.trans (Ext.trans (Ext.trans (Ext.trans (Ext.trans e4 e5) e6) e7) e8) e9)⟩

theorem crcTexts_a_spec (n : BitVec 32) (l : List UInt8) (m : BitVec 32) (es er : Value) (w : World) (hl : l.length ≤ maxLen) (hT : Row byteE w (fun k => k = 5) 5 0 Hex.bruijn) (hes : CellIs w 2 es) (her : CellIs w 3 er) (h1 : ∃ te pe, es = .iface te pe) (h2 : ∃ te pe, er = .iface te pe) (hr : Crc.rparse l = some m) :
    Ret Tryd.prog 6 #[.int .u32 ((n).toNat : Int), str (l)] w (fun v w' => v = .bool true ∧ Le w w') := by
  refine enter (args := [.int .u32 ((n).toNat : Int), str (l)]) (n := 34) Tryd.func6 rfl rfl (Nat.le_of_ble_eq_true rfl) ?_
  refine C.seqK fun K1 hK1 => ?_
  refine C.region ?_
  refine O.asg ?_
  refine O.nil ?_
  refine hK1 _ _ ?_
  refine C.seqK fun K2 hK2 => ?_
  refine C.seqK fun K3 hK3 => ?_
  refine C.region ?_
  refine O.mv ?_
  refine O.lenS Tryd.underlying9 rfl ?_
  refine O.gtrI rfl rfl ?_
  refine O.nil ?_
  refine hK3 _ _ ?_
  refine C.condD rfl (fun c9 => ?_) (fun c9 => ?_)
  ·
    refine C.seqK fun K4 hK4 => ?_
    refine C.region ?_
    refine O.call Tryd.call8 (argsN) (known_spec _ _ _ hT hes her h1 h2) ?_
    rintro v_10 w1 ⟨rfl, e1⟩
    have z1 := e1.size
    refine O.asg ?_
    refine O.nil ?_
    refine hK4 _ _ ?_
    refine C.ret ?_
    refine Outs.one rfl rfl ?_
    exact ⟨rfl, e1⟩
  ·
    refine C.skip ?_
    refine hK2 _ _ ?_
    refine C.seqK fun K5 hK5 => ?_
    refine C.seqK fun K6 hK6 => ?_
    refine C.region ?_
    refine O.mv ?_
    refine O.call Tryd.call15 (args1 rfl) (ctext_spec _ _ hT) ?_
    rintro v_12 w2 ⟨rfl, e2⟩
    have z2 := e2.size
    refine O.mv ?_
    refine O.call Tryd.call16 (args1 rfl) (rtext_spec _ _) ?_
    rintro v_14 w3 ⟨rfl, rfl⟩
    refine O.neqS rfl rfl ?_
    refine O.cast (v' := .bool false) (congrArg Value.bool (by exact decide_eq_false (fun h => h rfl))) ?_
    refine O.nil ?_
    refine hK6 _ _ ?_
    refine C.condF rfl ?_
    refine C.skip ?_
    refine hK5 _ _ ?_
    refine C.seqK fun K7 hK7 => ?_
    refine C.region ?_
    refine O.mv ?_
    refine O.call Tryd.call17 (args1 rfl) (rparse_ok _ _ _ hl hr) ?_
    rintro v_18 w3 ⟨rfl, rfl⟩
    refine O.mv ?_
    refine O.extract rfl rfl ?_
    refine O.extract rfl rfl ?_
    refine O.asg ?_
    refine O.asg ?_
    refine O.nil ?_
    refine hK7 _ _ ?_
    refine C.seqK fun K8 hK8 => ?_
    refine C.seqK fun K9 hK9 => ?_
    refine C.region ?_
    refine O.mv ?_
    refine O.not rfl ?_
    refine O.cast (v' := .bool false) rfl ?_
    refine O.nil ?_
    refine hK9 _ _ ?_
    refine C.condF rfl ?_
    refine C.skip ?_
    refine hK8 _ _ ?_
    refine C.seqK fun K10 hK10 => ?_
    refine C.region ?_
    refine O.mv ?_
    refine O.mv ?_
    refine O.call Tryd.call18 (args3 rfl rfl rfl) (parses_ok_spec _ _ _ _ _ (by omega) (hT.keep e2) (hes.keep e2) (her.keep e2) h1 h2 (by rw [Crc.pparse_eq, hr])) ?_
    rintro v_30 w3 ⟨rfl, e3⟩
    have z3 := e3.size
    refine O.mv ?_
    refine O.yes rfl rfl ?_
    refine O.call Tryd.call8 (argsN) (known_spec _ _ _ ((hT.keep e2).keep e3) ((hes.keep e2).keep e3) ((her.keep e2).keep e3) h1 h2) ?_
    rintro v_32 w4 ⟨rfl, e4⟩
    have z4 := e4.size
    refine O.pickT rfl ?_
    refine O.asg ?_
    refine O.nil ?_
    refine hK10 _ _ ?_
    refine C.ret ?_
    refine Outs.one rfl rfl ?_
    exact ⟨rfl, (Ext.trans (Ext.trans e2 e3) e4)⟩

theorem crcTexts_b_spec (n : BitVec 32) (l : List UInt8) (es er : Value) (w : World) (hl : l.length ≤ maxLen) (hT : Row byteE w (fun k => k = 5) 5 0 Hex.bruijn) (hes : CellIs w 2 es) (her : CellIs w 3 er) (h1 : ∃ te pe, es = .iface te pe) (h2 : ∃ te pe, er = .iface te pe) (hr : Crc.rparse l = none) :
    Ret Tryd.prog 6 #[.int .u32 ((n).toNat : Int), str (l)] w (fun v w' => v = .bool true ∧ Le w w') := by
  refine enter (args := [.int .u32 ((n).toNat : Int), str (l)]) (n := 34) Tryd.func6 rfl rfl (Nat.le_of_ble_eq_true rfl) ?_
  refine C.seqK fun K1 hK1 => ?_
  refine C.region ?_
  refine O.asg ?_
  refine O.nil ?_
  refine hK1 _ _ ?_
  refine C.seqK fun K2 hK2 => ?_
  refine C.seqK fun K3 hK3 => ?_
  refine C.region ?_
  refine O.mv ?_
  refine O.lenS Tryd.underlying9 rfl ?_
  refine O.gtrI rfl rfl ?_
  refine O.nil ?_
  refine hK3 _ _ ?_
  refine C.condD rfl (fun c9 => ?_) (fun c9 => ?_)
  ·
    refine C.seqK fun K4 hK4 => ?_
    refine C.region ?_
    refine O.call Tryd.call8 (argsN) (known_spec _ _ _ hT hes her h1 h2) ?_
    rintro v_10 w1 ⟨rfl, e1⟩
    have z1 := e1.size
    refine O.asg ?_
    refine O.nil ?_
    refine hK4 _ _ ?_
    refine C.ret ?_
    refine Outs.one rfl rfl ?_
    exact ⟨rfl, e1⟩
  ·
    refine C.skip ?_
    refine hK2 _ _ ?_
    refine C.seqK fun K5 hK5 => ?_
    refine C.seqK fun K6 hK6 => ?_
    refine C.region ?_
    refine O.mv ?_
    refine O.call Tryd.call15 (args1 rfl) (ctext_spec _ _ hT) ?_
    rintro v_12 w2 ⟨rfl, e2⟩
    have z2 := e2.size
    refine O.mv ?_
    refine O.call Tryd.call16 (args1 rfl) (rtext_spec _ _) ?_
    rintro v_14 w3 ⟨rfl, rfl⟩
    refine O.neqS rfl rfl ?_
    refine O.cast (v' := .bool false) (congrArg Value.bool (by exact decide_eq_false (fun h => h rfl))) ?_
    refine O.nil ?_
    refine hK6 _ _ ?_
    refine C.condF rfl ?_
    refine C.skip ?_
    refine hK5 _ _ ?_
    refine C.seqK fun K7 hK7 => ?_
    refine C.region ?_
    refine O.mv ?_
    refine O.call Tryd.call17 (args1 rfl) (rparse_no _ _ hl hr) ?_
    rintro v_18 w3 ⟨rfl, rfl⟩
    refine O.mv ?_
    refine O.extract rfl rfl ?_
    refine O.extract rfl rfl ?_
    refine O.asg ?_
    refine O.asg ?_
    refine O.nil ?_
    refine hK7 _ _ ?_
    refine C.seqK fun K8 hK8 => ?_
    refine C.seqK fun K9 hK9 => ?_
    refine C.region ?_
    refine O.mv ?_
    refine O.not rfl ?_
    refine O.cast (v' := .bool true) rfl ?_
    refine O.nil ?_
    refine hK9 _ _ ?_
    refine C.condT rfl ?_
    refine C.seqK fun K10 hK10 => ?_
    refine C.region ?_
    refine O.mv ?_
    refine O.call Tryd.call18 (args3 rfl rfl rfl) (parses_no_spec _ _ _ _ (by omega) (hT.keep e2) (hes.keep e2) (her.keep e2) h1 h2 (by rw [Crc.pparse_eq, hr])) ?_
    rintro v_24 w3 ⟨rfl, e3⟩
    have z3 := e3.size
    refine O.mv ?_
    refine O.yes rfl rfl ?_
    refine O.call Tryd.call8 (argsN) (known_spec _ _ _ ((hT.keep e2).keep e3) ((hes.keep e2).keep e3) ((her.keep e2).keep e3) h1 h2) ?_
    rintro v_26 w4 ⟨rfl, e4⟩
    have z4 := e4.size
    refine O.pickT rfl ?_
    refine O.asg ?_
    refine O.nil ?_
    refine hK10 _ _ ?_
    refine C.ret ?_
    refine Outs.one rfl rfl ?_
    exact ⟨rfl, (Ext.trans (Ext.trans e2 e3) e4)⟩


theorem crcTexts_spec (n : BitVec 32) (l : List UInt8) (es er : Value) (w : World) (hl : l.length ≤ maxLen) (hT : Row byteE w (fun k => k = 5) 5 0 Hex.bruijn) (hes : CellIs w 2 es) (her : CellIs w 3 er) (h1 : ∃ te pe, es = .iface te pe) (h2 : ∃ te pe, er = .iface te pe) : Ret Tryd.prog 6 #[.int .u32 (n.toNat : Int), str l] w (fun v w' => v = .bool true ∧ Le w w') := by
  cases hr : Crc.rparse l with
  | none => exact crcTexts_b_spec n l es er w hl hT hes her h1 h2 hr
  | some m => exact crcTexts_a_spec n l m es er w hl hT hes her h1 h2 hr

end Go.Proofs.YtcfmdkmpjmblpaaDoor
