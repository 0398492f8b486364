/-
  The walks of what is known, and of the laws. Conditions: slices as they lie in memory.
-/
import Derived.Test.YtnkcmaoaagnopaaGreatDoorC12
namespace Go.Proofs.YtnkcmaoaagnopaaGreatDoor
open Go.Pn Go.RowKit Go.Proofs
attribute [local irreducible] O C D

set_option maxHeartbeats 8000000 in
theorem known_spec (w : World) (mx : Mx w) :
    Ret Tryz.prog 14 #[] w (fun v w' => v = .bool true ∧ Le w w') := by
  obtain ⟨ie5, ti5, ts5, tb5, tz5⟩ := inf5
  refine enter (args := []) (n := 80) Tryz.func14 rfl rfl (Nat.le_of_ble_eq_true rfl) ?_
  refine C.seqK fun K1 hK1 => ?_
  refine C.region ?_
  refine O.asg ?_
  refine O.nil ?_
  refine hK1 _ _ ?_
  refine C.seqK fun K2 hK2 => ?_
  refine C.region ?_
  refine O.call Tryz.call37 (argsN) (example_spec _) ?_
  rintro v_8 w1 ⟨vav8, vbv8, vcv8, rfl, hxv8, hyv8, hzv8, e1⟩
  have z1 := e1.size
  refine O.alloc Tryz.zeroValue28 (fun b1 w2 hb1 hz1 e2 => ?_)
  have z2 := e2.size
  have h1 := hz1.own
  have hl1 := h1.lt
  refine O.storeA (vs := [vav8, vbv8, vcv8]) Tryz.sizeOf28 rfl rfl rfl (ones3c hxv8.oneC hyv8.oneC hzv8.oneC) h1 (Nat.le_of_ble_eq_true rfl) (fun w3 hs3 e3 z3 => ?_)
  refine O.nil ?_
  refine hK2 _ _ ?_
  refine C.seqK fun K3 hK3 => ?_
  refine C.region ?_
  refine O.fieldAd Tryz.underlying28 rfl Tryz.sizeOf25 (by decide) rfl ?_
  refine O.loadOA Tryz.isAgg25 Tryz.sizeOf25 rfl hs3 (Nat.le_of_ble_eq_true rfl) ?_
  refine O.call Tryz.call16 (args1 rfl) (context_spec vav8 vbv8 Cn.exam.1 _ _ ((hxv8.keep e2).keepM e3 (by intro k hk h; first | (have q1 := hF k hk; (try dsimp only at h); omega) | (have q1 := hF2 k hk; (try dsimp only at h); omega) | (have q1 := hFb k hk; (try dsimp only at h); omega) | ((try dsimp only at hk); (try dsimp only at h); omega))) ((hyv8.keep e2).keepM e3 (by intro k hk h; first | (have q1 := hF k hk; (try dsimp only at h); omega) | (have q1 := hF2 k hk; (try dsimp only at h); omega) | (have q1 := hFb k hk; (try dsimp only at h); omega) | ((try dsimp only at hk); (try dsimp only at h); omega))) (fun k hk => by have q1 := hk.2; omega) (by decide) (by decide)) ?_
  rintro v_12 w4 ⟨rv12, rfl, hv12, e4⟩
  have z4 := e4.size
  have h12s := hv12.sl
  refine O.mv ?_
  refine O.extract rfl rfl ?_
  refine O.extract rfl rfl ?_
  refine O.asg ?_
  refine O.asg ?_
  refine O.nil ?_
  refine hK3 _ _ ?_
  refine C.seqK fun K4 hK4 => ?_
  refine C.region ?_
  refine O.loadOA Tryz.isAgg28 Tryz.sizeOf28 rfl (hs3.keep e4) (Nat.le_of_ble_eq_true rfl) ?_
  refine O.call Tryz.call24 (args1 rfl) (size_spec vav8 vbv8 vcv8 Cn.exam _ _ (((hxv8.keep e2).keepM e3 (by intro k hk h; first | (have q1 := hF k hk; (try dsimp only at h); omega) | (have q1 := hF2 k hk; (try dsimp only at h); omega) | (have q1 := hFb k hk; (try dsimp only at h); omega) | ((try dsimp only at hk); (try dsimp only at h); omega))).keep e4) (((hyv8.keep e2).keepM e3 (by intro k hk h; first | (have q1 := hF k hk; (try dsimp only at h); omega) | (have q1 := hF2 k hk; (try dsimp only at h); omega) | (have q1 := hFb k hk; (try dsimp only at h); omega) | ((try dsimp only at hk); (try dsimp only at h); omega))).keep e4) (((hzv8.keep e2).keepM e3 (by intro k hk h; first | (have q1 := hF k hk; (try dsimp only at h); omega) | (have q1 := hF2 k hk; (try dsimp only at h); omega) | (have q1 := hFb k hk; (try dsimp only at h); omega) | ((try dsimp only at hk); (try dsimp only at h); omega))).keep e4) (fun k hk => by have q1 := hk.2; omega) (by decide) (by decide) (by decide) (by decide) (mx.keep (Ext.trans (Ext.new (Ext.trans e1 e2) e3 (by rintro i hi rfl; omega)) e4))) ?_
  rintro v_17 w5 ⟨rfl, e5⟩
  have z5 := e5.size
  refine O.mv ?_
  refine O.extract rfl rfl ?_
  refine O.extract rfl rfl ?_
  refine O.asg ?_
  refine O.asg ?_
  refine O.nil ?_
  refine hK4 _ _ ?_
  refine C.seqK fun K5 hK5 => ?_
  refine C.region ?_
  refine O.litn [.int .u8 7, .int .u8 7] Tryz.underlying32 ti5 ts5 tz5 rfl (by decide) (by decide) rfl (by simp [Value.oneCell']) (fun b21 w6 hb21 hz21 e6 => ?_)
  have z6 := e6.size
  have h21 := hz21.own
  have hl21 := h21.lt
  have h21s : Sl byteE w6 (fun k => k = b21) (.slice (some ⟨b21, 0, none⟩) 2 2) [7, 7] := Sl.of_own (G := byteF) h21 rfl (Nat.le_refl _) (by unfold maxLen; omega) (by simp [byteF])
  refine O.build (cells := #[.slice none 0 0, .slice none 0 0, .slice none 0 0]) rfl (by kernel_rfl) ?_
  refine O.call Tryz.call23 (args2 rfl rfl) (append_spec _ [7, 7] _ (.slice none 0 0) (.slice none 0 0) (.slice none 0 0) Cn.nil0 (fun _ => False) _ h21s (by decide) (Sl.nil _ _ _) (Sl.nil _ _ _) (Sl.nil _ _ _) (fun _ h => h.elim) (by decide) (by decide) (by decide) (by decide) (mx.keep (Ext.trans (Ext.trans (Ext.trans (Ext.new (Ext.trans e1 e2) e3 (by rintro i hi rfl; omega)) e4) e5) e6))) ?_
  rintro v_23 w7 ⟨rv23, rfl, hv23, e7⟩
  have z7 := e7.size
  have h23s := hv23.sl
  refine O.mv ?_
  refine O.extract rfl rfl ?_
  refine O.extract rfl rfl ?_
  refine O.asg ?_
  refine O.asg ?_
  refine O.nil ?_
  refine hK5 _ _ ?_
  refine C.seqK fun K6 hK6 => ?_
  refine C.seqK fun K7 hK7 => ?_
  refine C.region ?_
  refine O.build (cells := #[.slice none 0 0, .slice none 0 0, .slice none 0 0]) rfl (by kernel_rfl) ?_
  refine O.litn [.int .u8 0, .int .u8 0, .int .u8 0] Tryz.underlying32 ti5 ts5 tz5 rfl (by decide) (by decide) rfl (by simp [Value.oneCell']) (fun b27 w8 hb27 hz27 e8 => ?_)
  have z8 := e8.size
  have h27 := hz27.own
  have hl27 := h27.lt
  have h27s : Sl byteE w8 (fun k => k = b27) (.slice (some ⟨b27, 0, none⟩) 3 3) [0, 0, 0] := Sl.of_own (G := byteF) h27 rfl (Nat.le_refl _) (by unfold maxLen; omega) (by simp [byteF])
  refine O.call Tryz.call20 (args3 rfl rfl rfl) (encodes_spec (.slice none 0 0) (.slice none 0 0) (.slice none 0 0) Cn.nil0 (fun _ => False) _ [0, 0, 0] _ 0 _ (Sl.nil _ _ _) (Sl.nil _ _ _) (Sl.nil _ _ _) (fun _ h => h.elim) (by decide) (by decide) (by decide) (by decide) (mx.keep (Ext.trans (Ext.trans (Ext.trans (Ext.trans (Ext.trans (Ext.new (Ext.trans e1 e2) e3 (by rintro i hi rfl; omega)) e4) e5) e6) e7) e8)) h27s) ?_
  rintro v_28 w9 ⟨rfl, e9⟩
  have z9 := e9.size
  refine O.cast (v' := .bool true) (congrArg Value.bool (by simp [Cn.valid_nil0, Cn.bytes_nil0])) ?_
  refine O.not rfl ?_
  refine O.cast (v' := .bool false) rfl ?_
  refine O.mv ?_
  refine O.yes rfl rfl ?_
  refine O.loadOA Tryz.isAgg28 Tryz.sizeOf28 rfl ((((((hs3.keep e4).keep e5).keep e6).keep e7).keep e8).keep e9) (Nat.le_of_ble_eq_true rfl) ?_
  refine O.yes rfl rfl ?_
  refine O.litn [.int .u8 1, .int .u8 2, .int .u8 3, .int .u8 1, .int .u8 5, .int .u8 9, .int .u8 1, .int .u8 3, .int .u8 116, .int .u8 101, .int .u8 97, .int .u8 1, .int .u8 2, .int .u8 3, .int .u8 200, .int .u8 1, .int .u8 1] Tryz.underlying32 ti5 ts5 tz5 rfl (by decide) (by decide) rfl (by simp [Value.oneCell']) (fun b32 w10 hb32 hz32 e10 => ?_)
  have z10 := e10.size
  have h32 := hz32.own
  have hl32 := h32.lt
  have h32s : Sl byteE w10 (fun k => k = b32) (.slice (some ⟨b32, 0, none⟩) 17 17) [1, 2, 3, 1, 5, 9, 1, 3, 116, 101, 97, 1, 2, 3, 200, 1, 1] := Sl.of_own (G := byteF) h32 rfl (Nat.le_refl _) (by unfold maxLen; omega) (by simp [byteF])
  refine O.yes rfl rfl ?_
  refine O.call Tryz.call20 (args3 rfl rfl rfl) (encodes_spec vav8 vbv8 vcv8 Cn.exam _ _ [1, 2, 3, 1, 5, 9, 1, 3, 116, 101, 97, 1, 2, 3, 200, 1, 1] _ 0 _ (((((((((hxv8.keep e2).keepM e3 (by intro k hk h; first | (have q1 := hF k hk; (try dsimp only at h); omega) | (have q1 := hF2 k hk; (try dsimp only at h); omega) | (have q1 := hFb k hk; (try dsimp only at h); omega) | ((try dsimp only at hk); (try dsimp only at h); omega))).keep e4).keep e5).keep e6).keep e7).keep e8).keep e9).keep e10) (((((((((hyv8.keep e2).keepM e3 (by intro k hk h; first | (have q1 := hF k hk; (try dsimp only at h); omega) | (have q1 := hF2 k hk; (try dsimp only at h); omega) | (have q1 := hFb k hk; (try dsimp only at h); omega) | ((try dsimp only at hk); (try dsimp only at h); omega))).keep e4).keep e5).keep e6).keep e7).keep e8).keep e9).keep e10) (((((((((hzv8.keep e2).keepM e3 (by intro k hk h; first | (have q1 := hF k hk; (try dsimp only at h); omega) | (have q1 := hF2 k hk; (try dsimp only at h); omega) | (have q1 := hFb k hk; (try dsimp only at h); omega) | ((try dsimp only at hk); (try dsimp only at h); omega))).keep e4).keep e5).keep e6).keep e7).keep e8).keep e9).keep e10) (fun k hk => by have q1 := hk.2; omega) (by decide) (by decide) (by decide) (by decide) (mx.keep (Ext.trans (Ext.trans (Ext.trans (Ext.trans (Ext.trans (Ext.trans (Ext.trans (Ext.new (Ext.trans e1 e2) e3 (by rintro i hi rfl; omega)) e4) e5) e6) e7) e8) e9) e10)) h32s) ?_
  rintro v_33 w11 ⟨rfl, e11⟩
  have z11 := e11.size
  refine O.cast (v' := .bool true) (congrArg Value.bool (by simp [Cn.valid_exam, Cn.bytes_exam])) ?_
  refine O.yes rfl rfl ?_
  refine O.not rfl ?_
  refine O.cast (v' := .bool false) rfl ?_
  refine O.pickF rfl ?_
  refine O.mv ?_
  refine O.yes rfl rfl ?_
  refine O.mv ?_
  refine O.yes rfl rfl ?_
  refine O.bytesS Tryz.underlying32 Tryz.underlying5 Tryz.underlying9 rfl (((((((h12s.keep e5).keep e6).keep e7).keep e8).keep e9).keep e10).keep e11) ?_
  refine O.yes rfl rfl ?_
  refine O.litn [.int .u8 1, .int .u8 2, .int .u8 3, .int .u8 1, .int .u8 5, .int .u8 9] Tryz.underlying32 ti5 ts5 tz5 rfl (by decide) (by decide) rfl (by simp [Value.oneCell']) (fun b39 w12 hb39 hz39 e12 => ?_)
  have z12 := e12.size
  have h39 := hz39.own
  have hl39 := h39.lt
  have h39s : Sl byteE w12 (fun k => k = b39) (.slice (some ⟨b39, 0, none⟩) 6 6) [1, 2, 3, 1, 5, 9] := Sl.of_own (G := byteF) h39 rfl (Nat.le_refl _) (by unfold maxLen; omega) (by simp [byteF])
  refine O.yes rfl rfl ?_
  refine O.bytesS Tryz.underlying32 Tryz.underlying5 Tryz.underlying9 rfl h39s ?_
  refine O.yes rfl rfl ?_
  refine O.neqS rfl rfl ?_
  refine O.cast (v' := .bool false) (congrArg Value.bool (by simp [Cn.compact_exam, Cn.ctx_exam])) ?_
  refine O.pickF rfl ?_
  refine O.mv ?_
  refine O.yes rfl rfl ?_
  refine O.mv ?_
  refine O.yes rfl rfl ?_
  refine O.neqI rfl rfl ?_
  refine O.cast (v' := .bool false) (congrArg Value.bool (by simp [Cn.compact_exam])) ?_
  refine O.pickF rfl ?_
  refine O.mv ?_
  refine O.yes rfl rfl ?_
  refine O.mv ?_
  refine O.yes rfl rfl ?_
  refine O.neqI rfl rfl ?_
  refine O.cast (v' := .bool false) (congrArg Value.bool (by simp [Cn.valid_exam, Cn.bytes_exam])) ?_
  refine O.pickF rfl ?_
  refine O.mv ?_
  refine O.yes rfl rfl ?_
  refine O.mv ?_
  refine O.yes rfl rfl ?_
  refine O.neqI rfl rfl ?_
  refine O.cast (v' := .bool false) (congrArg Value.bool (by simp [Cn.valid_exam])) ?_
  refine O.pickF rfl ?_
  refine O.mv ?_
  refine O.yes rfl rfl ?_
  refine O.mv ?_
  refine O.yes rfl rfl ?_
  refine O.bytesS Tryz.underlying32 Tryz.underlying5 Tryz.underlying9 rfl (((((h23s.keep e8).keep e9).keep e10).keep e11).keep e12) ?_
  refine O.yes rfl rfl ?_
  refine O.litn [.int .u8 7, .int .u8 7, .int .u8 0, .int .u8 0, .int .u8 0] Tryz.underlying32 ti5 ts5 tz5 rfl (by decide) (by decide) rfl (by simp [Value.oneCell']) (fun b58 w13 hb58 hz58 e13 => ?_)
  have z13 := e13.size
  have h58 := hz58.own
  have hl58 := h58.lt
  have h58s : Sl byteE w13 (fun k => k = b58) (.slice (some ⟨b58, 0, none⟩) 5 5) [7, 7, 0, 0, 0] := Sl.of_own (G := byteF) h58 rfl (Nat.le_refl _) (by unfold maxLen; omega) (by simp [byteF])
  refine O.yes rfl rfl ?_
  refine O.bytesS Tryz.underlying32 Tryz.underlying5 Tryz.underlying9 rfl h58s ?_
  refine O.yes rfl rfl ?_
  refine O.neqS rfl rfl ?_
  refine O.cast (v' := .bool false) (congrArg Value.bool (by simp [Cn.valid_nil0, Cn.bytes_nil0])) ?_
  refine O.pickF rfl ?_
  refine O.mv ?_
  refine O.yes rfl rfl ?_
  refine O.mv ?_
  refine O.yes rfl rfl ?_
  refine O.neqI rfl rfl ?_
  refine O.cast (v' := .bool false) (congrArg Value.bool (by simp [Cn.valid_nil0])) ?_
  refine O.pickF rfl ?_
  refine O.nil ?_
  refine hK7 _ _ ?_
  refine C.condF rfl ?_
  refine C.skip ?_
  refine hK6 _ _ ?_
  refine C.seqK fun K8 hK8 => ?_
  refine C.region ?_
  refine O.fieldAd Tryz.underlying28 rfl Tryz.sizeOf25 (by decide) rfl ?_
  refine O.fieldAd Tryz.underlying25 rfl Tryz.sizeOf23 (by decide) rfl ?_
  refine O.store Tryz.sizeOf23 rfl rfl rfl ((((((((((hs3.keep e4).keep e5).keep e6).keep e7).keep e8).keep e9).keep e10).keep e11).keep e12).keep e13) (by simp) (fun w14 hs14 e14 z14 => ?_)
  try simp only [Nat.zero_add] at hs14
  refine O.nil ?_
  refine hK8 _ _ ?_
  refine C.seqK fun K9 hK9 => ?_
  refine C.region ?_
  refine O.build (cells := #[.slice none 0 0, .slice none 0 0, .slice none 0 0]) rfl (by kernel_rfl) ?_
  refine O.call Tryz.call37 (argsN) (example_spec _) ?_
  rintro v_69 w15 ⟨vav69, vbv69, vcv69, rfl, hxv69, hyv69, hzv69, e15⟩
  have z15 := e15.size
  refine O.call Tryz.call25 (args4 rfl rfl rfl rfl) (compares_spec (.slice none 0 0) (.slice none 0 0) (.slice none 0 0) Cn.nil0 (fun _ => False) vav69 vbv69 vcv69 Cn.exam _ (-1) 0 _ (Sl.nil _ _ _) (Sl.nil _ _ _) (Sl.nil _ _ _) (fun _ h => h.elim) (by decide) (by decide) (by decide) (by decide) (mx.keep (Ext.trans (Ext.new (Ext.trans (Ext.trans (Ext.trans (Ext.trans (Ext.trans (Ext.trans (Ext.trans (Ext.trans (Ext.trans (Ext.trans (Ext.new (Ext.trans e1 e2) e3 (by rintro i hi rfl; omega)) e4) e5) e6) e7) e8) e9) e10) e11) e12) e13) e14 (by rintro i hi rfl; omega)) e15)) hxv69 hyv69 hzv69 (fun k hk => by have q1 := hk.2; omega) (by decide) (by decide) (by decide) (by decide)) ?_
  rintro v_70 w16 ⟨rfl, e16⟩
  have z16 := e16.size
  refine O.cast (v' := .bool true) (congrArg Value.bool (by rw [Cn.valid_nil0, Cn.valid_exam, Cn.bytes_nil0, Cn.bytes_exam]; decide)) ?_
  refine O.mv ?_
  refine O.yes rfl rfl ?_
  refine O.call Tryz.call37 (argsN) (example_spec _) ?_
  rintro v_72 w17 ⟨vav72, vbv72, vcv72, rfl, hxv72, hyv72, hzv72, e17⟩
  have z17 := e17.size
  refine O.yes rfl rfl ?_
  refine O.call Tryz.call37 (argsN) (example_spec _) ?_
  rintro v_73 w18 ⟨vav73, vbv73, vcv73, rfl, hxv73, hyv73, hzv73, e18⟩
  have z18 := e18.size
  refine O.yes rfl rfl ?_
  refine O.call Tryz.call25 (args4 rfl rfl rfl rfl) (compares_spec vav72 vbv72 vcv72 Cn.exam _ vav73 vbv73 vcv73 Cn.exam _ 0 0 _ (hxv72.keep e18) (hyv72.keep e18) (hzv72.keep e18) (fun k hk => by have q1 := hk.2; omega) (by decide) (by decide) (by decide) (by decide) (mx.keep (Ext.trans (Ext.trans (Ext.trans (Ext.trans (Ext.new (Ext.trans (Ext.trans (Ext.trans (Ext.trans (Ext.trans (Ext.trans (Ext.trans (Ext.trans (Ext.trans (Ext.trans (Ext.new (Ext.trans e1 e2) e3 (by rintro i hi rfl; omega)) e4) e5) e6) e7) e8) e9) e10) e11) e12) e13) e14 (by rintro i hi rfl; omega)) e15) e16) e17) e18)) hxv73 hyv73 hzv73 (fun k hk => by have q1 := hk.2; omega) (by decide) (by decide) (by decide) (by decide)) ?_
  rintro v_74 w19 ⟨rfl, e19⟩
  have z19 := e19.size
  refine O.cast (v' := .bool true) (congrArg Value.bool (by rw [Cn.valid_exam, Cn.cmpB_self]; decide)) ?_
  refine O.pickT rfl ?_
  refine O.mv ?_
  refine O.yes rfl rfl ?_
  refine O.loadOA Tryz.isAgg28 Tryz.sizeOf28 rfl (((((hs14.keep e15).keep e16).keep e17).keep e18).keep e19) (Nat.le_of_ble_eq_true rfl) ?_
  refine O.yes rfl rfl ?_
  refine O.call Tryz.call20 (args3 rfl rfl rfl) (encodes_spec (.slice none 0 0) vbv8 vcv8 Cn.exam2 _ _ [] (fun _ => False) 2 _ (Sl.nil _ _ _) ((((((((((((((((((hyv8.keep e2).keepM e3 (by intro k hk h; first | (have q1 := hF k hk; (try dsimp only at h); omega) | (have q1 := hF2 k hk; (try dsimp only at h); omega) | (have q1 := hFb k hk; (try dsimp only at h); omega) | ((try dsimp only at hk); (try dsimp only at h); omega))).keep e4).keep e5).keep e6).keep e7).keep e8).keep e9).keep e10).keep e11).keep e12).keep e13).keepM e14 (by intro k hk h; first | (have q1 := hF k hk; (try dsimp only at h); omega) | (have q1 := hF2 k hk; (try dsimp only at h); omega) | (have q1 := hFb k hk; (try dsimp only at h); omega) | ((try dsimp only at hk); (try dsimp only at h); omega))).keep e15).keep e16).keep e17).keep e18).keep e19) ((((((((((((((((((hzv8.keep e2).keepM e3 (by intro k hk h; first | (have q1 := hF k hk; (try dsimp only at h); omega) | (have q1 := hF2 k hk; (try dsimp only at h); omega) | (have q1 := hFb k hk; (try dsimp only at h); omega) | ((try dsimp only at hk); (try dsimp only at h); omega))).keep e4).keep e5).keep e6).keep e7).keep e8).keep e9).keep e10).keep e11).keep e12).keep e13).keepM e14 (by intro k hk h; first | (have q1 := hF k hk; (try dsimp only at h); omega) | (have q1 := hF2 k hk; (try dsimp only at h); omega) | (have q1 := hFb k hk; (try dsimp only at h); omega) | ((try dsimp only at hk); (try dsimp only at h); omega))).keep e15).keep e16).keep e17).keep e18).keep e19) (fun k hk => by have q1 := hk.2; omega) (by decide) (by decide) (by decide) (by decide) (mx.keep (Ext.trans (Ext.trans (Ext.trans (Ext.trans (Ext.trans (Ext.new (Ext.trans (Ext.trans (Ext.trans (Ext.trans (Ext.trans (Ext.trans (Ext.trans (Ext.trans (Ext.trans (Ext.trans (Ext.new (Ext.trans e1 e2) e3 (by rintro i hi rfl; omega)) e4) e5) e6) e7) e8) e9) e10) e11) e12) e13) e14 (by rintro i hi rfl; omega)) e15) e16) e17) e18) e19)) (Sl.nil _ _ _)) ?_
  rintro v_78 w20 ⟨rfl, e20⟩
  have z20 := e20.size
  refine O.cast (v' := .bool true) (congrArg Value.bool (by rw [Cn.valid_exam2]; decide)) ?_
  refine O.pickT rfl ?_
  refine O.asg ?_
  refine O.nil ?_
  refine hK9 _ _ ?_
  refine C.ret ?_
  refine Outs.one rfl rfl ?_
  exact ⟨rfl, (Ext.trans (Ext.trans (Ext.trans (Ext.trans (Ext.trans (Ext.trans (Ext.new (Ext.trans (Ext.trans (Ext.trans (Ext.trans (Ext.trans (Ext.trans (Ext.trans (Ext.trans (Ext.trans (Ext.trans (Ext.new (Ext.trans e1 e2) e3 (by rintro i hi rfl; omega)) e4) e5) e6) e7) e8) e9) e10) e11) e12) e13) e14 (by rintro i hi rfl; omega)) e15) e16) e17) e18) e19) e20)⟩

set_option maxHeartbeats 8000000 in
theorem canonEncodes_spec (va1 va2 va3 : Value) (a : Cn.Cart) (F : Nat → Prop) (w : World) (hav : Sl Dt.dotF.enc w F va1 a.1.1) (hac : Sl Dt.dotF.enc w F va2 a.1.2) (hai : Sl itemE w F va3 a.2) (hF : ∀ k, F k → k < w.heap.size) (mx : Mx w) :
    Ret Tryz.prog 3 #[.agg #[va1, va2, va3]] w (fun v w' => v = .bool true ∧ Le w w') := by
  refine enter (args := [.agg #[va1, va2, va3]]) (n := 64) Tryz.func3 rfl rfl (Nat.le_of_ble_eq_true rfl) ?_
  refine C.seqK fun K1 hK1 => ?_
  refine C.region ?_
  refine O.box (v := .agg #[va1, va2, va3]) rfl (fun b1 w1 hb1 hz1 e1 => ?_)
  have z1 := e1.size
  have h1 := hz1.own
  have hl1 := h1.lt
  refine O.asg ?_
  refine O.nil ?_
  refine hK1 _ _ ?_
  refine C.seqK fun K2 hK2 => ?_
  refine C.seqK fun K3 hK3 => ?_
  refine C.region ?_
  refine O.loadOA Tryz.isAgg28 Tryz.sizeOf28 rfl h1 (Nat.le_of_ble_eq_true rfl) ?_
  refine O.call Tryz.call13 (args1 rfl) (small_spec va1 va2 va3 a F _ (hav.keep e1) (hac.keep e1) (hai.keep e1)) ?_
  rintro v_7 w2 ⟨rfl, e2⟩
  have z2 := e2.size
  refine O.not rfl ?_
  refine O.nil ?_
  refine hK3 _ _ ?_
  refine C.cond rfl (fun c8 => ?_) (fun c8 => ?_)
  ·
    refine C.seqK fun K4 hK4 => ?_
    refine C.region ?_
    refine O.call Tryz.call14 (argsN) (known_spec _ ((mx.keep e1).keep e2)) ?_
    rintro v_9 w3 ⟨rfl, e3⟩
    have z3 := e3.size
    refine O.asg ?_
    refine O.nil ?_
    refine hK4 _ _ ?_
    refine C.ret ?_
    refine Outs.one rfl rfl ?_
    exact ⟨rfl, (Ext.trans (Ext.trans e1 e2) e3)⟩
  ·
    have hsm : Cn.small a = true := by simpa using c8
    obtain ⟨hs1, hs2, hs3, hs4⟩ := Cn.small_iff hsm
    have hn : a.2.length ≤ 1000000 := by omega
    have hS : ∀ x ∈ a.2, x.1.length ≤ 1000000 ∧ x.2.length ≤ 1000000 := fun x hx => by have := hs4 x hx; omega
    have hp : a.1.1.length ≤ 1000000 := by omega
    have hq : a.1.2.length ≤ 1000000 := by omega
    refine C.skip ?_
    refine hK2 _ _ ?_
    refine C.seqK fun K5 hK5 => ?_
    refine C.region ?_
    refine O.loadOA Tryz.isAgg28 Tryz.sizeOf28 rfl (h1.keep e2) (Nat.le_of_ble_eq_true rfl) ?_
    refine O.call Tryz.call15 (args1 rfl) (copy_spec va1 va2 va3 a F _ ((hav.keep e1).keep e2) ((hac.keep e1).keep e2) ((hai.keep e1).keep e2) (fun k hk => by have q1 := hF k hk; omega) hn hS hp hq) ?_
    rintro v_11 w4 ⟨vav11, vbv11, vcv11, rfl, hxv11, hyv11, hzv11, e4⟩
    have z4 := e4.size
    refine O.alloc Tryz.zeroValue28 (fun b3 w5 hb3 hz3 e5 => ?_)
    have z5 := e5.size
    have h3 := hz3.own
    have hl3 := h3.lt
    refine O.storeA (vs := [vav11, vbv11, vcv11]) Tryz.sizeOf28 rfl rfl rfl (ones3c hxv11.oneC hyv11.oneC hzv11.oneC) h3 (Nat.le_of_ble_eq_true rfl) (fun w6 hs6 e6 z6 => ?_)
    refine O.nil ?_
    refine hK5 _ _ ?_
    refine C.seqK fun K6 hK6 => ?_
    refine C.region ?_
    refine O.fieldAd Tryz.underlying28 rfl Tryz.sizeOf25 (by decide) rfl ?_
    refine O.loadOA Tryz.isAgg25 Tryz.sizeOf25 rfl ((((h1.keep e2).keep e4).keep e5).keepM e6 (by intro h; (try dsimp only at h); omega)) (Nat.le_of_ble_eq_true rfl) ?_
    refine O.call Tryz.call16 (args1 rfl) (context_spec va1 va2 a.1 F _ (hav.keep (Ext.new (Ext.trans (Ext.trans (Ext.trans e1 e2) e4) e5) e6 (by rintro i hi rfl; omega))) (hac.keep (Ext.new (Ext.trans (Ext.trans (Ext.trans e1 e2) e4) e5) e6 (by rintro i hi rfl; omega))) (fun k hk => by have q1 := hF k hk; omega) hp hq) ?_
    rintro v_15 w7 ⟨rv15, rfl, hv15, e7⟩
    have z7 := e7.size
    have h15s := hv15.sl
    refine O.mv ?_
    refine O.extract rfl rfl ?_
    refine O.extract rfl rfl ?_
    refine O.asg ?_
    refine O.asg ?_
    refine O.nil ?_
    refine hK6 _ _ ?_
    refine C.seqK fun K7 hK7 => ?_
    refine C.seqK fun K8 hK8 => ?_
    refine C.region ?_
    refine O.fieldAd Tryz.underlying28 rfl Tryz.sizeOf25 (by decide) rfl ?_
    refine O.loadOA Tryz.isAgg25 Tryz.sizeOf25 rfl (((((h1.keep e2).keep e4).keep e5).keepM e6 (by intro h; (try dsimp only at h); omega)).keep e7) (Nat.le_of_ble_eq_true rfl) ?_
    refine O.call Tryz.call17 (args1 rfl) (isCompact_spec va1 va2 a.1 F _ (hav.keep (Ext.trans (Ext.new (Ext.trans (Ext.trans (Ext.trans e1 e2) e4) e5) e6 (by rintro i hi rfl; omega)) e7)) (hac.keep (Ext.trans (Ext.new (Ext.trans (Ext.trans (Ext.trans e1 e2) e4) e5) e6 (by rintro i hi rfl; omega)) e7))) ?_
    rintro v_20 w8 ⟨rfl, e8⟩
    have z8 := e8.size
    refine O.nil ?_
    refine hK8 _ _ ?_
    refine C.cond rfl (fun c20 => ?_) (fun c20 => ?_)
    ·
      refine C.seqK fun K9 hK9 => ?_
      refine C.draw (by kernel_rfl) fun w9 e9 => ?_
      have z9 := e9.size
      refine D.take (i := 0) rfl rfl rfl rfl (by kernel_rfl) (Le.refl _) ⟨pure _, rfl⟩ (fun w_ hw_ N_ hN => (O.mv (O.nil hN))) ?_
      refine D.take (i := 1) rfl rfl rfl rfl (by kernel_rfl) (Le.refl _) ⟨_, rfl⟩ (fun w_ hw_ N_ hN => (O.bytesS Tryz.underlying32 Tryz.underlying5 Tryz.underlying9 rfl (((h15s.keep e8).keep e9).keep hw_) (O.nil hN))) ?_
      refine D.take (i := 2) rfl rfl rfl rfl (by kernel_rfl) (Le.refl _) ⟨_, rfl⟩ (fun w_ hw_ N_ hN => (O.fieldAd Tryz.underlying28 rfl Tryz.sizeOf25 (by decide) rfl (O.nil hN))) ?_
      refine D.take (i := 3) rfl rfl rfl rfl (by kernel_rfl) (Le.refl _) ⟨_, rfl⟩ (fun w_ hw_ N_ hN => (O.loadOA Tryz.isAgg25 Tryz.sizeOf25 rfl ((((((((h1.keep e2).keep e4).keep e5).keepM e6 (by intro h; (try dsimp only at h); omega)).keep e7).keep e8).keep e9).keep hw_) (Nat.le_of_ble_eq_true rfl) (O.nil hN))) ?_
      refine D.one (i := 4) rfl rfl (by kernel_rfl) ?_
      refine O.call Tryz.call18 (args1 rfl) (rctx_spec va1 va2 a.1 F _ (hav.keep (Ext.trans (Ext.trans (Ext.trans (Ext.new (Ext.trans (Ext.trans (Ext.trans e1 e2) e4) e5) e6 (by rintro i hi rfl; omega)) e7) e8) e9)) (hac.keep (Ext.trans (Ext.trans (Ext.trans (Ext.new (Ext.trans (Ext.trans (Ext.trans e1 e2) e4) e5) e6 (by rintro i hi rfl; omega)) e7) e8) e9)) hp hq) ?_
      rintro v_25 w10 ⟨e10, h25⟩
      have z10 := e10.size
      refine O.nil ⟨e10, ?_⟩
      have h25s := h25.sl
      refine D.one (i := 5) rfl rfl (by kernel_rfl) ?_
      refine O.bytesS Tryz.underlying32 Tryz.underlying5 Tryz.underlying9 rfl h25s ?_
      refine O.nil ⟨e10, ?_⟩
      refine D.take (i := 6) rfl rfl rfl rfl (by kernel_rfl) e10 ⟨_, rfl⟩ (fun w_ hw_ N_ hN => (O.neqS rfl rfl (O.nil hN))) ?_
      refine D.cast (v' := .bool false) (congrArg Value.bool (by simp [c20])) ?_
      refine D.take (i := 7) rfl rfl rfl rfl (by kernel_rfl) e10 ⟨pure _, rfl⟩ (fun w_ hw_ N_ hN => (O.mv (O.nil hN))) ?_
      refine D.takeYes (i := 8) rfl rfl rfl (by kernel_rfl) rfl rfl e10 ⟨pure _, rfl⟩ (fun w_ hw_ N_ hN => (O.mv (O.nil hN))) ?_
      refine D.takeYes (i := 9) rfl rfl rfl (by kernel_rfl) rfl rfl e10 ⟨_, rfl⟩ (fun w_ hw_ N_ hN => (O.neqI rfl rfl (O.nil hN))) ?_
      refine D.cast (v' := .bool false) (congrArg Value.bool (by simp [c20])) ?_
      refine D.take (i := 10) rfl rfl rfl rfl (by kernel_rfl) e10 pick_form (fun w_ hw_ N_ hN => (O.pickF rfl (O.nil hN))) ?_
      refine D.done (by kernel_rfl) ?_
      refine hK9 _ _ ?_
      refine C.condF rfl ?_
      refine C.skip ?_
      refine hK7 _ _ ?_
      refine C.seqK fun K10 hK10 => ?_
      refine C.seqK fun K11 hK11 => ?_
      refine C.region ?_
      refine O.loadOA Tryz.isAgg28 Tryz.sizeOf28 rfl ((((((((h1.keep e2).keep e4).keep e5).keepM e6 (by intro h; (try dsimp only at h); omega)).keep e7).keep e8).keep e9).keep e10) (Nat.le_of_ble_eq_true rfl) ?_
      refine O.call Tryz.call19 (args1 rfl) (cartValid_spec va1 va2 va3 a F _ (hav.keep (Ext.trans (Ext.trans (Ext.trans (Ext.trans (Ext.new (Ext.trans (Ext.trans (Ext.trans e1 e2) e4) e5) e6 (by rintro i hi rfl; omega)) e7) e8) e9) e10)) (hac.keep (Ext.trans (Ext.trans (Ext.trans (Ext.trans (Ext.new (Ext.trans (Ext.trans (Ext.trans e1 e2) e4) e5) e6 (by rintro i hi rfl; omega)) e7) e8) e9) e10)) (hai.keep (Ext.trans (Ext.trans (Ext.trans (Ext.trans (Ext.new (Ext.trans (Ext.trans (Ext.trans e1 e2) e4) e5) e6 (by rintro i hi rfl; omega)) e7) e8) e9) e10)) (fun k hk => by have q1 := hF k hk; omega) hn hS (mx.keep (Ext.trans (Ext.trans (Ext.trans (Ext.trans (Ext.new (Ext.trans (Ext.trans (Ext.trans e1 e2) e4) e5) e6 (by rintro i hi rfl; omega)) e7) e8) e9) e10))) ?_
      rintro v_40 w11 ⟨rfl, e11⟩
      have z11 := e11.size
      refine O.not rfl ?_
      refine O.nil ?_
      refine hK11 _ _ ?_
      refine C.cond rfl (fun c41 => ?_) (fun c41 => ?_)
      ·
        have hva : Cn.valid a = false := by simpa using c41
        refine C.seqK fun K12 hK12 => ?_
        refine C.region ?_
        refine O.loadOA Tryz.isAgg28 Tryz.sizeOf28 rfl (((((((((h1.keep e2).keep e4).keep e5).keepM e6 (by intro h; (try dsimp only at h); omega)).keep e7).keep e8).keep e9).keep e10).keep e11) (Nat.le_of_ble_eq_true rfl) ?_
        refine O.call Tryz.call20 (args3 rfl rfl rfl) (encodes_spec va1 va2 va3 a F _ [] (fun _ => False) 2 _ (hav.keep (Ext.trans (Ext.trans (Ext.trans (Ext.trans (Ext.trans (Ext.new (Ext.trans (Ext.trans (Ext.trans e1 e2) e4) e5) e6 (by rintro i hi rfl; omega)) e7) e8) e9) e10) e11)) (hac.keep (Ext.trans (Ext.trans (Ext.trans (Ext.trans (Ext.trans (Ext.new (Ext.trans (Ext.trans (Ext.trans e1 e2) e4) e5) e6 (by rintro i hi rfl; omega)) e7) e8) e9) e10) e11)) (hai.keep (Ext.trans (Ext.trans (Ext.trans (Ext.trans (Ext.trans (Ext.new (Ext.trans (Ext.trans (Ext.trans e1 e2) e4) e5) e6 (by rintro i hi rfl; omega)) e7) e8) e9) e10) e11)) (fun k hk => by have q1 := hF k hk; omega) hn hS hp hq (mx.keep (Ext.trans (Ext.trans (Ext.trans (Ext.trans (Ext.trans (Ext.new (Ext.trans (Ext.trans (Ext.trans e1 e2) e4) e5) e6 (by rintro i hi rfl; omega)) e7) e8) e9) e10) e11)) (Sl.nil _ _ _)) ?_
        rintro v_43 w12 ⟨rfl, e12⟩
        have z12 := e12.size
        refine O.cast (v' := .bool true) (congrArg Value.bool (by simp [hva])) ?_
        refine O.mv ?_
        refine O.yes rfl rfl ?_
        refine O.loadOA Tryz.isAgg28 Tryz.sizeOf28 rfl ((((((((((h1.keep e2).keep e4).keep e5).keepM e6 (by intro h; (try dsimp only at h); omega)).keep e7).keep e8).keep e9).keep e10).keep e11).keep e12) (Nat.le_of_ble_eq_true rfl) ?_
        refine O.yes rfl rfl ?_
        refine O.loadOA Tryz.isAgg28 Tryz.sizeOf28 rfl ((((((hs6.keep e7).keep e8).keep e9).keep e10).keep e11).keep e12) (Nat.le_of_ble_eq_true rfl) ?_
        refine O.yes rfl rfl ?_
        refine O.call Tryz.call21 (args2 rfl rfl) (same_spec va1 va2 va3 a F vav11 vbv11 vcv11 a _ _ (hav.keep (Ext.trans (Ext.trans (Ext.trans (Ext.trans (Ext.trans (Ext.trans (Ext.new (Ext.trans (Ext.trans (Ext.trans e1 e2) e4) e5) e6 (by rintro i hi rfl; omega)) e7) e8) e9) e10) e11) e12)) (hac.keep (Ext.trans (Ext.trans (Ext.trans (Ext.trans (Ext.trans (Ext.trans (Ext.new (Ext.trans (Ext.trans (Ext.trans e1 e2) e4) e5) e6 (by rintro i hi rfl; omega)) e7) e8) e9) e10) e11) e12)) (hai.keep (Ext.trans (Ext.trans (Ext.trans (Ext.trans (Ext.trans (Ext.trans (Ext.new (Ext.trans (Ext.trans (Ext.trans e1 e2) e4) e5) e6 (by rintro i hi rfl; omega)) e7) e8) e9) e10) e11) e12)) ((((((((hxv11.keep e5).keepM e6 (by intro k hk h; first | (have q1 := hF k hk; (try dsimp only at h); omega) | (have q1 := hF2 k hk; (try dsimp only at h); omega) | (have q1 := hFb k hk; (try dsimp only at h); omega) | ((try dsimp only at hk); (try dsimp only at h); omega))).keep e7).keep e8).keep e9).keep e10).keep e11).keep e12) ((((((((hyv11.keep e5).keepM e6 (by intro k hk h; first | (have q1 := hF k hk; (try dsimp only at h); omega) | (have q1 := hF2 k hk; (try dsimp only at h); omega) | (have q1 := hFb k hk; (try dsimp only at h); omega) | ((try dsimp only at hk); (try dsimp only at h); omega))).keep e7).keep e8).keep e9).keep e10).keep e11).keep e12) ((((((((hzv11.keep e5).keepM e6 (by intro k hk h; first | (have q1 := hF k hk; (try dsimp only at h); omega) | (have q1 := hF2 k hk; (try dsimp only at h); omega) | (have q1 := hFb k hk; (try dsimp only at h); omega) | ((try dsimp only at hk); (try dsimp only at h); omega))).keep e7).keep e8).keep e9).keep e10).keep e11).keep e12) (fun k hk => by have q1 := hF k hk; omega) (fun k hk => by have q1 := hk.2; omega)) ?_
        rintro v_47 w13 ⟨rfl, e13⟩
        have z13 := e13.size
        refine O.cast (v' := .bool true) (congrArg Value.bool (by exact decide_eq_true rfl)) ?_
        refine O.pickT rfl ?_
        refine O.mv ?_
        refine O.yes rfl rfl ?_
        refine O.call Tryz.call14 (argsN) (known_spec _ (mx.keep (Ext.trans (Ext.trans (Ext.trans (Ext.trans (Ext.trans (Ext.trans (Ext.trans (Ext.new (Ext.trans (Ext.trans (Ext.trans e1 e2) e4) e5) e6 (by rintro i hi rfl; omega)) e7) e8) e9) e10) e11) e12) e13))) ?_
        rintro v_50 w14 ⟨rfl, e14⟩
        have z14 := e14.size
        refine O.pickT rfl ?_
        refine O.asg ?_
        refine O.nil ?_
        refine hK12 _ _ ?_
        refine C.ret ?_
        refine Outs.one rfl rfl ?_
        exact ⟨rfl, (Ext.trans (Ext.trans (Ext.trans (Ext.trans (Ext.trans (Ext.trans (Ext.trans (Ext.trans (Ext.new (Ext.trans (Ext.trans (Ext.trans e1 e2) e4) e5) e6 (by rintro i hi rfl; omega)) e7) e8) e9) e10) e11) e12) e13) e14)⟩
      ·
        have hva : Cn.valid a = true := by simpa using c41
        refine C.skip ?_
        refine hK10 _ _ ?_
        refine C.seqK fun K13 hK13 => ?_
        refine C.draw (by kernel_rfl) fun w15 e15 => ?_
        have z15 := e15.size
        refine D.take (i := 0) rfl rfl rfl rfl (by kernel_rfl) (Le.refl _) ⟨_, rfl⟩ (fun w_ hw_ N_ hN => (O.loadOA Tryz.isAgg28 Tryz.sizeOf28 rfl (((((((((((h1.keep e2).keep e4).keep e5).keepM e6 (by intro h; (try dsimp only at h); omega)).keep e7).keep e8).keep e9).keep e10).keep e11).keep e15).keep hw_) (Nat.le_of_ble_eq_true rfl) (O.nil hN))) ?_
        refine D.take (i := 1) rfl rfl rfl rfl (by kernel_rfl) (Le.refl _) ⟨_, rfl⟩ (fun w_ hw_ N_ hN => (O.loadOA Tryz.isAgg28 Tryz.sizeOf28 rfl (((((((((((h1.keep e2).keep e4).keep e5).keepM e6 (by intro h; (try dsimp only at h); omega)).keep e7).keep e8).keep e9).keep e10).keep e11).keep e15).keep hw_) (Nat.le_of_ble_eq_true rfl) (O.nil hN))) ?_
        refine D.one (i := 2) rfl rfl (by kernel_rfl) ?_
        refine O.call Tryz.call22 (args1 rfl) (rbytes_spec va1 va2 va3 a F _ (hav.keep (Ext.trans (Ext.trans (Ext.trans (Ext.trans (Ext.trans (Ext.trans (Ext.new (Ext.trans (Ext.trans (Ext.trans e1 e2) e4) e5) e6 (by rintro i hi rfl; omega)) e7) e8) e9) e10) e11) e15)) (hac.keep (Ext.trans (Ext.trans (Ext.trans (Ext.trans (Ext.trans (Ext.trans (Ext.new (Ext.trans (Ext.trans (Ext.trans e1 e2) e4) e5) e6 (by rintro i hi rfl; omega)) e7) e8) e9) e10) e11) e15)) (hai.keep (Ext.trans (Ext.trans (Ext.trans (Ext.trans (Ext.trans (Ext.trans (Ext.new (Ext.trans (Ext.trans (Ext.trans e1 e2) e4) e5) e6 (by rintro i hi rfl; omega)) e7) e8) e9) e10) e11) e15)) (fun k hk => by have q1 := hF k hk; omega) hn hS hp hq) ?_
        rintro v_54 w16 ⟨e16, h54⟩
        have z16 := e16.size
        refine O.nil ⟨e16, ?_⟩
        have h54s := h54.sl
        refine D.one (i := 3) rfl rfl (by kernel_rfl) ?_
        refine O.call Tryz.call20 (args3 rfl rfl rfl) (encodes_spec va1 va2 va3 a F _ (Cn.bytes a) _ 0 _ (hav.keep (Ext.trans (Ext.trans (Ext.trans (Ext.trans (Ext.trans (Ext.trans (Ext.trans (Ext.new (Ext.trans (Ext.trans (Ext.trans e1 e2) e4) e5) e6 (by rintro i hi rfl; omega)) e7) e8) e9) e10) e11) e15) e16)) (hac.keep (Ext.trans (Ext.trans (Ext.trans (Ext.trans (Ext.trans (Ext.trans (Ext.trans (Ext.new (Ext.trans (Ext.trans (Ext.trans e1 e2) e4) e5) e6 (by rintro i hi rfl; omega)) e7) e8) e9) e10) e11) e15) e16)) (hai.keep (Ext.trans (Ext.trans (Ext.trans (Ext.trans (Ext.trans (Ext.trans (Ext.trans (Ext.new (Ext.trans (Ext.trans (Ext.trans e1 e2) e4) e5) e6 (by rintro i hi rfl; omega)) e7) e8) e9) e10) e11) e15) e16)) (fun k hk => by have q1 := hF k hk; omega) hn hS hp hq (mx.keep (Ext.trans (Ext.trans (Ext.trans (Ext.trans (Ext.trans (Ext.trans (Ext.trans (Ext.new (Ext.trans (Ext.trans (Ext.trans e1 e2) e4) e5) e6 (by rintro i hi rfl; omega)) e7) e8) e9) e10) e11) e15) e16)) h54s) ?_
        rintro v_55 w17 ⟨rfl, e17⟩
        have z17 := e17.size
        refine O.nil ⟨(Ext.trans e16 e17), ?_⟩
        refine D.cast (v' := .bool true) (congrArg Value.bool (by simp [hva])) ?_
        refine D.take (i := 4) rfl rfl rfl rfl (by kernel_rfl) (Ext.trans e16 e17) ⟨pure _, rfl⟩ (fun w_ hw_ N_ hN => (O.mv (O.nil hN))) ?_
        refine D.takeYes (i := 5) rfl rfl rfl (by kernel_rfl) rfl rfl (Ext.trans e16 e17) ⟨_, rfl⟩ (fun w_ hw_ N_ hN => (O.loadOA Tryz.isAgg28 Tryz.sizeOf28 rfl (((((((((((h1.keep e2).keep e4).keep e5).keepM e6 (by intro h; (try dsimp only at h); omega)).keep e7).keep e8).keep e9).keep e10).keep e11).keep e15).keep hw_) (Nat.le_of_ble_eq_true rfl) (O.nil hN))) ?_
        refine D.takeYes (i := 6) rfl rfl rfl (by kernel_rfl) rfl rfl (Ext.trans e16 e17) ⟨_, rfl⟩ (fun w_ hw_ N_ hN => (O.loadOA Tryz.isAgg28 Tryz.sizeOf28 rfl (((((((hs6.keep e7).keep e8).keep e9).keep e10).keep e11).keep e15).keep hw_) (Nat.le_of_ble_eq_true rfl) (O.nil hN))) ?_
        refine D.oneYes (i := 7) rfl rfl rfl (by kernel_rfl) ?_
        refine O.call Tryz.call21 (args2 rfl rfl) (same_spec va1 va2 va3 a F vav11 vbv11 vcv11 a _ _ (hav.keep (Ext.trans (Ext.trans (Ext.trans (Ext.trans (Ext.trans (Ext.trans (Ext.trans (Ext.trans (Ext.new (Ext.trans (Ext.trans (Ext.trans e1 e2) e4) e5) e6 (by rintro i hi rfl; omega)) e7) e8) e9) e10) e11) e15) e16) e17)) (hac.keep (Ext.trans (Ext.trans (Ext.trans (Ext.trans (Ext.trans (Ext.trans (Ext.trans (Ext.trans (Ext.new (Ext.trans (Ext.trans (Ext.trans e1 e2) e4) e5) e6 (by rintro i hi rfl; omega)) e7) e8) e9) e10) e11) e15) e16) e17)) (hai.keep (Ext.trans (Ext.trans (Ext.trans (Ext.trans (Ext.trans (Ext.trans (Ext.trans (Ext.trans (Ext.new (Ext.trans (Ext.trans (Ext.trans e1 e2) e4) e5) e6 (by rintro i hi rfl; omega)) e7) e8) e9) e10) e11) e15) e16) e17)) ((((((((((hxv11.keep e5).keepM e6 (by intro k hk h; first | (have q1 := hF k hk; (try dsimp only at h); omega) | (have q1 := hF2 k hk; (try dsimp only at h); omega) | (have q1 := hFb k hk; (try dsimp only at h); omega) | ((try dsimp only at hk); (try dsimp only at h); omega))).keep e7).keep e8).keep e9).keep e10).keep e11).keep e15).keep e16).keep e17) ((((((((((hyv11.keep e5).keepM e6 (by intro k hk h; first | (have q1 := hF k hk; (try dsimp only at h); omega) | (have q1 := hF2 k hk; (try dsimp only at h); omega) | (have q1 := hFb k hk; (try dsimp only at h); omega) | ((try dsimp only at hk); (try dsimp only at h); omega))).keep e7).keep e8).keep e9).keep e10).keep e11).keep e15).keep e16).keep e17) ((((((((((hzv11.keep e5).keepM e6 (by intro k hk h; first | (have q1 := hF k hk; (try dsimp only at h); omega) | (have q1 := hF2 k hk; (try dsimp only at h); omega) | (have q1 := hFb k hk; (try dsimp only at h); omega) | ((try dsimp only at hk); (try dsimp only at h); omega))).keep e7).keep e8).keep e9).keep e10).keep e11).keep e15).keep e16).keep e17) (fun k hk => by have q1 := hF k hk; omega) (fun k hk => by have q1 := hk.2; omega)) ?_
        rintro v_59 w18 ⟨rfl, e18⟩
        have z18 := e18.size
        refine O.nil ⟨(Ext.trans (Ext.trans e16 e17) e18), ?_⟩
        refine D.cast (v' := .bool true) (congrArg Value.bool (by exact decide_eq_true rfl)) ?_
        refine D.take (i := 8) rfl rfl rfl rfl (by kernel_rfl) (Ext.trans (Ext.trans e16 e17) e18) pick_form (fun w_ hw_ N_ hN => (O.pickT rfl (O.nil hN))) ?_
        refine D.take (i := 9) rfl rfl rfl rfl (by kernel_rfl) (Ext.trans (Ext.trans e16 e17) e18) ⟨pure _, rfl⟩ (fun w_ hw_ N_ hN => (O.mv (O.nil hN))) ?_
        refine D.oneYes (i := 10) rfl rfl rfl (by kernel_rfl) ?_
        refine O.call Tryz.call14 (argsN) (known_spec _ (mx.keep (Ext.trans (Ext.trans (Ext.trans (Ext.trans (Ext.trans (Ext.trans (Ext.trans (Ext.trans (Ext.trans (Ext.new (Ext.trans (Ext.trans (Ext.trans e1 e2) e4) e5) e6 (by rintro i hi rfl; omega)) e7) e8) e9) e10) e11) e15) e16) e17) e18))) ?_
        rintro v_62 w19 ⟨rfl, e19⟩
        have z19 := e19.size
        refine O.nil ⟨(Ext.trans (Ext.trans (Ext.trans e16 e17) e18) e19), ?_⟩
        refine D.take (i := 11) rfl rfl rfl rfl (by kernel_rfl) (Ext.trans (Ext.trans (Ext.trans e16 e17) e18) e19) pick_form (fun w_ hw_ N_ hN => (O.pickT rfl (O.nil hN))) ?_
        refine D.take (i := 12) rfl rfl rfl rfl (by kernel_rfl) (Ext.trans (Ext.trans (Ext.trans e16 e17) e18) e19) ⟨pure _, rfl⟩ (fun w_ hw_ N_ hN => (O.asg (O.nil hN))) ?_
        refine D.done (by kernel_rfl) ?_
        refine hK13 _ _ ?_
        refine C.ret ?_
        refine Outs.one rfl rfl ?_
        exact ⟨rfl, (Ext.trans (Ext.trans (Ext.trans (Ext.trans (Ext.trans (Ext.trans (Ext.trans (Ext.trans (Ext.trans (Ext.trans (Ext.new (Ext.trans (Ext.trans (Ext.trans e1 e2) e4) e5) e6 (by rintro i hi rfl; omega)) e7) e8) e9) e10) e11) e15) e16) e17) e18) e19)⟩
    ·
      refine C.seqK fun K14 hK14 => ?_
      refine C.region ?_
      refine O.mv ?_
      refine O.len Tryz.underlying32 rfl (h15s.keep e8) ?_
      refine O.neqI rfl rfl ?_
      refine O.cast (v' := .bool false) (congrArg Value.bool (by simp [c20])) ?_
      refine O.mv ?_
      refine O.yes rfl rfl ?_
      refine O.mv ?_
      refine O.yes rfl rfl ?_
      refine O.neqI rfl rfl ?_
      refine O.cast (v' := .bool false) (congrArg Value.bool (by simp [c20])) ?_
      refine O.pickF rfl ?_
      refine O.nil ?_
      refine hK14 _ _ ?_
      refine C.condF rfl ?_
      refine C.skip ?_
      refine hK7 _ _ ?_
      refine C.seqK fun K15 hK15 => ?_
      refine C.seqK fun K16 hK16 => ?_
      refine C.region ?_
      refine O.loadOA Tryz.isAgg28 Tryz.sizeOf28 rfl ((((((h1.keep e2).keep e4).keep e5).keepM e6 (by intro h; (try dsimp only at h); omega)).keep e7).keep e8) (Nat.le_of_ble_eq_true rfl) ?_
      refine O.call Tryz.call19 (args1 rfl) (cartValid_spec va1 va2 va3 a F _ (hav.keep (Ext.trans (Ext.trans (Ext.new (Ext.trans (Ext.trans (Ext.trans e1 e2) e4) e5) e6 (by rintro i hi rfl; omega)) e7) e8)) (hac.keep (Ext.trans (Ext.trans (Ext.new (Ext.trans (Ext.trans (Ext.trans e1 e2) e4) e5) e6 (by rintro i hi rfl; omega)) e7) e8)) (hai.keep (Ext.trans (Ext.trans (Ext.new (Ext.trans (Ext.trans (Ext.trans e1 e2) e4) e5) e6 (by rintro i hi rfl; omega)) e7) e8)) (fun k hk => by have q1 := hF k hk; omega) hn hS (mx.keep (Ext.trans (Ext.trans (Ext.new (Ext.trans (Ext.trans (Ext.trans e1 e2) e4) e5) e6 (by rintro i hi rfl; omega)) e7) e8))) ?_
      rintro v_40 w20 ⟨rfl, e20⟩
      have z20 := e20.size
      refine O.not rfl ?_
      refine O.nil ?_
      refine hK16 _ _ ?_
      refine C.cond rfl (fun c41 => ?_) (fun c41 => ?_)
      ·
        have hva : Cn.valid a = false := by simpa using c41
        refine C.seqK fun K17 hK17 => ?_
        refine C.region ?_
        refine O.loadOA Tryz.isAgg28 Tryz.sizeOf28 rfl (((((((h1.keep e2).keep e4).keep e5).keepM e6 (by intro h; (try dsimp only at h); omega)).keep e7).keep e8).keep e20) (Nat.le_of_ble_eq_true rfl) ?_
        refine O.call Tryz.call20 (args3 rfl rfl rfl) (encodes_spec va1 va2 va3 a F _ [] (fun _ => False) 2 _ (hav.keep (Ext.trans (Ext.trans (Ext.trans (Ext.new (Ext.trans (Ext.trans (Ext.trans e1 e2) e4) e5) e6 (by rintro i hi rfl; omega)) e7) e8) e20)) (hac.keep (Ext.trans (Ext.trans (Ext.trans (Ext.new (Ext.trans (Ext.trans (Ext.trans e1 e2) e4) e5) e6 (by rintro i hi rfl; omega)) e7) e8) e20)) (hai.keep (Ext.trans (Ext.trans (Ext.trans (Ext.new (Ext.trans (Ext.trans (Ext.trans e1 e2) e4) e5) e6 (by rintro i hi rfl; omega)) e7) e8) e20)) (fun k hk => by have q1 := hF k hk; omega) hn hS hp hq (mx.keep (Ext.trans (Ext.trans (Ext.trans (Ext.new (Ext.trans (Ext.trans (Ext.trans e1 e2) e4) e5) e6 (by rintro i hi rfl; omega)) e7) e8) e20)) (Sl.nil _ _ _)) ?_
        rintro v_43 w21 ⟨rfl, e21⟩
        have z21 := e21.size
        refine O.cast (v' := .bool true) (congrArg Value.bool (by simp [hva])) ?_
        refine O.mv ?_
        refine O.yes rfl rfl ?_
        refine O.loadOA Tryz.isAgg28 Tryz.sizeOf28 rfl ((((((((h1.keep e2).keep e4).keep e5).keepM e6 (by intro h; (try dsimp only at h); omega)).keep e7).keep e8).keep e20).keep e21) (Nat.le_of_ble_eq_true rfl) ?_
        refine O.yes rfl rfl ?_
        refine O.loadOA Tryz.isAgg28 Tryz.sizeOf28 rfl ((((hs6.keep e7).keep e8).keep e20).keep e21) (Nat.le_of_ble_eq_true rfl) ?_
        refine O.yes rfl rfl ?_
        refine O.call Tryz.call21 (args2 rfl rfl) (same_spec va1 va2 va3 a F vav11 vbv11 vcv11 a _ _ (hav.keep (Ext.trans (Ext.trans (Ext.trans (Ext.trans (Ext.new (Ext.trans (Ext.trans (Ext.trans e1 e2) e4) e5) e6 (by rintro i hi rfl; omega)) e7) e8) e20) e21)) (hac.keep (Ext.trans (Ext.trans (Ext.trans (Ext.trans (Ext.new (Ext.trans (Ext.trans (Ext.trans e1 e2) e4) e5) e6 (by rintro i hi rfl; omega)) e7) e8) e20) e21)) (hai.keep (Ext.trans (Ext.trans (Ext.trans (Ext.trans (Ext.new (Ext.trans (Ext.trans (Ext.trans e1 e2) e4) e5) e6 (by rintro i hi rfl; omega)) e7) e8) e20) e21)) ((((((hxv11.keep e5).keepM e6 (by intro k hk h; first | (have q1 := hF k hk; (try dsimp only at h); omega) | (have q1 := hF2 k hk; (try dsimp only at h); omega) | (have q1 := hFb k hk; (try dsimp only at h); omega) | ((try dsimp only at hk); (try dsimp only at h); omega))).keep e7).keep e8).keep e20).keep e21) ((((((hyv11.keep e5).keepM e6 (by intro k hk h; first | (have q1 := hF k hk; (try dsimp only at h); omega) | (have q1 := hF2 k hk; (try dsimp only at h); omega) | (have q1 := hFb k hk; (try dsimp only at h); omega) | ((try dsimp only at hk); (try dsimp only at h); omega))).keep e7).keep e8).keep e20).keep e21) ((((((hzv11.keep e5).keepM e6 (by intro k hk h; first | (have q1 := hF k hk; (try dsimp only at h); omega) | (have q1 := hF2 k hk; (try dsimp only at h); omega) | (have q1 := hFb k hk; (try dsimp only at h); omega) | ((try dsimp only at hk); (try dsimp only at h); omega))).keep e7).keep e8).keep e20).keep e21) (fun k hk => by have q1 := hF k hk; omega) (fun k hk => by have q1 := hk.2; omega)) ?_
        rintro v_47 w22 ⟨rfl, e22⟩
        have z22 := e22.size
        refine O.cast (v' := .bool true) (congrArg Value.bool (by exact decide_eq_true rfl)) ?_
        refine O.pickT rfl ?_
        refine O.mv ?_
        refine O.yes rfl rfl ?_
        refine O.call Tryz.call14 (argsN) (known_spec _ (mx.keep (Ext.trans (Ext.trans (Ext.trans (Ext.trans (Ext.trans (Ext.new (Ext.trans (Ext.trans (Ext.trans e1 e2) e4) e5) e6 (by rintro i hi rfl; omega)) e7) e8) e20) e21) e22))) ?_
        rintro v_50 w23 ⟨rfl, e23⟩
        have z23 := e23.size
        refine O.pickT rfl ?_
        refine O.asg ?_
        refine O.nil ?_
        refine hK17 _ _ ?_
        refine C.ret ?_
        refine Outs.one rfl rfl ?_
        exact ⟨rfl, (Ext.trans (Ext.trans (Ext.trans (Ext.trans (Ext.trans (Ext.trans (Ext.new (Ext.trans (Ext.trans (Ext.trans e1 e2) e4) e5) e6 (by rintro i hi rfl; omega)) e7) e8) e20) e21) e22) e23)⟩
      ·
        have hva : Cn.valid a = true := by simpa using c41
        refine C.skip ?_
        refine hK15 _ _ ?_
        refine C.seqK fun K18 hK18 => ?_
        refine C.draw (by kernel_rfl) fun w24 e24 => ?_
        have z24 := e24.size
        refine D.take (i := 0) rfl rfl rfl rfl (by kernel_rfl) (Le.refl _) ⟨_, rfl⟩ (fun w_ hw_ N_ hN => (O.loadOA Tryz.isAgg28 Tryz.sizeOf28 rfl (((((((((h1.keep e2).keep e4).keep e5).keepM e6 (by intro h; (try dsimp only at h); omega)).keep e7).keep e8).keep e20).keep e24).keep hw_) (Nat.le_of_ble_eq_true rfl) (O.nil hN))) ?_
        refine D.take (i := 1) rfl rfl rfl rfl (by kernel_rfl) (Le.refl _) ⟨_, rfl⟩ (fun w_ hw_ N_ hN => (O.loadOA Tryz.isAgg28 Tryz.sizeOf28 rfl (((((((((h1.keep e2).keep e4).keep e5).keepM e6 (by intro h; (try dsimp only at h); omega)).keep e7).keep e8).keep e20).keep e24).keep hw_) (Nat.le_of_ble_eq_true rfl) (O.nil hN))) ?_
        refine D.one (i := 2) rfl rfl (by kernel_rfl) ?_
        refine O.call Tryz.call22 (args1 rfl) (rbytes_spec va1 va2 va3 a F _ (hav.keep (Ext.trans (Ext.trans (Ext.trans (Ext.trans (Ext.new (Ext.trans (Ext.trans (Ext.trans e1 e2) e4) e5) e6 (by rintro i hi rfl; omega)) e7) e8) e20) e24)) (hac.keep (Ext.trans (Ext.trans (Ext.trans (Ext.trans (Ext.new (Ext.trans (Ext.trans (Ext.trans e1 e2) e4) e5) e6 (by rintro i hi rfl; omega)) e7) e8) e20) e24)) (hai.keep (Ext.trans (Ext.trans (Ext.trans (Ext.trans (Ext.new (Ext.trans (Ext.trans (Ext.trans e1 e2) e4) e5) e6 (by rintro i hi rfl; omega)) e7) e8) e20) e24)) (fun k hk => by have q1 := hF k hk; omega) hn hS hp hq) ?_
        rintro v_54 w25 ⟨e25, h54⟩
        have z25 := e25.size
        refine O.nil ⟨e25, ?_⟩
        have h54s := h54.sl
        refine D.one (i := 3) rfl rfl (by kernel_rfl) ?_
        refine O.call Tryz.call20 (args3 rfl rfl rfl) (encodes_spec va1 va2 va3 a F _ (Cn.bytes a) _ 0 _ (hav.keep (Ext.trans (Ext.trans (Ext.trans (Ext.trans (Ext.trans (Ext.new (Ext.trans (Ext.trans (Ext.trans e1 e2) e4) e5) e6 (by rintro i hi rfl; omega)) e7) e8) e20) e24) e25)) (hac.keep (Ext.trans (Ext.trans (Ext.trans (Ext.trans (Ext.trans (Ext.new (Ext.trans (Ext.trans (Ext.trans e1 e2) e4) e5) e6 (by rintro i hi rfl; omega)) e7) e8) e20) e24) e25)) (hai.keep (Ext.trans (Ext.trans (Ext.trans (Ext.trans (Ext.trans (Ext.new (Ext.trans (Ext.trans (Ext.trans e1 e2) e4) e5) e6 (by rintro i hi rfl; omega)) e7) e8) e20) e24) e25)) (fun k hk => by have q1 := hF k hk; omega) hn hS hp hq (mx.keep (Ext.trans (Ext.trans (Ext.trans (Ext.trans (Ext.trans (Ext.new (Ext.trans (Ext.trans (Ext.trans e1 e2) e4) e5) e6 (by rintro i hi rfl; omega)) e7) e8) e20) e24) e25)) h54s) ?_
        rintro v_55 w26 ⟨rfl, e26⟩
        have z26 := e26.size
        refine O.nil ⟨(Ext.trans e25 e26), ?_⟩
        refine D.cast (v' := .bool true) (congrArg Value.bool (by simp [hva])) ?_
        refine D.take (i := 4) rfl rfl rfl rfl (by kernel_rfl) (Ext.trans e25 e26) ⟨pure _, rfl⟩ (fun w_ hw_ N_ hN => (O.mv (O.nil hN))) ?_
        refine D.takeYes (i := 5) rfl rfl rfl (by kernel_rfl) rfl rfl (Ext.trans e25 e26) ⟨_, rfl⟩ (fun w_ hw_ N_ hN => (O.loadOA Tryz.isAgg28 Tryz.sizeOf28 rfl (((((((((h1.keep e2).keep e4).keep e5).keepM e6 (by intro h; (try dsimp only at h); omega)).keep e7).keep e8).keep e20).keep e24).keep hw_) (Nat.le_of_ble_eq_true rfl) (O.nil hN))) ?_
        refine D.takeYes (i := 6) rfl rfl rfl (by kernel_rfl) rfl rfl (Ext.trans e25 e26) ⟨_, rfl⟩ (fun w_ hw_ N_ hN => (O.loadOA Tryz.isAgg28 Tryz.sizeOf28 rfl (((((hs6.keep e7).keep e8).keep e20).keep e24).keep hw_) (Nat.le_of_ble_eq_true rfl) (O.nil hN))) ?_
        refine D.oneYes (i := 7) rfl rfl rfl (by kernel_rfl) ?_
        refine O.call Tryz.call21 (args2 rfl rfl) (same_spec va1 va2 va3 a F vav11 vbv11 vcv11 a _ _ (hav.keep (Ext.trans (Ext.trans (Ext.trans (Ext.trans (Ext.trans (Ext.trans (Ext.new (Ext.trans (Ext.trans (Ext.trans e1 e2) e4) e5) e6 (by rintro i hi rfl; omega)) e7) e8) e20) e24) e25) e26)) (hac.keep (Ext.trans (Ext.trans (Ext.trans (Ext.trans (Ext.trans (Ext.trans (Ext.new (Ext.trans (Ext.trans (Ext.trans e1 e2) e4) e5) e6 (by rintro i hi rfl; omega)) e7) e8) e20) e24) e25) e26)) (hai.keep (Ext.trans (Ext.trans (Ext.trans (Ext.trans (Ext.trans (Ext.trans (Ext.new (Ext.trans (Ext.trans (Ext.trans e1 e2) e4) e5) e6 (by rintro i hi rfl; omega)) e7) e8) e20) e24) e25) e26)) ((((((((hxv11.keep e5).keepM e6 (by intro k hk h; first | (have q1 := hF k hk; (try dsimp only at h); omega) | (have q1 := hF2 k hk; (try dsimp only at h); omega) | (have q1 := hFb k hk; (try dsimp only at h); omega) | ((try dsimp only at hk); (try dsimp only at h); omega))).keep e7).keep e8).keep e20).keep e24).keep e25).keep e26) ((((((((hyv11.keep e5).keepM e6 (by intro k hk h; first | (have q1 := hF k hk; (try dsimp only at h); omega) | (have q1 := hF2 k hk; (try dsimp only at h); omega) | (have q1 := hFb k hk; (try dsimp only at h); omega) | ((try dsimp only at hk); (try dsimp only at h); omega))).keep e7).keep e8).keep e20).keep e24).keep e25).keep e26) ((((((((hzv11.keep e5).keepM e6 (by intro k hk h; first | (have q1 := hF k hk; (try dsimp only at h); omega) | (have q1 := hF2 k hk; (try dsimp only at h); omega) | (have q1 := hFb k hk; (try dsimp only at h); omega) | ((try dsimp only at hk); (try dsimp only at h); omega))).keep e7).keep e8).keep e20).keep e24).keep e25).keep e26) (fun k hk => by have q1 := hF k hk; omega) (fun k hk => by have q1 := hk.2; omega)) ?_
        rintro v_59 w27 ⟨rfl, e27⟩
        have z27 := e27.size
        refine O.nil ⟨(Ext.trans (Ext.trans e25 e26) e27), ?_⟩
        refine D.cast (v' := .bool true) (congrArg Value.bool (by exact decide_eq_true rfl)) ?_
        refine D.take (i := 8) rfl rfl rfl rfl (by kernel_rfl) (Ext.trans (Ext.trans e25 e26) e27) pick_form (fun w_ hw_ N_ hN => (O.pickT rfl (O.nil hN))) ?_
        refine D.take (i := 9) rfl rfl rfl rfl (by kernel_rfl) (Ext.trans (Ext.trans e25 e26) e27) ⟨pure _, rfl⟩ (fun w_ hw_ N_ hN => (O.mv (O.nil hN))) ?_
        refine D.oneYes (i := 10) rfl rfl rfl (by kernel_rfl) ?_
        refine O.call Tryz.call14 (argsN) (known_spec _ (mx.keep (Ext.trans (Ext.trans (Ext.trans (Ext.trans (Ext.trans (Ext.trans (Ext.trans (Ext.new (Ext.trans (Ext.trans (Ext.trans e1 e2) e4) e5) e6 (by rintro i hi rfl; omega)) e7) e8) e20) e24) e25) e26) e27))) ?_
        rintro v_62 w28 ⟨rfl, e28⟩
        have z28 := e28.size
        refine O.nil ⟨(Ext.trans (Ext.trans (Ext.trans e25 e26) e27) e28), ?_⟩
        refine D.take (i := 11) rfl rfl rfl rfl (by kernel_rfl) (Ext.trans (Ext.trans (Ext.trans e25 e26) e27) e28) pick_form (fun w_ hw_ N_ hN => (O.pickT rfl (O.nil hN))) ?_
        refine D.take (i := 12) rfl rfl rfl rfl (by kernel_rfl) (Ext.trans (Ext.trans (Ext.trans e25 e26) e27) e28) ⟨pure _, rfl⟩ (fun w_ hw_ N_ hN => (O.asg (O.nil hN))) ?_
        refine D.done (by kernel_rfl) ?_
        refine hK18 _ _ ?_
        refine C.ret ?_
        refine Outs.one rfl rfl ?_
        exact ⟨rfl, (Ext.trans (Ext.trans (Ext.trans (Ext.trans (Ext.trans (Ext.trans (Ext.trans (Ext.trans (Ext.new (Ext.trans (Ext.trans (Ext.trans e1 e2) e4) e5) e6 (by rintro i hi rfl; omega)) e7) e8) e20) e24) e25) e26) e27) e28)⟩

set_option maxHeartbeats 8000000 in
theorem canonCompares_spec (va1 va2 va3 : Value) (a : Cn.Cart) (F : Nat → Prop) (vb1 vb2 vb3 : Value) (b : Cn.Cart) (Fb : Nat → Prop) (w : World) (hav : Sl Dt.dotF.enc w F va1 a.1.1) (hac : Sl Dt.dotF.enc w F va2 a.1.2) (hai : Sl itemE w F va3 a.2) (hF : ∀ k, F k → k < w.heap.size) (hbv : Sl Dt.dotF.enc w Fb vb1 b.1.1) (hbc : Sl Dt.dotF.enc w Fb vb2 b.1.2) (hbi : Sl itemE w Fb vb3 b.2) (hFb : ∀ k, Fb k → k < w.heap.size) (mx : Mx w) :
    Ret Tryz.prog 5 #[.agg #[va1, va2, va3], .agg #[vb1, vb2, vb3]] w (fun v w' => v = .bool true ∧ Le w w') := by
  refine enter (args := [.agg #[va1, va2, va3], .agg #[vb1, vb2, vb3]]) (n := 53) Tryz.func5 rfl rfl (Nat.le_of_ble_eq_true rfl) ?_
  refine C.seqK fun K1 hK1 => ?_
  refine C.region ?_
  refine O.box (v := .agg #[va1, va2, va3]) rfl (fun b2 w1 hb2 hz2 e1 => ?_)
  have z1 := e1.size
  have h2 := hz2.own
  have hl2 := h2.lt
  refine O.box (v := .agg #[vb1, vb2, vb3]) rfl (fun b3 w2 hb3 hz3 e2 => ?_)
  have z2 := e2.size
  have h3 := hz3.own
  have hl3 := h3.lt
  refine O.asg ?_
  refine O.nil ?_
  refine hK1 _ _ ?_
  refine C.seqK fun K2 hK2 => ?_
  refine C.seqK fun K3 hK3 => ?_
  refine C.region ?_
  refine O.loadOA Tryz.isAgg28 Tryz.sizeOf28 rfl (h2.keep e2) (Nat.le_of_ble_eq_true rfl) ?_
  refine O.call Tryz.call13 (args1 rfl) (small_spec va1 va2 va3 a F _ ((hav.keep e1).keep e2) ((hac.keep e1).keep e2) ((hai.keep e1).keep e2)) ?_
  rintro v_7 w3 ⟨rfl, e3⟩
  have z3 := e3.size
  refine O.not rfl ?_
  refine O.mv ?_
  refine O.split (x := .tmp 9) rfl (fun c9 => ?_) (fun c9 => ?_)
  ·
    refine O.no rfl (noB (isT' rfl c9) rfl) ?_
    refine O.no rfl (noB (isT' rfl c9) rfl) ?_
    refine O.no rfl (noB (isT' rfl c9) rfl) ?_
    refine O.pickT (isT' rfl c9) ?_
    refine O.nil ?_
    refine hK3 _ _ ?_
    refine C.condT rfl ?_
    refine C.seqK fun K4 hK4 => ?_
    refine C.region ?_
    refine O.call Tryz.call14 (argsN) (known_spec _ (((mx.keep e1).keep e2).keep e3)) ?_
    rintro v_14 w4 ⟨rfl, e4⟩
    have z4 := e4.size
    refine O.asg ?_
    refine O.nil ?_
    refine hK4 _ _ ?_
    refine C.ret ?_
    refine Outs.one rfl rfl ?_
    exact ⟨rfl, (Ext.trans (Ext.trans (Ext.trans e1 e2) e3) e4)⟩
  ·
    refine O.yes rfl (isF' rfl c9) ?_
    refine O.loadOA Tryz.isAgg28 Tryz.sizeOf28 rfl (h3.keep e3) (Nat.le_of_ble_eq_true rfl) ?_
    refine O.yes rfl (isF' rfl c9) ?_
    refine O.call Tryz.call13 (args1 rfl) (small_spec vb1 vb2 vb3 b Fb _ (((hbv.keep e1).keep e2).keep e3) (((hbc.keep e1).keep e2).keep e3) (((hbi.keep e1).keep e2).keep e3)) ?_
    rintro v_11 w5 ⟨rfl, e5⟩
    have z5 := e5.size
    refine O.yes rfl (isF' rfl c9) ?_
    refine O.not rfl ?_
    refine O.pickF (isF' rfl c9) ?_
    refine O.nil ?_
    refine hK3 _ _ ?_
    refine C.cond rfl (fun c13 => ?_) (fun c13 => ?_)
    ·
      refine C.seqK fun K5 hK5 => ?_
      refine C.region ?_
      refine O.call Tryz.call14 (argsN) (known_spec _ ((((mx.keep e1).keep e2).keep e3).keep e5)) ?_
      rintro v_14 w6 ⟨rfl, e6⟩
      have z6 := e6.size
      refine O.asg ?_
      refine O.nil ?_
      refine hK5 _ _ ?_
      refine C.ret ?_
      refine Outs.one rfl rfl ?_
      exact ⟨rfl, (Ext.trans (Ext.trans (Ext.trans (Ext.trans e1 e2) e3) e5) e6)⟩
    ·
      have hsm : Cn.small a = true := by simpa using c9
      obtain ⟨hs1, hs2, hs3, hs4⟩ := Cn.small_iff hsm
      have hn : a.2.length ≤ 1000000 := by omega
      have hS : ∀ x ∈ a.2, x.1.length ≤ 1000000 ∧ x.2.length ≤ 1000000 := fun x hx => by have := hs4 x hx; omega
      have hp : a.1.1.length ≤ 1000000 := by omega
      have hq : a.1.2.length ≤ 1000000 := by omega
      have hsmb : Cn.small b = true := by simpa using c13
      obtain ⟨hs1b, hs2b, hs3b, hs4b⟩ := Cn.small_iff hsmb
      have hnb : b.2.length ≤ 1000000 := by omega
      have hSb : ∀ x ∈ b.2, x.1.length ≤ 1000000 ∧ x.2.length ≤ 1000000 := fun x hx => by have := hs4b x hx; omega
      have hpb : b.1.1.length ≤ 1000000 := by omega
      have hqb : b.1.2.length ≤ 1000000 := by omega
      refine C.skip ?_
      refine hK2 _ _ ?_
      refine C.seqK fun K6 hK6 => ?_
      refine C.seqK fun K7 hK7 => ?_
      refine C.region ?_
      refine O.loadOA Tryz.isAgg28 Tryz.sizeOf28 rfl (((h2.keep e2).keep e3).keep e5) (Nat.le_of_ble_eq_true rfl) ?_
      refine O.call Tryz.call19 (args1 rfl) (cartValid_spec va1 va2 va3 a F _ ((((hav.keep e1).keep e2).keep e3).keep e5) ((((hac.keep e1).keep e2).keep e3).keep e5) ((((hai.keep e1).keep e2).keep e3).keep e5) (fun k hk => by have q1 := hF k hk; omega) hn hS ((((mx.keep e1).keep e2).keep e3).keep e5)) ?_
      rintro v_16 w7 ⟨rfl, e7⟩
      have z7 := e7.size
      refine O.not rfl ?_
      refine O.mv ?_
      refine O.split (x := .tmp 18) rfl (fun c18 => ?_) (fun c18 => ?_)
      ·
        have hva : Cn.valid a = false := by simpa using c18
        refine O.no rfl (noB (isT' rfl c18) rfl) ?_
        refine O.no rfl (noB (isT' rfl c18) rfl) ?_
        refine O.no rfl (noB (isT' rfl c18) rfl) ?_
        refine O.pickT (isT' rfl c18) ?_
        refine O.nil ?_
        refine hK7 _ _ ?_
        refine C.condT rfl ?_
        refine C.seqK fun K8 hK8 => ?_
        refine C.region ?_
        refine O.loadOA Tryz.isAgg28 Tryz.sizeOf28 rfl ((((h2.keep e2).keep e3).keep e5).keep e7) (Nat.le_of_ble_eq_true rfl) ?_
        refine O.loadOA Tryz.isAgg28 Tryz.sizeOf28 rfl (((h3.keep e3).keep e5).keep e7) (Nat.le_of_ble_eq_true rfl) ?_
        refine O.call Tryz.call25 (args4 rfl rfl rfl rfl) (compares_spec va1 va2 va3 a F vb1 vb2 vb3 b Fb 0 2 _ (((((hav.keep e1).keep e2).keep e3).keep e5).keep e7) (((((hac.keep e1).keep e2).keep e3).keep e5).keep e7) (((((hai.keep e1).keep e2).keep e3).keep e5).keep e7) (fun k hk => by have q1 := hF k hk; omega) hn hS hp hq (((((mx.keep e1).keep e2).keep e3).keep e5).keep e7) (((((hbv.keep e1).keep e2).keep e3).keep e5).keep e7) (((((hbc.keep e1).keep e2).keep e3).keep e5).keep e7) (((((hbi.keep e1).keep e2).keep e3).keep e5).keep e7) (fun k hk => by have q1 := hFb k hk; omega) hnb hSb hpb hqb) ?_
        rintro v_25 w8 ⟨rfl, e8⟩
        have z8 := e8.size
        refine O.cast (v' := .bool true) (congrArg Value.bool (by first | simp [hva, hvb] | simp [hva])) ?_
        refine O.mv ?_
        refine O.yes rfl rfl ?_
        refine O.loadOA Tryz.isAgg28 Tryz.sizeOf28 rfl ((((h3.keep e3).keep e5).keep e7).keep e8) (Nat.le_of_ble_eq_true rfl) ?_
        refine O.yes rfl rfl ?_
        refine O.loadOA Tryz.isAgg28 Tryz.sizeOf28 rfl (((((h2.keep e2).keep e3).keep e5).keep e7).keep e8) (Nat.le_of_ble_eq_true rfl) ?_
        refine O.yes rfl rfl ?_
        refine O.call Tryz.call25 (args4 rfl rfl rfl rfl) (compares_spec vb1 vb2 vb3 b Fb va1 va2 va3 a F 0 2 _ ((((((hbv.keep e1).keep e2).keep e3).keep e5).keep e7).keep e8) ((((((hbc.keep e1).keep e2).keep e3).keep e5).keep e7).keep e8) ((((((hbi.keep e1).keep e2).keep e3).keep e5).keep e7).keep e8) (fun k hk => by have q1 := hFb k hk; omega) hnb hSb hpb hqb ((((((mx.keep e1).keep e2).keep e3).keep e5).keep e7).keep e8) ((((((hav.keep e1).keep e2).keep e3).keep e5).keep e7).keep e8) ((((((hac.keep e1).keep e2).keep e3).keep e5).keep e7).keep e8) ((((((hai.keep e1).keep e2).keep e3).keep e5).keep e7).keep e8) (fun k hk => by have q1 := hF k hk; omega) hn hS hp hq) ?_
        rintro v_29 w9 ⟨rfl, e9⟩
        have z9 := e9.size
        refine O.cast (v' := .bool true) (congrArg Value.bool (by first | simp [hva, hvb] | simp [hva])) ?_
        refine O.pickT rfl ?_
        refine O.mv ?_
        refine O.yes rfl rfl ?_
        refine O.call Tryz.call14 (argsN) (known_spec _ (((((((mx.keep e1).keep e2).keep e3).keep e5).keep e7).keep e8).keep e9)) ?_
        rintro v_32 w10 ⟨rfl, e10⟩
        have z10 := e10.size
        refine O.pickT rfl ?_
        refine O.asg ?_
        refine O.nil ?_
        refine hK8 _ _ ?_
        refine C.ret ?_
        refine Outs.one rfl rfl ?_
        exact ⟨rfl, (Ext.trans (Ext.trans (Ext.trans (Ext.trans (Ext.trans (Ext.trans (Ext.trans e1 e2) e3) e5) e7) e8) e9) e10)⟩
      ·
        have hva : Cn.valid a = true := by simpa using c18
        refine O.yes rfl (isF' rfl c18) ?_
        refine O.loadOA Tryz.isAgg28 Tryz.sizeOf28 rfl (((h3.keep e3).keep e5).keep e7) (Nat.le_of_ble_eq_true rfl) ?_
        refine O.yes rfl (isF' rfl c18) ?_
        refine O.call Tryz.call19 (args1 rfl) (cartValid_spec vb1 vb2 vb3 b Fb _ (((((hbv.keep e1).keep e2).keep e3).keep e5).keep e7) (((((hbc.keep e1).keep e2).keep e3).keep e5).keep e7) (((((hbi.keep e1).keep e2).keep e3).keep e5).keep e7) (fun k hk => by have q1 := hFb k hk; omega) hnb hSb (((((mx.keep e1).keep e2).keep e3).keep e5).keep e7)) ?_
        rintro v_20 w11 ⟨rfl, e11⟩
        have z11 := e11.size
        refine O.yes rfl (isF' rfl c18) ?_
        refine O.not rfl ?_
        refine O.pickF (isF' rfl c18) ?_
        refine O.nil ?_
        refine hK7 _ _ ?_
        refine C.cond rfl (fun c22 => ?_) (fun c22 => ?_)
        ·
          have hvb : Cn.valid b = false := by simpa using c22
          refine C.seqK fun K9 hK9 => ?_
          refine C.region ?_
          refine O.loadOA Tryz.isAgg28 Tryz.sizeOf28 rfl (((((h2.keep e2).keep e3).keep e5).keep e7).keep e11) (Nat.le_of_ble_eq_true rfl) ?_
          refine O.loadOA Tryz.isAgg28 Tryz.sizeOf28 rfl ((((h3.keep e3).keep e5).keep e7).keep e11) (Nat.le_of_ble_eq_true rfl) ?_
          refine O.call Tryz.call25 (args4 rfl rfl rfl rfl) (compares_spec va1 va2 va3 a F vb1 vb2 vb3 b Fb 0 2 _ ((((((hav.keep e1).keep e2).keep e3).keep e5).keep e7).keep e11) ((((((hac.keep e1).keep e2).keep e3).keep e5).keep e7).keep e11) ((((((hai.keep e1).keep e2).keep e3).keep e5).keep e7).keep e11) (fun k hk => by have q1 := hF k hk; omega) hn hS hp hq ((((((mx.keep e1).keep e2).keep e3).keep e5).keep e7).keep e11) ((((((hbv.keep e1).keep e2).keep e3).keep e5).keep e7).keep e11) ((((((hbc.keep e1).keep e2).keep e3).keep e5).keep e7).keep e11) ((((((hbi.keep e1).keep e2).keep e3).keep e5).keep e7).keep e11) (fun k hk => by have q1 := hFb k hk; omega) hnb hSb hpb hqb) ?_
          rintro v_25 w12 ⟨rfl, e12⟩
          have z12 := e12.size
          refine O.cast (v' := .bool true) (congrArg Value.bool (by first | simp [hva, hvb] | simp [hva])) ?_
          refine O.mv ?_
          refine O.yes rfl rfl ?_
          refine O.loadOA Tryz.isAgg28 Tryz.sizeOf28 rfl (((((h3.keep e3).keep e5).keep e7).keep e11).keep e12) (Nat.le_of_ble_eq_true rfl) ?_
          refine O.yes rfl rfl ?_
          refine O.loadOA Tryz.isAgg28 Tryz.sizeOf28 rfl ((((((h2.keep e2).keep e3).keep e5).keep e7).keep e11).keep e12) (Nat.le_of_ble_eq_true rfl) ?_
          refine O.yes rfl rfl ?_
          refine O.call Tryz.call25 (args4 rfl rfl rfl rfl) (compares_spec vb1 vb2 vb3 b Fb va1 va2 va3 a F 0 2 _ (((((((hbv.keep e1).keep e2).keep e3).keep e5).keep e7).keep e11).keep e12) (((((((hbc.keep e1).keep e2).keep e3).keep e5).keep e7).keep e11).keep e12) (((((((hbi.keep e1).keep e2).keep e3).keep e5).keep e7).keep e11).keep e12) (fun k hk => by have q1 := hFb k hk; omega) hnb hSb hpb hqb (((((((mx.keep e1).keep e2).keep e3).keep e5).keep e7).keep e11).keep e12) (((((((hav.keep e1).keep e2).keep e3).keep e5).keep e7).keep e11).keep e12) (((((((hac.keep e1).keep e2).keep e3).keep e5).keep e7).keep e11).keep e12) (((((((hai.keep e1).keep e2).keep e3).keep e5).keep e7).keep e11).keep e12) (fun k hk => by have q1 := hF k hk; omega) hn hS hp hq) ?_
          rintro v_29 w13 ⟨rfl, e13⟩
          have z13 := e13.size
          refine O.cast (v' := .bool true) (congrArg Value.bool (by first | simp [hva, hvb] | simp [hva])) ?_
          refine O.pickT rfl ?_
          refine O.mv ?_
          refine O.yes rfl rfl ?_
          refine O.call Tryz.call14 (argsN) (known_spec _ ((((((((mx.keep e1).keep e2).keep e3).keep e5).keep e7).keep e11).keep e12).keep e13)) ?_
          rintro v_32 w14 ⟨rfl, e14⟩
          have z14 := e14.size
          refine O.pickT rfl ?_
          refine O.asg ?_
          refine O.nil ?_
          refine hK9 _ _ ?_
          refine C.ret ?_
          refine Outs.one rfl rfl ?_
          exact ⟨rfl, (Ext.trans (Ext.trans (Ext.trans (Ext.trans (Ext.trans (Ext.trans (Ext.trans (Ext.trans e1 e2) e3) e5) e7) e11) e12) e13) e14)⟩
        ·
          have hvb : Cn.valid b = true := by simpa using c22
          refine C.skip ?_
          refine hK6 _ _ ?_
          refine C.seqK fun K10 hK10 => ?_
          refine C.draw (by kernel_rfl) fun w15 e15 => ?_
          have z15 := e15.size
          refine D.take (i := 0) rfl rfl rfl rfl (by kernel_rfl) (Le.refl _) ⟨_, rfl⟩ (fun w_ hw_ N_ hN => (O.loadOA Tryz.isAgg28 Tryz.sizeOf28 rfl (((((((h2.keep e2).keep e3).keep e5).keep e7).keep e11).keep e15).keep hw_) (Nat.le_of_ble_eq_true rfl) (O.nil hN))) ?_
          refine D.take (i := 2) rfl rfl rfl rfl (by kernel_rfl) (Le.refl _) ⟨_, rfl⟩ (fun w_ hw_ N_ hN => (O.loadOA Tryz.isAgg28 Tryz.sizeOf28 rfl ((((((h3.keep e3).keep e5).keep e7).keep e11).keep e15).keep hw_) (Nat.le_of_ble_eq_true rfl) (O.nil hN))) ?_
          refine D.one (i := 1) rfl rfl (by kernel_rfl) ?_
          refine O.call Tryz.call22 (args1 rfl) (rbytes_spec va1 va2 va3 a F _ (((((((hav.keep e1).keep e2).keep e3).keep e5).keep e7).keep e11).keep e15) (((((((hac.keep e1).keep e2).keep e3).keep e5).keep e7).keep e11).keep e15) (((((((hai.keep e1).keep e2).keep e3).keep e5).keep e7).keep e11).keep e15) (fun k hk => by have q1 := hF k hk; omega) hn hS hp hq) ?_
          rintro v_35 w16 ⟨e16, h35⟩
          have z16 := e16.size
          refine O.nil ⟨e16, ?_⟩
          have h35s := h35.sl
          refine D.one (i := 3) rfl rfl (by kernel_rfl) ?_
          refine O.call Tryz.call22 (args1 rfl) (rbytes_spec vb1 vb2 vb3 b Fb _ ((((((((hbv.keep e1).keep e2).keep e3).keep e5).keep e7).keep e11).keep e15).keep e16) ((((((((hbc.keep e1).keep e2).keep e3).keep e5).keep e7).keep e11).keep e15).keep e16) ((((((((hbi.keep e1).keep e2).keep e3).keep e5).keep e7).keep e11).keep e15).keep e16) (fun k hk => by have q1 := hFb k hk; omega) hnb hSb hpb hqb) ?_
          rintro v_37 w17 ⟨e17, h37⟩
          have z17 := e17.size
          refine O.nil ⟨(Ext.trans e16 e17), ?_⟩
          have h37s := h37.sl
          refine D.one (i := 4) rfl rfl (by kernel_rfl) ?_
          refine O.call Tryz.call26 (args2 rfl rfl) (rcmp_spec _ (Cn.bytes a) _ (Cn.bytes b) _ _ _ (h35s.keep e17) h37s) ?_
          rintro v_38 w18 ⟨rfl, e18⟩
          have z18 := e18.size
          refine O.nil ⟨(Ext.trans (Ext.trans e16 e17) e18), ?_⟩
          refine D.take (i := 5) rfl rfl rfl rfl (by kernel_rfl) (Ext.trans (Ext.trans e16 e17) e18) ⟨pure _, rfl⟩ (fun w_ hw_ N_ hN => (O.asg (O.nil hN))) ?_
          refine D.done (by kernel_rfl) ?_
          refine hK10 _ _ ?_
          refine C.seqK fun K11 hK11 => ?_
          refine C.region ?_
          refine O.loadOA Tryz.isAgg28 Tryz.sizeOf28 rfl (((((((((h2.keep e2).keep e3).keep e5).keep e7).keep e11).keep e15).keep e16).keep e17).keep e18) (Nat.le_of_ble_eq_true rfl) ?_
          refine O.loadOA Tryz.isAgg28 Tryz.sizeOf28 rfl ((((((((h3.keep e3).keep e5).keep e7).keep e11).keep e15).keep e16).keep e17).keep e18) (Nat.le_of_ble_eq_true rfl) ?_
          refine O.mv ?_
          refine O.call Tryz.call25 (args4 rfl rfl rfl rfl) (compares_spec va1 va2 va3 a F vb1 vb2 vb3 b Fb (Cn.cmpB (Cn.bytes a) (Cn.bytes b)) 0 _ ((((((((((hav.keep e1).keep e2).keep e3).keep e5).keep e7).keep e11).keep e15).keep e16).keep e17).keep e18) ((((((((((hac.keep e1).keep e2).keep e3).keep e5).keep e7).keep e11).keep e15).keep e16).keep e17).keep e18) ((((((((((hai.keep e1).keep e2).keep e3).keep e5).keep e7).keep e11).keep e15).keep e16).keep e17).keep e18) (fun k hk => by have q1 := hF k hk; omega) hn hS hp hq ((((((((((mx.keep e1).keep e2).keep e3).keep e5).keep e7).keep e11).keep e15).keep e16).keep e17).keep e18) ((((((((((hbv.keep e1).keep e2).keep e3).keep e5).keep e7).keep e11).keep e15).keep e16).keep e17).keep e18) ((((((((((hbc.keep e1).keep e2).keep e3).keep e5).keep e7).keep e11).keep e15).keep e16).keep e17).keep e18) ((((((((((hbi.keep e1).keep e2).keep e3).keep e5).keep e7).keep e11).keep e15).keep e16).keep e17).keep e18) (fun k hk => by have q1 := hFb k hk; omega) hnb hSb hpb hqb) ?_
          rintro v_42 w19 ⟨rfl, e19⟩
          have z19 := e19.size
          refine O.cast (v' := .bool true) (congrArg Value.bool (by simp [hva, hvb])) ?_
          refine O.mv ?_
          refine O.yes rfl rfl ?_
          refine O.loadOA Tryz.isAgg28 Tryz.sizeOf28 rfl (((((((((h3.keep e3).keep e5).keep e7).keep e11).keep e15).keep e16).keep e17).keep e18).keep e19) (Nat.le_of_ble_eq_true rfl) ?_
          refine O.yes rfl rfl ?_
          refine O.loadOA Tryz.isAgg28 Tryz.sizeOf28 rfl ((((((((((h2.keep e2).keep e3).keep e5).keep e7).keep e11).keep e15).keep e16).keep e17).keep e18).keep e19) (Nat.le_of_ble_eq_true rfl) ?_
          refine O.yes rfl rfl ?_
          refine O.mv ?_
          refine O.yes rfl rfl ?_
          refine O.negI rfl (by have := Cn.cmpB_in (Cn.bytes a) (Cn.bytes b); unfold InI; omega) ?_
          refine O.yes rfl rfl ?_
          refine O.call Tryz.call25 (args4 rfl rfl rfl rfl) (compares_spec vb1 vb2 vb3 b Fb va1 va2 va3 a F (-Cn.cmpB (Cn.bytes a) (Cn.bytes b)) 0 _ (((((((((((hbv.keep e1).keep e2).keep e3).keep e5).keep e7).keep e11).keep e15).keep e16).keep e17).keep e18).keep e19) (((((((((((hbc.keep e1).keep e2).keep e3).keep e5).keep e7).keep e11).keep e15).keep e16).keep e17).keep e18).keep e19) (((((((((((hbi.keep e1).keep e2).keep e3).keep e5).keep e7).keep e11).keep e15).keep e16).keep e17).keep e18).keep e19) (fun k hk => by have q1 := hFb k hk; omega) hnb hSb hpb hqb (((((((((((mx.keep e1).keep e2).keep e3).keep e5).keep e7).keep e11).keep e15).keep e16).keep e17).keep e18).keep e19) (((((((((((hav.keep e1).keep e2).keep e3).keep e5).keep e7).keep e11).keep e15).keep e16).keep e17).keep e18).keep e19) (((((((((((hac.keep e1).keep e2).keep e3).keep e5).keep e7).keep e11).keep e15).keep e16).keep e17).keep e18).keep e19) (((((((((((hai.keep e1).keep e2).keep e3).keep e5).keep e7).keep e11).keep e15).keep e16).keep e17).keep e18).keep e19) (fun k hk => by have q1 := hF k hk; omega) hn hS hp hq) ?_
          rintro v_48 w20 ⟨rfl, e20⟩
          have z20 := e20.size
          refine O.cast (v' := .bool true) (congrArg Value.bool (by simp [hva, hvb, Cn.cmpB_neg (Cn.bytes a) (Cn.bytes b)])) ?_
          refine O.pickT rfl ?_
          refine O.mv ?_
          refine O.yes rfl rfl ?_
          refine O.call Tryz.call14 (argsN) (known_spec _ ((((((((((((mx.keep e1).keep e2).keep e3).keep e5).keep e7).keep e11).keep e15).keep e16).keep e17).keep e18).keep e19).keep e20)) ?_
          rintro v_51 w21 ⟨rfl, e21⟩
          have z21 := e21.size
          refine O.pickT rfl ?_
          refine O.asg ?_
          refine O.nil ?_
          refine hK11 _ _ ?_
          refine C.ret ?_
          refine Outs.one rfl rfl ?_
          exact ⟨rfl, (Ext.trans (Ext.trans (Ext.trans (Ext.trans (Ext.trans (Ext.trans (Ext.trans (Ext.trans (Ext.trans (Ext.trans (Ext.trans (Ext.trans e1 e2) e3) e5) e7) e11) e15) e16) e17) e18) e19) e20) e21)⟩

end Go.Proofs.YtnkcmaoaagnopaaGreatDoor
