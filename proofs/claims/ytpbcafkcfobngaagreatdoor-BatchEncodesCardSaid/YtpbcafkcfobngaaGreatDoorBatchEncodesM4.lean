/-
 The walk of the law of batches: writing. Conditions: slices as they lie in memory.
-/
import Derived.Test.YtpbcafkcfobngaaGreatDoorBatchEncodesM3
namespace Go.Proofs.YtpbcafkcfobngaaGreatDoor
open Go.Pn Go.RowKit Go.Proofs _root_.Go.Proofs.Tryz
attribute [local irreducible] O C D
set_option maxHeartbeats 4000000 in
theorem batchEncodes0_spec (v0 : Value) (raw : List EntR) (l : List EntT) (F : Nat → Prop) (w : World) (hr : Sl entF.enc w F v0 raw) (he : EntL w F raw l) (hF : ∀ k, F k → k < w.heap.size) (mx : Mx w) :
 Ret prog 3 #[v0] w (fun v w' => v = .bool true ∧ Le w w') := by
 have hl := he.1
 have hrl := hr.le
 refine enT [v0] 40 func3 rfl rfl (C.sr fun K1 => O.asg (K1 (C.sq fun K2 => C.sr fun K3 => O.mv (O.call call15 (args2 rfl rfl) (smallL_spec v0 raw l F 12 _ hr he) ?_))))
 rintro v_5 w1 ⟨rfl, e1⟩
 have z1 := e1.size
 refine O.not rfl (K3 (C.cond rfl (fun c6 => ?_) (fun c6 => ?_)))
 ·
  refine C.sr fun K4 => O.call call16 (argsN) (bknown_spec _ (mx.keep e1)) ?_
  rintro v_7 w2 ⟨rfl, e2⟩
  have z2 := e2.size
  refine O.asg (K4 (C.ret (Outs.one rfl rfl ?_)))
  exact ⟨rfl, (Ext.trans e1 e2)⟩
 have hsm : Bt.small l 12 = true := by simpa using c6
 have hsmB := Bt.small_Big hsm
 have hsml := Bt.small_len hsm
 have hsmf := Bt.small_flat hsm
 have hsme := Bt.enc_le hsm
 have hsmv := Bt.small_valid hsm (by omega)
 have hsmM := Bt.small_mid hsm
 refine C.skip (K2 (C.sr fun K5 => O.mv (O.call call17 (args1 rfl) (copyL_spec v0 raw l F _ (hr.keep e1) (he.keep e1) (fun j hj => by have q1 := hF j hj; omega) hsmB (by omega) (mx.keep e1)) ?_)))
 rintro v_9 w3 ⟨h9, e3⟩
 have z3 := e3.size
 obtain ⟨rw9, hra9, hea9⟩ := h9
 have hrs9 := hra9.sl
 have hes9 := hea9.weak (F' := fun j => j < w3.heap.size) (fun j hj => by have q1 := hj.2.1; omega)
 have hrs9 := hrs9.weak (F' := fun j => j < w3.heap.size) (fun j hj => by have q1 := hj.2; omega)
 refine O.asg (K5 (C.sq fun K6 => C.sr fun K7 => O.mv ?_))
 have t0 := (he.keep e1).keep e3
 have t1 := (hr.keep e1).keep e3
 have t2 := (mx.keep e1).keep e3
 refine O.call call18 (args1 rfl) (bvalid_spec v0 raw l F _ t1 t0 (fun j hj => by have q1 := hF j hj; omega) hsmB t2) ?_
 rintro v_11 w4 ⟨rfl, e4⟩
 have z4 := e4.size
 refine O.mv (O.call call19 (args1 rfl) (lordered_spec v0 raw l F _ (t1.keep e4) (t0.keep e4) (fun j hj => by have q1 := hF j hj; omega) hsmB (t2.keep e4)) ?_)
 rintro v_13 w5 ⟨rfl, e5⟩
 have z5 := e5.size
 refine O.neqB underlying4 rfl rfl (O.cast (v' := .bool false) (congrArg Value.bool (by simp [hsmv])) (K7 (C.condF rfl (C.skip (K6 (C.sq fun K8 => C.sr fun K9 => O.mv ?_))))))
 have t3 := (t0.keep e4).keep e5
 have t4 := (t1.keep e4).keep e5
 have t5 := (t2.keep e4).keep e5
 refine O.call call19 (args1 rfl) (lordered_spec v0 raw l F _ t4 t3 (fun j hj => by have q1 := hF j hj; omega) hsmB t5) ?_
 rintro v_16 w6 ⟨rfl, e6⟩
 have z6 := e6.size
 refine O.not rfl (K9 (C.cond rfl (fun c17 => ?_) (fun c17 => ?_)))
 ·
  have hoN : Bt.ordered l = false := by simpa using c17
  refine C.sr fun K10 => O.mv (O.call call20 (args3 rfl rfl rfl) (encodes_spec v0 raw l F (.slice none 0 0) [] (fun _ => False) 2 _ (t4.keep e6) (t3.keep e6) (fun j hj => by have q1 := hF j hj; omega) hsmB (t5.keep e6) (fun _ => by omega) (Sl.nil _ _ _) (.inr ⟨by rw [hsmv]; exact hoN, rfl, rfl⟩)) ?_)
  rintro v_19 w7 ⟨rfl, e7⟩
  have z7 := e7.size
  refine O.mv (O.yes rfl rfl (O.mv (O.yes rfl rfl (O.mv (O.yes rfl rfl (O.call call21 (args2 rfl rfl) (sameL_spec v0 raw l F v_9 rw9 l _ _ ((t4.keep e6).keep e7) ((t3.keep e6).keep e7) ((((hrs9.keep e4).keep e5).keep e6).keep e7) ((((hes9.keep e4).keep e5).keep e6).keep e7) (fun j hj => by have q1 := hF j hj; omega) (fun j hj => by (try dsimp only at hj); omega)) ?_))))))
  rintro v_23 w8 ⟨rfl, e8⟩
  have z8 := e8.size
  refine O.cast (v' := .bool true) (congrArg Value.bool (by exact decide_eq_true rfl)) (O.pickT rfl (O.mv (O.yes rfl rfl (O.call call16 (argsN) (bknown_spec _ (((t5.keep e6).keep e7).keep e8)) ?_))))
  rintro v_26 w9 ⟨rfl, e9⟩
  have z9 := e9.size
  refine O.pickT rfl (O.asg (K10 (C.ret (Outs.one rfl rfl ?_))))
  exact ⟨rfl, (Ext.trans (Ext.trans (Ext.trans (Ext.trans (Ext.trans (Ext.trans (Ext.trans e1 e3) e4) e5) e6) e7) e8) e9)⟩
 have hoY : Bt.ordered l = true := by simpa using c17
 refine C.skip (K8 (C.sr fun K11 => O.mv (O.mv (O.call call22 (args1 rfl) (lwhole_spec v0 raw l F _ (t4.keep e6) (t3.keep e6) (fun j hj => by have q1 := hF j hj; omega) hsmB (by omega) (by omega)) ?_))))
 rintro v_30 w10 ⟨e10, h30⟩
 have z10 := e10.size
 have h30s := h30.sl
 refine O.call call20 (args3 rfl rfl rfl) (encodes_spec v0 raw l F v_30 (Bt.enc l) _ 0 _ ((t4.keep e6).keep e10) ((t3.keep e6).keep e10) (fun j hj => by have q1 := hF j hj; omega) hsmB ((t5.keep e6).keep e10) (fun _ => by omega) h30s (.inl ⟨by rw [hsmv]; exact hoY, rfl, rfl⟩)) ?_
 rintro v_31 w11 ⟨rfl, e11⟩
 have z11 := e11.size
 refine O.mv (O.yes rfl rfl (O.mv (O.yes rfl rfl (O.mv (O.yes rfl rfl (O.call call21 (args2 rfl rfl) (sameL_spec v0 raw l F v_9 rw9 l _ _ (((t4.keep e6).keep e10).keep e11) (((t3.keep e6).keep e10).keep e11) (((((hrs9.keep e4).keep e5).keep e6).keep e10).keep e11) (((((hes9.keep e4).keep e5).keep e6).keep e10).keep e11) (fun j hj => by have q1 := hF j hj; omega) (fun j hj => by (try dsimp only at hj); omega)) ?_))))))
 rintro v_35 w12 ⟨rfl, e12⟩
 have z12 := e12.size
 refine O.cast (v' := .bool true) (congrArg Value.bool (by exact decide_eq_true rfl)) (O.pickT rfl (O.mv (O.yes rfl rfl (O.call call16 (argsN) (bknown_spec _ ((((t5.keep e6).keep e10).keep e11).keep e12)) ?_))))
 rintro v_38 w13 ⟨rfl, e13⟩
 have z13 := e13.size
 refine O.pickT rfl (O.asg (K11 (C.ret (Outs.one rfl rfl ?_))))
 exact ⟨rfl, (Ext.trans (Ext.trans (Ext.trans (Ext.trans (Ext.trans (Ext.trans (Ext.trans (Ext.trans e1 e3) e4) e5) e6) e10) e11) e12) e13)⟩
theorem batchEncodes_spec (v0 : Value) (l : List EntT) (F : Nat → Prop) (w : World) (hl : Sl entE w F v0 l) (hF : ∀ k, F k → k < w.heap.size) (mx : Mx w) : Ret prog 3 #[v0] w (fun v w' => v = .bool true ∧ Le w w') := by
 obtain ⟨raw, hr, he⟩ := hl.ents
 exact batchEncodes0_spec v0 raw l F w hr he hF mx
end Go.Proofs.YtpbcafkcfobngaaGreatDoor
