/-
  The laws of floats, walked. Conditions: slices as they lie in memory; the library's table and its errors.
-/
import Derived.Test.YtbadfphdniliaaaDoorFl4
import Derived.Test.YtbadfphdniliaaaDoorFl5
namespace Go.Proofs.YtbadfphdniliaaaDoor
open Go.Pn Go.RowKit

set_option maxHeartbeats 4000000 in
theorem known_spec (es er : Value) (w : World) (hT : Row byteE w (fun k => k = 6) 6 0 Hex.bruijn) (hes : CellIs w 3 es) (her : CellIs w 4 er) (h1 : ∃ te pe, es = .iface te pe) (h2 : ∃ te pe, er = .iface te pe) :
    Ret Tryd.prog 17 #[] w (fun v w' => v = .bool true ∧ Le w w') := by
  obtain ⟨ie23, hi23, hs23, hb23, hz23⟩ := inf23
  obtain ⟨ie22, hi22, hs22, hb22, hz22⟩ := inf22
  refine enter (args := []) (n := 115) Tryd.func17 rfl rfl (Nat.le_of_ble_eq_true rfl) ?_
  refine C.seqK fun K1 hK1 => ?_
  refine C.region ?_
  refine O.asg ?_
  refine O.nil ?_
  refine hK1 _ _ ?_
  refine C.seqK fun K2 hK2 => ?_
  refine C.seqK fun K3 hK3 => ?_
  refine C.region ?_
  refine O.call Tryd.call28 (args1 rfl) (ftext_spec (0#64) _ hT) ?_
  rintro v_2 w1 ⟨rfl, e1⟩
  have z1 := e1.size
  refine O.neqS rfl rfl ?_
  refine O.cast (v' := .bool false) (congrArg Value.bool (by decide +kernel)) ?_
  refine O.mv ?_
  refine O.yes rfl rfl ?_
  refine O.call Tryd.call35 (argsN) (minus_spec _) ?_
  rintro v_5 w2 ⟨rfl, hw_⟩
  replace hw_ := hw_.symm
  subst hw_
  refine O.yes rfl rfl ?_
  refine O.call Tryd.call28 (args1 rfl) (ftext_spec _ _ (hT.keep e1)) ?_
  rintro v_6 w2 ⟨rfl, e2⟩
  have z2 := e2.size
  refine O.yes rfl rfl ?_
  refine O.neqS rfl rfl ?_
  refine O.cast (v' := .bool false) (congrArg Value.bool (by decide +kernel)) ?_
  refine O.pickF rfl ?_
  refine O.mv ?_
  refine O.yes rfl rfl ?_
  refine O.call Tryd.call28 (args1 rfl) (ftext_spec (4607182418800017408#64) _ ((hT.keep e1).keep e2)) ?_
  rintro v_10 w3 ⟨rfl, e3⟩
  have z3 := e3.size
  refine O.yes rfl rfl ?_
  refine O.neqS rfl rfl ?_
  refine O.cast (v' := .bool false) (congrArg Value.bool (by decide +kernel)) ?_
  refine O.pickF rfl ?_
  refine O.mv ?_
  refine O.yes rfl rfl ?_
  refine O.call Tryd.call28 (args1 rfl) (ftext_spec (13835058055282163712#64) _ (((hT.keep e1).keep e2).keep e3)) ?_
  rintro v_14 w4 ⟨rfl, e4⟩
  have z4 := e4.size
  refine O.yes rfl rfl ?_
  refine O.neqS rfl rfl ?_
  refine O.cast (v' := .bool false) (congrArg Value.bool (by decide +kernel)) ?_
  refine O.pickF rfl ?_
  refine O.mv ?_
  refine O.yes rfl rfl ?_
  refine O.call Tryd.call36 (args1 rfl) (inf_p_spec _) ?_
  rintro v_18 w5 ⟨rfl, hw_⟩
  replace hw_ := hw_.symm
  subst hw_
  refine O.yes rfl rfl ?_
  refine O.call Tryd.call28 (args1 rfl) (ftext_spec _ _ ((((hT.keep e1).keep e2).keep e3).keep e4)) ?_
  rintro v_19 w5 ⟨rfl, e5⟩
  have z5 := e5.size
  refine O.yes rfl rfl ?_
  refine O.neqS rfl rfl ?_
  refine O.cast (v' := .bool false) (congrArg Value.bool (by decide +kernel)) ?_
  refine O.pickF rfl ?_
  refine O.mv ?_
  refine O.yes rfl rfl ?_
  refine O.call Tryd.call28 (args1 rfl) (ftext_spec (4591870180066957722#64) _ (((((hT.keep e1).keep e2).keep e3).keep e4).keep e5)) ?_
  rintro v_23 w6 ⟨rfl, e6⟩
  have z6 := e6.size
  refine O.yes rfl rfl ?_
  refine O.neqS rfl rfl ?_
  refine O.cast (v' := .bool false) (congrArg Value.bool (by decide +kernel)) ?_
  refine O.pickF rfl ?_
  refine O.nil ?_
  refine hK3 _ _ ?_
  refine C.condF rfl ?_
  refine C.skip ?_
  refine hK2 _ _ ?_
  refine C.seqK fun K4 hK4 => ?_
  refine C.seqK fun K5 hK5 => ?_
  refine C.region ?_
  refine O.call Tryd.call10 (args1 rfl) (key_spec (0#64) _) ?_
  rintro v_26 w7 ⟨rfl, hw_⟩
  replace hw_ := hw_.symm
  subst hw_
  refine O.neqU (m := 64) (b := 9223372036854775808#64) rfl rfl ?_
  refine O.cast (v' := .bool false) (congrArg Value.bool (by decide +kernel)) ?_
  refine O.mv ?_
  refine O.yes rfl rfl ?_
  refine O.call Tryd.call35 (argsN) (minus_spec _) ?_
  rintro v_29 w7 ⟨rfl, hw_⟩
  replace hw_ := hw_.symm
  subst hw_
  refine O.yes rfl rfl ?_
  refine O.call Tryd.call10 (args1 rfl) (key_spec _ _) ?_
  rintro v_30 w7 ⟨rfl, hw_⟩
  replace hw_ := hw_.symm
  subst hw_
  refine O.yes rfl rfl ?_
  refine O.neqU (m := 64) (b := 9223372036854775807#64) rfl rfl ?_
  refine O.cast (v' := .bool false) (congrArg Value.bool (by decide +kernel)) ?_
  refine O.pickF rfl ?_
  refine O.mv ?_
  refine O.yes rfl rfl ?_
  refine O.call Tryd.call13 (args1 rfl) (off_spec (0#64) _) ?_
  rintro v_34 w7 ⟨rfl, hw_⟩
  replace hw_ := hw_.symm
  subst hw_
  refine O.yes rfl rfl ?_
  refine O.call Tryd.call12 (args2 rfl rfl) (is_spec _ 18446744073709551615#64 _) ?_
  rintro v_35 w7 ⟨rfl, hw_⟩
  replace hw_ := hw_.symm
  subst hw_
  refine O.cast (v' := .bool true) (congrArg Value.bool (by decide +kernel)) ?_
  refine O.yes rfl rfl ?_
  refine O.not rfl ?_
  refine O.cast (v' := .bool false) rfl ?_
  refine O.pickF rfl ?_
  refine O.mv ?_
  refine O.yes rfl rfl ?_
  refine O.call Tryd.call35 (argsN) (minus_spec _) ?_
  rintro v_39 w7 ⟨rfl, hw_⟩
  replace hw_ := hw_.symm
  subst hw_
  refine O.yes rfl rfl ?_
  refine O.call Tryd.call15 (args2 rfl rfl) (cmp_spec _ 0#64 _) ?_
  rintro v_40 w7 ⟨rfl, hw_⟩
  replace hw_ := hw_.symm
  subst hw_
  refine O.yes rfl rfl ?_
  refine O.neqI rfl rfl ?_
  refine O.cast (v' := .bool false) (congrArg Value.bool (by decide +kernel)) ?_
  refine O.pickF rfl ?_
  refine O.mv ?_
  refine O.yes rfl rfl ?_
  refine O.call Tryd.call36 (args1 rfl) (inf_p_spec _) ?_
  rintro v_44 w7 ⟨rfl, hw_⟩
  replace hw_ := hw_.symm
  subst hw_
  refine O.yes rfl rfl ?_
  refine O.call Tryd.call9 (args1 rfl) (of_spec 9221120237041090561#64 _) ?_
  rintro v_45 w7 ⟨rfl, hw_⟩
  replace hw_ := hw_.symm
  subst hw_
  refine O.yes rfl rfl ?_
  refine O.call Tryd.call15 (args2 rfl rfl) (cmp_spec _ _ _) ?_
  rintro v_46 w7 ⟨rfl, hw_⟩
  replace hw_ := hw_.symm
  subst hw_
  refine O.yes rfl rfl ?_
  refine O.neqI rfl rfl ?_
  refine O.cast (v' := .bool false) (congrArg Value.bool (by decide +kernel)) ?_
  refine O.pickF rfl ?_
  refine O.mv ?_
  refine O.yes rfl rfl ?_
  refine O.call Tryd.call15 (args2 rfl rfl) (cmp_spec 13835058055282163712#64 4607182418800017408#64 _) ?_
  rintro v_50 w7 ⟨rfl, hw_⟩
  replace hw_ := hw_.symm
  subst hw_
  refine O.yes rfl rfl ?_
  refine O.neqI rfl rfl ?_
  refine O.cast (v' := .bool false) (congrArg Value.bool (by decide +kernel)) ?_
  refine O.pickF rfl ?_
  refine O.nil ?_
  refine hK5 _ _ ?_
  refine C.condF rfl ?_
  refine C.skip ?_
  refine hK4 _ _ ?_
  refine C.seqK fun K6 hK6 => ?_
  refine C.seqK fun K7 hK7 => ?_
  refine C.region ?_
  refine O.call Tryd.call35 (argsN) (minus_spec _) ?_
  rintro v_53 w7 ⟨rfl, hw_⟩
  replace hw_ := hw_.symm
  subst hw_
  refine O.call Tryd.call18 (args1 rfl) (canon_spec _ _) ?_
  rintro v_54 w7 ⟨rfl, hw_⟩
  replace hw_ := hw_.symm
  subst hw_
  refine O.call Tryd.call12 (args2 rfl rfl) (is_spec _ 0#64 _) ?_
  rintro v_55 w7 ⟨rfl, hw_⟩
  replace hw_ := hw_.symm
  subst hw_
  refine O.cast (v' := .bool true) (congrArg Value.bool (by decide +kernel)) ?_
  refine O.not rfl ?_
  refine O.cast (v' := .bool false) rfl ?_
  refine O.mv ?_
  refine O.yes rfl rfl ?_
  refine O.call Tryd.call9 (args1 rfl) (of_spec 18444492273895866369#64 _) ?_
  rintro v_58 w7 ⟨rfl, hw_⟩
  replace hw_ := hw_.symm
  subst hw_
  refine O.yes rfl rfl ?_
  refine O.call Tryd.call18 (args1 rfl) (canon_spec _ _) ?_
  rintro v_59 w7 ⟨rfl, hw_⟩
  replace hw_ := hw_.symm
  subst hw_
  refine O.yes rfl rfl ?_
  refine O.call Tryd.call12 (args2 rfl rfl) (is_spec _ 9221120237041090560#64 _) ?_
  rintro v_60 w7 ⟨rfl, hw_⟩
  replace hw_ := hw_.symm
  subst hw_
  refine O.cast (v' := .bool true) (congrArg Value.bool (by decide +kernel)) ?_
  refine O.yes rfl rfl ?_
  refine O.not rfl ?_
  refine O.cast (v' := .bool false) rfl ?_
  refine O.pickF rfl ?_
  refine O.mv ?_
  refine O.yes rfl rfl ?_
  refine O.call Tryd.call35 (argsN) (minus_spec _) ?_
  rintro v_64 w7 ⟨rfl, hw_⟩
  replace hw_ := hw_.symm
  subst hw_
  refine O.yes rfl rfl ?_
  refine O.call Tryd.call20 (args2 rfl rfl) (same_spec _ 0#64 _) ?_
  rintro v_65 w7 ⟨rfl, hw_⟩
  replace hw_ := hw_.symm
  subst hw_
  refine O.cast (v' := .bool true) (congrArg Value.bool (by decide +kernel)) ?_
  refine O.yes rfl rfl ?_
  refine O.not rfl ?_
  refine O.cast (v' := .bool false) rfl ?_
  refine O.pickF rfl ?_
  refine O.mv ?_
  refine O.yes rfl rfl ?_
  refine O.call Tryd.call20 (args2 rfl rfl) (same_spec 4591870180066957722#64 4596373779694328218#64 _) ?_
  rintro v_69 w7 ⟨rfl, hw_⟩
  replace hw_ := hw_.symm
  subst hw_
  refine O.cast (v' := .bool false) (congrArg Value.bool (by decide +kernel)) ?_
  refine O.pickF rfl ?_
  refine O.mv ?_
  refine O.yes rfl rfl ?_
  refine O.call Tryd.call35 (argsN) (minus_spec _) ?_
  rintro v_72 w7 ⟨rfl, hw_⟩
  replace hw_ := hw_.symm
  subst hw_
  refine O.yes rfl rfl ?_
  refine O.litn [fl 4607182418800017408#64, fl 9223372036854775808#64, fl 13835058055282163712#64, fl 0#64] Tryd.underlying35 hi23 hs23 hz23 rfl (by decide) (by decide) rfl (by simp [fl, Value.oneCell']) (fun b73 w7 hb73 hz73 e7 => ?_)
  have z7 := e7.size
  have h73 := hz73.own
  have hl73 := h73.lt
  have h1073 : Sl flE w7 (fun k => k = b73) (.slice (some ⟨b73, 0, none⟩) 4 4) [4607182418800017408#64, 9223372036854775808#64, 13835058055282163712#64, 0#64] := Sl.of_own (G := flF) h73 rfl (by decide) (by unfold maxLen; decide) (by decide)
  refine O.yes rfl rfl ?_
  refine O.call Tryd.call22 (args1 rfl) (fsorted_spec _ _ _ _ h1073 (by decide)) ?_
  rintro v_74 w8 ⟨e8, h74⟩
  have z8 := e8.size
  have h74s := h74.sl
  refine O.yes rfl rfl ?_
  refine O.call Tryd.call24 (args1 rfl) (bits_spec _ _ _ _ h74s (by rw [Fl.sorted_length]; decide)) ?_
  rintro v_75 w9 ⟨e9, h75⟩
  have z9 := e9.size
  have h75s := h75.sl
  refine O.yes rfl rfl ?_
  refine O.call Tryd.call35 (argsN) (minus_spec _) ?_
  rintro v_76 w10 ⟨rfl, hw_⟩
  replace hw_ := hw_.symm
  subst hw_
  refine O.yes rfl rfl ?_
  refine O.litn [fl 13835058055282163712#64, fl 9223372036854775808#64, fl 0#64, fl 4607182418800017408#64] Tryd.underlying35 hi23 hs23 hz23 rfl (by decide) (by decide) rfl (by simp [fl, Value.oneCell']) (fun b77 w10 hb77 hz77 e10 => ?_)
  have z10 := e10.size
  have h77 := hz77.own
  have hl77 := h77.lt
  have h1077 : Sl flE w10 (fun k => k = b77) (.slice (some ⟨b77, 0, none⟩) 4 4) [13835058055282163712#64, 9223372036854775808#64, 0#64, 4607182418800017408#64] := Sl.of_own (G := flF) h77 rfl (by decide) (by unfold maxLen; decide) (by decide)
  refine O.yes rfl rfl ?_
  refine O.call Tryd.call24 (args1 rfl) (bits_spec _ _ _ _ h1077 (by decide)) ?_
  rintro v_78 w11 ⟨e11, h78⟩
  have z11 := e11.size
  have h78s := h78.sl
  refine O.yes rfl rfl ?_
  refine O.call Tryd.call23 (args2 rfl rfl) (rsame_spec _ _ _ _ _ _ _ ((h75s.keep e10).keep e11) h78s) ?_
  rintro v_79 w12 ⟨rfl, e12⟩
  have z12 := e12.size
  refine O.cast (v' := .bool true) (congrArg Value.bool (by decide +kernel)) ?_
  refine O.yes rfl rfl ?_
  refine O.not rfl ?_
  refine O.cast (v' := .bool false) rfl ?_
  refine O.pickF rfl ?_
  refine O.nil ?_
  refine hK7 _ _ ?_
  refine C.condF rfl ?_
  refine C.skip ?_
  refine hK6 _ _ ?_
  refine C.seqK fun K8 hK8 => ?_
  refine C.region ?_
  refine O.asg ?_
  refine O.nil ?_
  refine hK8 _ _ ?_
  refine C.seqK fun K9 hK9 => ?_
  refine C.region ?_
  refine O.call Tryd.call26 (args1 rfl) (fsum_spec _ [] (fun _ => False) _ (Sl.nil flE _ _) (by decide)) ?_
  rintro v_82 w13 ⟨e13, rfl⟩
  have z13 := e13.size
  refine O.call Tryd.call12 (args2 rfl rfl) (is_spec _ 0#64 _) ?_
  rintro v_83 w14 ⟨rfl, hw_⟩
  replace hw_ := hw_.symm
  subst hw_
  refine O.cast (v' := .bool true) (congrArg Value.bool (by decide +kernel)) ?_
  refine O.mv ?_
  refine O.yes rfl rfl ?_
  refine O.litn [fl 4607182418800017408#64, fl 4611686018427387904#64, fl 13837309855095848960#64] Tryd.underlying35 hi23 hs23 hz23 rfl (by decide) (by decide) rfl (by simp [fl, Value.oneCell']) (fun b85 w14 hb85 hz85 e14 => ?_)
  have z14 := e14.size
  have h85 := hz85.own
  have hl85 := h85.lt
  have h1085 : Sl flE w14 (fun k => k = b85) (.slice (some ⟨b85, 0, none⟩) 3 3) [4607182418800017408#64, 4611686018427387904#64, 13837309855095848960#64] := Sl.of_own (G := flF) h85 rfl (by decide) (by unfold maxLen; decide) (by decide)
  refine O.yes rfl rfl ?_
  refine O.call Tryd.call26 (args1 rfl) (fsum_spec _ _ _ _ h1085 (by decide)) ?_
  rintro v_86 w15 ⟨e15, rfl⟩
  have z15 := e15.size
  refine O.yes rfl rfl ?_
  refine O.call Tryd.call12 (args2 rfl rfl) (is_spec _ 0#64 _) ?_
  rintro v_87 w16 ⟨rfl, hw_⟩
  replace hw_ := hw_.symm
  subst hw_
  refine O.cast (v' := .bool true) (congrArg Value.bool (by decide +kernel)) ?_
  refine O.pickT rfl ?_
  refine O.mv ?_
  refine O.yes rfl rfl ?_
  refine O.call Tryd.call36 (args1 rfl) (inf_p_spec _) ?_
  rintro v_90 w16 ⟨rfl, hw_⟩
  replace hw_ := hw_.symm
  subst hw_
  refine O.yes rfl rfl ?_
  refine O.call Tryd.call36 (args1 rfl) (inf_n_spec _) ?_
  rintro v_91 w16 ⟨rfl, hw_⟩
  replace hw_ := hw_.symm
  subst hw_
  refine O.yes rfl rfl ?_
  refine O.litn [fl 9218868437227405312#64, fl 18442240474082181120#64] Tryd.underlying35 hi23 hs23 hz23 rfl (by decide) (by decide) rfl (by simp [fl, Value.oneCell']) (fun b92 w16 hb92 hz92 e16 => ?_)
  have z16 := e16.size
  have h92 := hz92.own
  have hl92 := h92.lt
  have h1092 : Sl flE w16 (fun k => k = b92) (.slice (some ⟨b92, 0, none⟩) 2 2) [9218868437227405312#64, 18442240474082181120#64] := Sl.of_own (G := flF) h92 rfl (by decide) (by unfold maxLen; decide) (by decide)
  refine O.yes rfl rfl ?_
  refine O.call Tryd.call26 (args1 rfl) (fsum_spec _ _ _ _ h1092 (by decide)) ?_
  rintro v_93 w17 ⟨e17, rfl⟩
  have z17 := e17.size
  refine O.yes rfl rfl ?_
  refine O.call Tryd.call12 (args2 rfl rfl) (is_spec _ 9221120237041090560#64 _) ?_
  rintro v_94 w18 ⟨rfl, hw_⟩
  replace hw_ := hw_.symm
  subst hw_
  refine O.cast (v' := .bool true) (congrArg Value.bool (by decide +kernel)) ?_
  refine O.pickT rfl ?_
  refine O.mv ?_
  refine O.yes rfl rfl ?_
  refine O.mv ?_
  refine O.yes rfl rfl ?_
  refine O.litn [fl 4845873199050653696#64, fl 4607182418800017408#64, fl 4607182418800017408#64] Tryd.underlying35 hi23 hs23 hz23 rfl (by decide) (by decide) rfl (by simp [fl, Value.oneCell']) (fun b98 w18 hb98 hz98 e18 => ?_)
  have z18 := e18.size
  have h98 := hz98.own
  have hl98 := h98.lt
  have h1098 : Sl flE w18 (fun k => k = b98) (.slice (some ⟨b98, 0, none⟩) 3 3) [4845873199050653696#64, 4607182418800017408#64, 4607182418800017408#64] := Sl.of_own (G := flF) h98 rfl (by decide) (by unfold maxLen; decide) (by decide)
  refine O.yes rfl rfl ?_
  refine O.call Tryd.call26 (args1 rfl) (fsum_spec _ _ _ _ h1098 (by decide)) ?_
  rintro v_99 w19 ⟨e19, rfl⟩
  have z19 := e19.size
  refine O.yes rfl rfl ?_
  refine O.mv ?_
  refine O.yes rfl rfl ?_
  refine O.addF (a := 4845873199050653696#64) (b := 4611686018427387904#64) rfl rfl (fun r101 w20 e20 hf101 => ?_)
  have z20 := e20.size
  have q : r101 = 4845873199050653697#64 := Fl.fadd_one hf101 (by decide +kernel)
  subst q
  refine O.yes rfl rfl ?_
  refine O.eqlF rfl rfl ?_
  refine O.cast (v' := .bool true) (congrArg Value.bool (by decide +kernel)) ?_
  refine O.pickT rfl ?_
  refine O.mv ?_
  refine O.yes rfl rfl ?_
  refine O.mv ?_
  refine O.yes rfl rfl ?_
  refine O.litn [fl 4607182418800017408#64, fl 4845873199050653696#64, fl 4607182418800017408#64] Tryd.underlying35 hi23 hs23 hz23 rfl (by decide) (by decide) rfl (by simp [fl, Value.oneCell']) (fun b106 w21 hb106 hz106 e21 => ?_)
  have z21 := e21.size
  have h106 := hz106.own
  have hl106 := h106.lt
  have h1106 : Sl flE w21 (fun k => k = b106) (.slice (some ⟨b106, 0, none⟩) 3 3) [4607182418800017408#64, 4845873199050653696#64, 4607182418800017408#64] := Sl.of_own (G := flF) h106 rfl (by decide) (by unfold maxLen; decide) (by decide)
  refine O.yes rfl rfl ?_
  refine O.call Tryd.call26 (args1 rfl) (fsum_spec _ _ _ _ h1106 (by decide)) ?_
  rintro v_107 w22 ⟨e22, rfl⟩
  have z22 := e22.size
  refine O.yes rfl rfl ?_
  refine O.mv ?_
  refine O.yes rfl rfl ?_
  refine O.addF (a := 4845873199050653696#64) (b := 4611686018427387904#64) rfl rfl (fun r109 w23 e23 hf109 => ?_)
  have z23 := e23.size
  have q : r109 = 4845873199050653697#64 := Fl.fadd_one hf109 (by decide +kernel)
  subst q
  refine O.yes rfl rfl ?_
  refine O.eqlF rfl rfl ?_
  refine O.cast (v' := .bool true) (congrArg Value.bool (by decide +kernel)) ?_
  refine O.pickT rfl ?_
  refine O.mv ?_
  refine O.yes rfl rfl ?_
  refine O.call Tryd.call31 (args3 rfl rfl rfl) (parses_no_spec _ es er _ (by decide) (((((((((((((((((((((((hT.keep e1).keep e2).keep e3).keep e4).keep e5).keep e6).keep e7).keep e8).keep e9).keep e10).keep e11).keep e12).keep e13).keep e14).keep e15).keep e16).keep e17).keep e18).keep e19).keep e20).keep e21).keep e22).keep e23) (((((((((((((((((((((((hes.keep e1).keep e2).keep e3).keep e4).keep e5).keep e6).keep e7).keep e8).keep e9).keep e10).keep e11).keep e12).keep e13).keep e14).keep e15).keep e16).keep e17).keep e18).keep e19).keep e20).keep e21).keep e22).keep e23) (((((((((((((((((((((((her.keep e1).keep e2).keep e3).keep e4).keep e5).keep e6).keep e7).keep e8).keep e9).keep e10).keep e11).keep e12).keep e13).keep e14).keep e15).keep e16).keep e17).keep e18).keep e19).keep e20).keep e21).keep e22).keep e23) h1 h2 (by decide +kernel)) ?_
  rintro v_113 w24 ⟨rfl, e24⟩
  have z24 := e24.size
  refine O.pickT rfl ?_
  refine O.asg ?_
  refine O.nil ?_
  refine hK9 _ _ ?_
  refine C.ret ?_
  refine Outs.one rfl rfl ?_
  exact ⟨rfl, (Ext.trans (Ext.trans (Ext.trans (Ext.trans (Ext.trans (Ext.trans (Ext.trans (Ext.trans (Ext.trans (Ext.trans (Ext.trans (Ext.trans (Ext.trans (Ext.trans (Ext.trans (Ext.trans (Ext.trans (Ext.trans (Ext.trans (Ext.trans (Ext.trans (Ext.trans (Ext.trans e1 e2) e3) e4) e5) e6) e7) e8) e9) e10) e11) e12) e13) e14) e15) e16) e17) e18) e19) e20) e21) e22) e23) e24)⟩

theorem floatsKeys_spec (a b : BitVec 64) (es er : Value) (w : World) (hT : Row byteE w (fun k => k = 6) 6 0 Hex.bruijn) (hes : CellIs w 3 es) (her : CellIs w 4 er) (h1 : ∃ te pe, es = .iface te pe) (h2 : ∃ te pe, er = .iface te pe) :
    Ret Tryd.prog 3 #[.int .u64 ((a).toNat : Int), .int .u64 ((b).toNat : Int)] w (fun v w' => v = .bool true ∧ Le w w') := by
  refine enter (args := [.int .u64 ((a).toNat : Int), .int .u64 ((b).toNat : Int)]) (n := 41) Tryd.func3 rfl rfl (Nat.le_of_ble_eq_true rfl) ?_
  refine C.seqK fun K1 hK1 => ?_
  refine C.region ?_
  refine O.asg ?_
  refine O.nil ?_
  refine hK1 _ _ ?_
  refine C.seqK fun K2 hK2 => ?_
  refine C.region ?_
  refine O.mv ?_
  refine O.call Tryd.call9 (args1 rfl) (of_spec _ _) ?_
  rintro v_8 w1 ⟨rfl, hw_⟩
  replace hw_ := hw_.symm
  subst hw_
  refine O.mv ?_
  refine O.call Tryd.call9 (args1 rfl) (of_spec _ _) ?_
  rintro v_10 w1 ⟨rfl, hw_⟩
  replace hw_ := hw_.symm
  subst hw_
  refine O.asg ?_
  refine O.asg ?_
  refine O.nil ?_
  refine hK2 _ _ ?_
  refine C.seqK fun K3 hK3 => ?_
  refine C.region ?_
  refine O.mv ?_
  refine O.call Tryd.call10 (args1 rfl) (key_spec _ _) ?_
  rintro v_12 w1 ⟨rfl, hw_⟩
  replace hw_ := hw_.symm
  subst hw_
  refine O.mv ?_
  refine O.call Tryd.call11 (args1 rfl) (rkey_spec _ _) ?_
  rintro v_14 w1 ⟨rfl, hw_⟩
  replace hw_ := hw_.symm
  subst hw_
  refine O.eqlU (m := 64) rfl rfl ?_
  refine O.cast (v' := .bool true) (congrArg Value.bool (by exact decide_eq_true rfl)) ?_
  refine O.mv ?_
  refine O.yes rfl rfl ?_
  refine O.mv ?_
  refine O.yes rfl rfl ?_
  refine O.call Tryd.call13 (args1 rfl) (off_spec _ _) ?_
  rintro v_18 w1 ⟨rfl, hw_⟩
  replace hw_ := hw_.symm
  subst hw_
  refine O.yes rfl rfl ?_
  refine O.mv ?_
  refine O.yes rfl rfl ?_
  refine O.call Tryd.call14 (args1 rfl) (roff_spec _ _) ?_
  rintro v_20 w1 ⟨rfl, hw_⟩
  replace hw_ := hw_.symm
  subst hw_
  refine O.yes rfl rfl ?_
  refine O.call Tryd.call12 (args2 rfl rfl) (is_spec _ _ _) ?_
  rintro v_21 w1 ⟨rfl, hw_⟩
  replace hw_ := hw_.symm
  subst hw_
  refine O.cast (v' := .bool true) (congrArg Value.bool (by exact decide_eq_true rfl)) ?_
  refine O.pickT rfl ?_
  refine O.mv ?_
  refine O.yes rfl rfl ?_
  refine O.mv ?_
  refine O.yes rfl rfl ?_
  refine O.mv ?_
  refine O.yes rfl rfl ?_
  refine O.call Tryd.call15 (args2 rfl rfl) (cmp_spec _ _ _) ?_
  rintro v_26 w1 ⟨rfl, hw_⟩
  replace hw_ := hw_.symm
  subst hw_
  refine O.yes rfl rfl ?_
  refine O.mv ?_
  refine O.yes rfl rfl ?_
  refine O.mv ?_
  refine O.yes rfl rfl ?_
  refine O.call Tryd.call16 (args2 rfl rfl) (rcmp_spec _ _ _) ?_
  rintro v_29 w1 ⟨rfl, hw_⟩
  replace hw_ := hw_.symm
  subst hw_
  refine O.yes rfl rfl ?_
  refine O.eqlI rfl rfl ?_
  refine O.cast (v' := .bool true) (congrArg Value.bool (by exact decide_eq_true rfl)) ?_
  refine O.pickT rfl ?_
  refine O.mv ?_
  refine O.yes rfl rfl ?_
  refine O.mv ?_
  refine O.yes rfl rfl ?_
  refine O.mv ?_
  refine O.yes rfl rfl ?_
  refine O.call Tryd.call15 (args2 rfl rfl) (cmp_spec _ _ _) ?_
  rintro v_35 w1 ⟨rfl, hw_⟩
  replace hw_ := hw_.symm
  subst hw_
  refine O.yes rfl rfl ?_
  refine O.eqlI rfl rfl ?_
  refine O.cast (v' := .bool true) (congrArg Value.bool (by exact decide_eq_true (Fl.cmp_self _))) ?_
  refine O.pickT rfl ?_
  refine O.mv ?_
  refine O.yes rfl rfl ?_
  refine O.call Tryd.call17 (argsN) (known_spec _ _ _ hT hes her h1 h2) ?_
  rintro v_39 w1 ⟨rfl, e1⟩
  have z1 := e1.size
  refine O.pickT rfl ?_
  refine O.asg ?_
  refine O.nil ?_
  refine hK3 _ _ ?_
  refine C.ret ?_
  refine Outs.one rfl rfl ?_
  exact ⟨rfl, e1⟩

theorem floatsCanons_spec (a b : BitVec 64) (es er : Value) (w : World) (hT : Row byteE w (fun k => k = 6) 6 0 Hex.bruijn) (hes : CellIs w 3 es) (her : CellIs w 4 er) (h1 : ∃ te pe, es = .iface te pe) (h2 : ∃ te pe, er = .iface te pe) :
    Ret Tryd.prog 4 #[.int .u64 ((a).toNat : Int), .int .u64 ((b).toNat : Int)] w (fun v w' => v = .bool true ∧ Le w w') := by
  refine enter (args := [.int .u64 ((a).toNat : Int), .int .u64 ((b).toNat : Int)]) (n := 27) Tryd.func4 rfl rfl (Nat.le_of_ble_eq_true rfl) ?_
  refine C.seqK fun K1 hK1 => ?_
  refine C.region ?_
  refine O.asg ?_
  refine O.nil ?_
  refine hK1 _ _ ?_
  refine C.seqK fun K2 hK2 => ?_
  refine C.region ?_
  refine O.mv ?_
  refine O.call Tryd.call9 (args1 rfl) (of_spec _ _) ?_
  rintro v_6 w1 ⟨rfl, hw_⟩
  replace hw_ := hw_.symm
  subst hw_
  refine O.call Tryd.call18 (args1 rfl) (canon_spec _ _) ?_
  rintro v_7 w1 ⟨rfl, hw_⟩
  replace hw_ := hw_.symm
  subst hw_
  refine O.mv ?_
  refine O.call Tryd.call19 (args1 rfl) (rcanon_spec _ _) ?_
  rintro v_9 w1 ⟨rfl, hw_⟩
  replace hw_ := hw_.symm
  subst hw_
  refine O.call Tryd.call12 (args2 rfl rfl) (is_spec _ _ _) ?_
  rintro v_10 w1 ⟨rfl, hw_⟩
  replace hw_ := hw_.symm
  subst hw_
  refine O.cast (v' := .bool true) (congrArg Value.bool (by exact decide_eq_true rfl)) ?_
  refine O.mv ?_
  refine O.yes rfl rfl ?_
  refine O.mv ?_
  refine O.yes rfl rfl ?_
  refine O.call Tryd.call9 (args1 rfl) (of_spec _ _) ?_
  rintro v_13 w1 ⟨rfl, hw_⟩
  replace hw_ := hw_.symm
  subst hw_
  refine O.yes rfl rfl ?_
  refine O.mv ?_
  refine O.yes rfl rfl ?_
  refine O.call Tryd.call9 (args1 rfl) (of_spec _ _) ?_
  rintro v_15 w1 ⟨rfl, hw_⟩
  replace hw_ := hw_.symm
  subst hw_
  refine O.yes rfl rfl ?_
  refine O.call Tryd.call20 (args2 rfl rfl) (same_spec _ _ _) ?_
  rintro v_16 w1 ⟨rfl, hw_⟩
  replace hw_ := hw_.symm
  subst hw_
  refine O.yes rfl rfl ?_
  refine O.mv ?_
  refine O.yes rfl rfl ?_
  refine O.call Tryd.call19 (args1 rfl) (rcanon_spec _ _) ?_
  rintro v_18 w1 ⟨rfl, hw_⟩
  replace hw_ := hw_.symm
  subst hw_
  refine O.yes rfl rfl ?_
  refine O.mv ?_
  refine O.yes rfl rfl ?_
  refine O.call Tryd.call19 (args1 rfl) (rcanon_spec _ _) ?_
  rintro v_20 w1 ⟨rfl, hw_⟩
  replace hw_ := hw_.symm
  subst hw_
  refine O.yes rfl rfl ?_
  refine O.eqlU (m := 64) rfl rfl ?_
  refine O.yes rfl rfl ?_
  refine O.eqlB Tryd.underlying4 rfl rfl ?_
  refine O.cast (v' := .bool true) (congrArg Value.bool (by exact decide_eq_true (decide_eq_decide.2 (Fl.cmp_zero _ _)))) ?_
  refine O.pickT rfl ?_
  refine O.mv ?_
  refine O.yes rfl rfl ?_
  refine O.call Tryd.call17 (argsN) (known_spec _ _ _ hT hes her h1 h2) ?_
  rintro v_25 w1 ⟨rfl, e1⟩
  have z1 := e1.size
  refine O.pickT rfl ?_
  refine O.asg ?_
  refine O.nil ?_
  refine hK2 _ _ ?_
  refine C.ret ?_
  refine Outs.one rfl rfl ?_
  exact ⟨rfl, e1⟩

theorem floatsTexts_a_spec (n : BitVec 64) (l : List UInt8) (m : BitVec 64) (es er : Value) (w : World) (hl : l.length ≤ maxLen) (hT : Row byteE w (fun k => k = 6) 6 0 Hex.bruijn) (hes : CellIs w 3 es) (her : CellIs w 4 er) (h1 : ∃ te pe, es = .iface te pe) (h2 : ∃ te pe, er = .iface te pe) (hr : Flx.rparse l = some m) :
    Ret Tryd.prog 6 #[.int .u64 ((n).toNat : Int), str (l)] w (fun v w' => v = .bool true ∧ Le w w') := by
  refine enter (args := [.int .u64 ((n).toNat : Int), str (l)]) (n := 35) Tryd.func6 rfl rfl (Nat.le_of_ble_eq_true rfl) ?_
  refine C.seqK fun K1 hK1 => ?_
  refine C.region ?_
  refine O.asg ?_
  refine O.nil ?_
  refine hK1 _ _ ?_
  refine C.seqK fun K2 hK2 => ?_
  refine C.seqK fun K3 hK3 => ?_
  refine C.region ?_
  refine O.mv ?_
  refine O.lenS Tryd.underlying9 rfl ?_
  refine O.gtrI rfl rfl ?_
  refine O.nil ?_
  refine hK3 _ _ ?_
  refine C.condD rfl (fun c9 => ?_) (fun c9 => ?_)
  ·
    refine C.seqK fun K4 hK4 => ?_
    refine C.region ?_
    refine O.call Tryd.call17 (argsN) (known_spec _ _ _ hT hes her h1 h2) ?_
    rintro v_10 w1 ⟨rfl, e1⟩
    have z1 := e1.size
    refine O.asg ?_
    refine O.nil ?_
    refine hK4 _ _ ?_
    refine C.ret ?_
    refine Outs.one rfl rfl ?_
    exact ⟨rfl, e1⟩
  ·
    refine C.skip ?_
    refine hK2 _ _ ?_
    refine C.seqK fun K5 hK5 => ?_
    refine C.seqK fun K6 hK6 => ?_
    refine C.region ?_
    refine O.mv ?_
    refine O.call Tryd.call9 (args1 rfl) (of_spec _ _) ?_
    rintro v_12 w2 ⟨rfl, hw_⟩
    replace hw_ := hw_.symm
    subst hw_
    refine O.call Tryd.call28 (args1 rfl) (ftext_spec _ _ hT) ?_
    rintro v_13 w2 ⟨rfl, e2⟩
    have z2 := e2.size
    refine O.mv ?_
    refine O.call Tryd.call29 (args1 rfl) (rtext_spec _ _) ?_
    rintro v_15 w3 ⟨rfl, hw_⟩
    replace hw_ := hw_.symm
    subst hw_
    refine O.neqS rfl rfl ?_
    refine O.cast (v' := .bool false) (congrArg Value.bool (by exact decide_eq_false (fun h => h rfl))) ?_
    refine O.nil ?_
    refine hK6 _ _ ?_
    refine C.condF rfl ?_
    refine C.skip ?_
    refine hK5 _ _ ?_
    refine C.seqK fun K7 hK7 => ?_
    refine C.region ?_
    refine O.mv ?_
    refine O.call Tryd.call30 (args1 rfl) (rparse_ok _ _ _ hl hr) ?_
    rintro v_19 w3 ⟨rfl, hw_⟩
    replace hw_ := hw_.symm
    subst hw_
    refine O.mv ?_
    refine O.extract rfl rfl ?_
    refine O.extract rfl rfl ?_
    refine O.asg ?_
    refine O.asg ?_
    refine O.nil ?_
    refine hK7 _ _ ?_
    refine C.seqK fun K8 hK8 => ?_
    refine C.seqK fun K9 hK9 => ?_
    refine C.region ?_
    refine O.mv ?_
    refine O.not rfl ?_
    refine O.cast (v' := .bool false) rfl ?_
    refine O.nil ?_
    refine hK9 _ _ ?_
    refine C.condF rfl ?_
    refine C.skip ?_
    refine hK8 _ _ ?_
    refine C.seqK fun K10 hK10 => ?_
    refine C.region ?_
    refine O.mv ?_
    refine O.mv ?_
    refine O.call Tryd.call31 (args3 rfl rfl rfl) (parses_ok_spec _ _ _ _ _ (by omega) (hT.keep e2) (hes.keep e2) (her.keep e2) h1 h2 (by rw [Flx.pparse_eq, hr])) ?_
    rintro v_31 w3 ⟨rfl, e3⟩
    have z3 := e3.size
    refine O.mv ?_
    refine O.yes rfl rfl ?_
    refine O.call Tryd.call17 (argsN) (known_spec _ _ _ ((hT.keep e2).keep e3) ((hes.keep e2).keep e3) ((her.keep e2).keep e3) h1 h2) ?_
    rintro v_33 w4 ⟨rfl, e4⟩
    have z4 := e4.size
    refine O.pickT rfl ?_
    refine O.asg ?_
    refine O.nil ?_
    refine hK10 _ _ ?_
    refine C.ret ?_
    refine Outs.one rfl rfl ?_
    exact ⟨rfl, (Ext.trans (Ext.trans e2 e3) e4)⟩

theorem floatsTexts_b_spec (n : BitVec 64) (l : List UInt8) (es er : Value) (w : World) (hl : l.length ≤ maxLen) (hT : Row byteE w (fun k => k = 6) 6 0 Hex.bruijn) (hes : CellIs w 3 es) (her : CellIs w 4 er) (h1 : ∃ te pe, es = .iface te pe) (h2 : ∃ te pe, er = .iface te pe) (hr : Flx.rparse l = none) :
    Ret Tryd.prog 6 #[.int .u64 ((n).toNat : Int), str (l)] w (fun v w' => v = .bool true ∧ Le w w') := by
  refine enter (args := [.int .u64 ((n).toNat : Int), str (l)]) (n := 35) Tryd.func6 rfl rfl (Nat.le_of_ble_eq_true rfl) ?_
  refine C.seqK fun K1 hK1 => ?_
  refine C.region ?_
  refine O.asg ?_
  refine O.nil ?_
  refine hK1 _ _ ?_
  refine C.seqK fun K2 hK2 => ?_
  refine C.seqK fun K3 hK3 => ?_
  refine C.region ?_
  refine O.mv ?_
  refine O.lenS Tryd.underlying9 rfl ?_
  refine O.gtrI rfl rfl ?_
  refine O.nil ?_
  refine hK3 _ _ ?_
  refine C.condD rfl (fun c9 => ?_) (fun c9 => ?_)
  ·
    refine C.seqK fun K4 hK4 => ?_
    refine C.region ?_
    refine O.call Tryd.call17 (argsN) (known_spec _ _ _ hT hes her h1 h2) ?_
    rintro v_10 w1 ⟨rfl, e1⟩
    have z1 := e1.size
    refine O.asg ?_
    refine O.nil ?_
    refine hK4 _ _ ?_
    refine C.ret ?_
    refine Outs.one rfl rfl ?_
    exact ⟨rfl, e1⟩
  ·
    refine C.skip ?_
    refine hK2 _ _ ?_
    refine C.seqK fun K5 hK5 => ?_
    refine C.seqK fun K6 hK6 => ?_
    refine C.region ?_
    refine O.mv ?_
    refine O.call Tryd.call9 (args1 rfl) (of_spec _ _) ?_
    rintro v_12 w2 ⟨rfl, hw_⟩
    replace hw_ := hw_.symm
    subst hw_
    refine O.call Tryd.call28 (args1 rfl) (ftext_spec _ _ hT) ?_
    rintro v_13 w2 ⟨rfl, e2⟩
    have z2 := e2.size
    refine O.mv ?_
    refine O.call Tryd.call29 (args1 rfl) (rtext_spec _ _) ?_
    rintro v_15 w3 ⟨rfl, hw_⟩
    replace hw_ := hw_.symm
    subst hw_
    refine O.neqS rfl rfl ?_
    refine O.cast (v' := .bool false) (congrArg Value.bool (by exact decide_eq_false (fun h => h rfl))) ?_
    refine O.nil ?_
    refine hK6 _ _ ?_
    refine C.condF rfl ?_
    refine C.skip ?_
    refine hK5 _ _ ?_
    refine C.seqK fun K7 hK7 => ?_
    refine C.region ?_
    refine O.mv ?_
    refine O.call Tryd.call30 (args1 rfl) (rparse_no _ _ hl hr) ?_
    rintro v_19 w3 ⟨rfl, hw_⟩
    replace hw_ := hw_.symm
    subst hw_
    refine O.mv ?_
    refine O.extract rfl rfl ?_
    refine O.extract rfl rfl ?_
    refine O.asg ?_
    refine O.asg ?_
    refine O.nil ?_
    refine hK7 _ _ ?_
    refine C.seqK fun K8 hK8 => ?_
    refine C.seqK fun K9 hK9 => ?_
    refine C.region ?_
    refine O.mv ?_
    refine O.not rfl ?_
    refine O.cast (v' := .bool true) rfl ?_
    refine O.nil ?_
    refine hK9 _ _ ?_
    refine C.condT rfl ?_
    refine C.seqK fun K10 hK10 => ?_
    refine C.region ?_
    refine O.mv ?_
    refine O.call Tryd.call31 (args3 rfl rfl rfl) (parses_no_spec _ _ _ _ (by omega) (hT.keep e2) (hes.keep e2) (her.keep e2) h1 h2 (by rw [Flx.pparse_eq, hr])) ?_
    rintro v_25 w3 ⟨rfl, e3⟩
    have z3 := e3.size
    refine O.mv ?_
    refine O.yes rfl rfl ?_
    refine O.call Tryd.call17 (argsN) (known_spec _ _ _ ((hT.keep e2).keep e3) ((hes.keep e2).keep e3) ((her.keep e2).keep e3) h1 h2) ?_
    rintro v_27 w4 ⟨rfl, e4⟩
    have z4 := e4.size
    refine O.pickT rfl ?_
    refine O.asg ?_
    refine O.nil ?_
    refine hK10 _ _ ?_
    refine C.ret ?_
    refine Outs.one rfl rfl ?_
    exact ⟨rfl, (Ext.trans (Ext.trans e2 e3) e4)⟩


theorem floatsTexts_spec (n : BitVec 64) (l : List UInt8) (es er : Value) (w : World) (hl : l.length ≤ maxLen) (hT : Row byteE w (fun k => k = 6) 6 0 Hex.bruijn) (hes : CellIs w 3 es) (her : CellIs w 4 er) (h1 : ∃ te pe, es = .iface te pe) (h2 : ∃ te pe, er = .iface te pe) : Ret Tryd.prog 6 #[.int .u64 (n.toNat : Int), str l] w (fun v w' => v = .bool true ∧ Le w w') := by
  cases hr : Flx.rparse l with
  | none => exact floatsTexts_b_spec n l es er w hl hT hes her h1 h2 hr
  | some m => exact floatsTexts_a_spec n l m es er w hl hT hes her h1 h2 hr

set_option maxHeartbeats 2000000 in
theorem floatsSums_spec (v0 : Value) (l : List (BitVec 64)) (F : Nat → Prop) (es er : Value) (w : World) (hl : Sl u64E w F v0 l) (hT : Row byteE w (fun k => k = 6) 6 0 Hex.bruijn) (hes : CellIs w 3 es) (her : CellIs w 4 er) (h1 : ∃ te pe, es = .iface te pe) (h2 : ∃ te pe, er = .iface te pe) :
    Ret Tryd.prog 5 #[v0] w (fun v w' => v = .bool true ∧ Le w w') := by
  obtain ⟨ie23, hi23, hs23, hb23, hz23⟩ := inf23
  obtain ⟨ie22, hi22, hs22, hb22, hz22⟩ := inf22
  have hle := hl.le
  have hsl := Fl.sorted_length l
  refine enter (args := [v0]) (n := 44) Tryd.func5 rfl rfl (Nat.le_of_ble_eq_true rfl) ?_
  refine C.seqK fun K1 hK1 => ?_
  refine C.region ?_
  refine O.asg ?_
  refine O.nil ?_
  refine hK1 _ _ ?_
  refine C.seqK fun K2 hK2 => ?_
  refine C.seqK fun K3 hK3 => ?_
  refine C.region ?_
  refine O.mv ?_
  refine O.len Tryd.underlying34 rfl hl ?_
  refine O.gtrI rfl rfl ?_
  refine O.nil ?_
  refine hK3 _ _ ?_
  refine C.condD rfl (fun c8 => ?_) (fun c8 => ?_)
  ·
    refine C.seqK fun K4 hK4 => ?_
    refine C.region ?_
    refine O.call Tryd.call17 (argsN) (known_spec _ _ _ hT hes her h1 h2) ?_
    rintro v_9 w1 ⟨rfl, e1⟩
    have z1 := e1.size
    refine O.asg ?_
    refine O.nil ?_
    refine hK4 _ _ ?_
    refine C.ret ?_
    refine Outs.one rfl rfl ?_
    exact ⟨rfl, e1⟩
  ·
    have hn : l.length ≤ 1000000 := by omega
    refine C.skip ?_
    refine hK2 _ _ ?_
    refine C.seqK fun K5 hK5 => ?_
    refine C.region ?_
    refine O.mv ?_
    refine O.call Tryd.call21 (args1 rfl) (values_spec _ _ _ _ hl hn) ?_
    rintro v_11 w2 ⟨e2, h11⟩
    have z2 := e2.size
    have h11s := h11.sl
    refine O.asg ?_
    refine O.nil ?_
    refine hK5 _ _ ?_
    refine C.seqK fun K6 hK6 => ?_
    refine C.region ?_
    refine O.mv ?_
    refine O.call Tryd.call22 (args1 rfl) (fsorted_spec _ _ _ _ h11s hn) ?_
    rintro v_13 w3 ⟨e3, h13⟩
    have z3 := e3.size
    have h13s := h13.sl
    refine O.asg ?_
    refine O.nil ?_
    refine hK6 _ _ ?_
    refine C.seqK fun K7 hK7 => ?_
    refine C.seqK fun K8 hK8 => ?_
    refine C.region ?_
    refine O.mv ?_
    refine O.call Tryd.call24 (args1 rfl) (bits_spec _ _ _ _ h13s (by rw [Fl.sorted_length]; exact hn)) ?_
    rintro v_15 w4 ⟨e4, h15⟩
    have z4 := e4.size
    have h15s := h15.sl
    refine O.mv ?_
    refine O.call Tryd.call25 (args1 rfl) (rsorted_spec _ _ _ _ (((hl.keep e2).keep e3).keep e4) hn) ?_
    rintro v_17 w5 ⟨e5, h17⟩
    have z5 := e5.size
    have h17s := h17.sl
    refine O.call Tryd.call23 (args2 rfl rfl) (rsame_spec _ _ _ _ _ _ _ (h15s.keep e5) h17s) ?_
    rintro v_18 w6 ⟨rfl, e6⟩
    have z6 := e6.size
    refine O.cast (v' := .bool true) (congrArg Value.bool (by exact decide_eq_true rfl)) ?_
    refine O.not rfl ?_
    refine O.cast (v' := .bool false) rfl ?_
    refine O.mv ?_
    refine O.yes rfl rfl ?_
    refine O.mv ?_
    refine O.yes rfl rfl ?_
    refine O.call Tryd.call26 (args1 rfl) (fsum_spec _ _ _ _ ((((h11s.keep e3).keep e4).keep e5).keep e6) hn) ?_
    rintro v_22 w7 ⟨e7, rfl⟩
    have z7 := e7.size
    refine O.yes rfl rfl ?_
    refine O.mv ?_
    refine O.yes rfl rfl ?_
    refine O.call Tryd.call27 (args1 rfl) (rsum_tot _ _ _ _ ((((((hl.keep e2).keep e3).keep e4).keep e5).keep e6).keep e7) hn) ?_
    rintro v_24 w8 ⟨e8, rfl⟩
    have z8 := e8.size
    refine O.yes rfl rfl ?_
    refine O.call Tryd.call12 (args2 rfl rfl) (is_spec _ _ _) ?_
    rintro v_25 w9 ⟨rfl, hw_⟩
    replace hw_ := hw_.symm
    subst hw_
    refine O.cast (v' := .bool true) (congrArg Value.bool (by exact decide_eq_true rfl)) ?_
    refine O.yes rfl rfl ?_
    refine O.not rfl ?_
    refine O.cast (v' := .bool false) rfl ?_
    refine O.pickF rfl ?_
    refine O.nil ?_
    refine hK8 _ _ ?_
    refine C.condF rfl ?_
    refine C.skip ?_
    refine hK7 _ _ ?_
    refine C.seqK fun K9 hK9 => ?_
    refine C.seqK fun K10 hK10 => ?_
    refine C.region ?_
    refine O.mv ?_
    refine O.len Tryd.underlying35 rfl (((((h13s.keep e4).keep e5).keep e6).keep e7).keep e8) ?_
    refine O.mv ?_
    refine O.nil ?_
    refine hK10 _ _ ?_
    refine C.block fun K11 hK11 => ?_
    refine C.loop0 (σ := Nat × List (BitVec 64)) (fun f0 w0 ⟨j, xs⟩ f wz => f 30 = .int .i64 (j) ∧ f 0 = f0 0 ∧ f 2 = f0 2 ∧ f 3 = f0 3 ∧ f 4 = f0 4 ∧ f 29 = f0 29 ∧ Le w wz ∧ OwnF flF 23 w.heap.size wz v_11 l ∧ OwnF flF 23 w2.heap.size wz v_13 xs ∧ j ≤ l.length ∧ xs.length = l.length) (fun ⟨j, xs⟩ => l.length - j) (0, Fl.sorted l) ?_ ?_
    ·
      refine ⟨rfl, rfl, rfl, rfl, rfl, rfl, (Ext.trans (Ext.trans (Ext.trans (Ext.trans (Ext.trans (Ext.trans e2 e3) e4) e5) e6) e7) e8), ((((((h11.keep e3).keep e4).keep e5).keep e6).keep e7).keep e8), (((((h13.keep e4).keep e5).keep e6).keep e7).keep e8), ?_⟩
      exact ⟨Nat.zero_le _, Fl.sorted_length l⟩
    ·
      rintro ⟨j, xs⟩ f_1 w9 ⟨s30_1, s0_1, s2_1, s3_1, s4_1, s29_1, e_1, r0_1, r1_1, ⟨hj, hxs⟩⟩
      have z_1 := e_1.size
      have r0_1s := r0_1.sl
      have r1_1s := r1_1.sl
      refine C.seqK fun K12 hK12 => ?_
      refine C.region ?_
      refine O.lssI s30_1 s29_1 ?_
      refine O.nil ?_
      refine hK12 _ _ ?_
      refine C.seqK fun K13 hK13 => ?_
      refine C.condD rfl (fun c31 => ?_) (fun c31 => ?_)
      ·
        refine C.skip ?_
        refine hK13 _ _ ?_
        refine C.seqK fun K14 hK14 => ?_
        refine C.block fun K15 hK15 => ?_
        refine C.seqK fun K16 hK16 => ?_
        refine C.region ?_
        refine O.mv ?_
        refine O.asg ?_
        refine O.nil ?_
        refine hK16 _ _ ?_
        refine C.region ?_
        refine O.mv ?_
        refine O.mv ?_
        obtain ⟨g35, cap35, hv35⟩ := OwnF.ptr r1_1 (by omega)
        have ho35 := r1_1
        rw [hv35] at ho35
        refine O.idxO Tryd.underlying35 Tryd.sizeOf23 (Eq.trans s4_1 hv35) s30_1 (by omega) ?_
        refine O.storeF (G := flF) (4621256167635550208#64) Tryd.sizeOf23 rfl (fun _ => rfl) rfl rfl rfl ho35 (by omega) (fun w10 hs10 e10 z10 => ?_)
        rw [← hv35] at hs10
        refine O.nil ?_
        refine hK15 _ _ ?_
        refine hK14 _ _ ?_
        refine C.region ?_
        refine O.addI s30_1 rfl (by unfold InI; omega) ?_
        refine O.mv ?_
        refine O.nil ?_
        refine ⟨(j + 1, _), ⟨rfl, s0_1, s2_1, s3_1, s4_1, s29_1, (Ext.new e_1 e10 (by intro i hi h; have h0 : i = g35 := h; have q1 := ho35.bk_ge g35 rfl; omega)), (r0_1.keepM e10 (by intro k hk h; have h0 : k = g35 := h; have q1 := ho35.bk_ge g35 rfl; have q2 := h11.bk_ge k hk; omega)), hs10, ?_⟩, by first | omega | (simp only []; omega)⟩
        exact ⟨by omega, by rw [List.length_set]; exact hxs⟩
      ·
        refine C.exit ?_
        refine hK11 _ _ ?_
        refine hK9 _ _ ?_
        refine C.seqK fun K17 hK17 => ?_
        refine C.region ?_
        refine O.mv ?_
        refine O.call Tryd.call24 (args1 s3_1) (bits_spec _ _ _ _ r0_1s hn) ?_
        rintro v_38 w11 ⟨e11, h38⟩
        have z11 := e11.size
        have h38s := h38.sl
        refine O.mv ?_
        refine O.call Tryd.call23 (args2 rfl s0_1) (rsame_spec _ _ _ _ _ _ _ h38s ((hl.keep e_1).keep e11)) ?_
        rintro v_40 w12 ⟨rfl, e12⟩
        have z12 := e12.size
        refine O.cast (v' := .bool true) (congrArg Value.bool (by exact decide_eq_true rfl)) ?_
        refine O.mv ?_
        refine O.yes rfl rfl ?_
        refine O.call Tryd.call17 (argsN) (known_spec _ _ _ (((hT.keep e_1).keep e11).keep e12) (((hes.keep e_1).keep e11).keep e12) (((her.keep e_1).keep e11).keep e12) h1 h2) ?_
        rintro v_42 w13 ⟨rfl, e13⟩
        have z13 := e13.size
        refine O.pickT rfl ?_
        refine O.asg ?_
        refine O.nil ?_
        refine hK17 _ _ ?_
        refine C.ret ?_
        refine Outs.one rfl rfl ?_
        exact ⟨rfl, (Ext.trans (Ext.trans (Ext.trans e_1 e11) e12) e13)⟩

set_option maxHeartbeats 4000000 in
theorem floatsOrders_spec (v0 : Value) (l : List (BitVec 64)) (F : Nat → Prop) (turn : BitVec 8) (other : BitVec 64) (es er : Value) (w : World) (hl : Sl u64E w F v0 l) (hT : Row byteE w (fun k => k = 6) 6 0 Hex.bruijn) (hes : CellIs w 3 es) (her : CellIs w 4 er) (h1 : ∃ te pe, es = .iface te pe) (h2 : ∃ te pe, er = .iface te pe) :
    Ret Tryd.prog 7 #[v0, .int .u8 ((turn).toNat : Int), .int .u64 ((other).toNat : Int)] w (fun v w' => v = .bool true ∧ Le w w') := by
  obtain ⟨ie23, hi23, hs23, hb23, hz23⟩ := inf23
  obtain ⟨ie22, hi22, hs22, hb22, hz22⟩ := inf22
  have hle := hl.le
  refine enter (args := [v0, .int .u8 ((turn).toNat : Int), .int .u64 ((other).toNat : Int)]) (n := 73) Tryd.func7 rfl rfl (Nat.le_of_ble_eq_true rfl) ?_
  refine C.seqK fun K1 hK1 => ?_
  refine C.region ?_
  refine O.asg ?_
  refine O.nil ?_
  refine hK1 _ _ ?_
  refine C.seqK fun K2 hK2 => ?_
  refine C.seqK fun K3 hK3 => ?_
  refine C.region ?_
  refine O.mv ?_
  refine O.len Tryd.underlying34 rfl hl ?_
  refine O.lssI rfl rfl ?_
  refine O.mv ?_
  refine O.cut 4 (fun f f' => f' 19 = .bool (decide ((l.length : Int) < 1 ∨ (l.length : Int) > 40)) ∧ f' 0 = f 0 ∧ f' 1 = f 1 ∧ f' 2 = f 2 ∧ f' 6 = f 6) ?_ ?_
  ·
    refine O.splitD (x := .tmp 15) rfl (fun c15 => ?_) (fun c15 => ?_)
    ·
      refine O.no rfl (noB (isT rfl c15) rfl) ?_
      refine O.no rfl (noB (isT rfl c15) rfl) ?_
      refine O.no rfl (noB (isT rfl c15) rfl) ?_
      refine O.pickT (isT rfl c15) ?_
      refine O.nil ?_
      refine ⟨⟨?_, rfl, rfl, rfl, rfl⟩, rfl⟩
      first | exact rfl | exact Eq.trans rfl (congrArg Value.bool (dAnd (by assumption))) | exact Eq.trans rfl (congrArg Value.bool (dAndF (by assumption))) | exact Eq.trans rfl (congrArg Value.bool (dOr (by assumption))) | exact Eq.trans rfl (congrArg Value.bool (dOrT (by assumption)))
    ·
      refine O.yes rfl (isF rfl c15) ?_
      refine O.mv ?_
      refine O.yes rfl (isF rfl c15) ?_
      refine O.len Tryd.underlying34 rfl hl ?_
      refine O.yes rfl (isF rfl c15) ?_
      refine O.gtrI rfl rfl ?_
      refine O.pickF (isF rfl c15) ?_
      refine O.nil ?_
      refine ⟨⟨?_, rfl, rfl, rfl, rfl⟩, rfl⟩
      first | exact rfl | exact Eq.trans rfl (congrArg Value.bool (dAnd (by assumption))) | exact Eq.trans rfl (congrArg Value.bool (dAndF (by assumption))) | exact Eq.trans rfl (congrArg Value.bool (dOr (by assumption))) | exact Eq.trans rfl (congrArg Value.bool (dOrT (by assumption)))
  ·
    rintro f_1 ⟨s19_1, s0_1, s1_1, s2_1, s6_1⟩
    refine O.nil ?_
    refine hK3 _ _ ?_
    refine C.condD s19_1 (fun c19 => ?_) (fun c19 => ?_)
    ·
      refine C.seqK fun K4 hK4 => ?_
      refine C.region ?_
      refine O.call Tryd.call17 (argsN) (known_spec _ _ _ hT hes her h1 h2) ?_
      rintro v_20 w1 ⟨rfl, e1⟩
      have z1 := e1.size
      refine O.asg ?_
      refine O.nil ?_
      refine hK4 _ _ ?_
      refine C.ret ?_
      refine Outs.one rfl rfl ?_
      exact ⟨rfl, e1⟩
    ·
      have hn1 : 1 ≤ l.length ∧ l.length ≤ 40 := by omega
      have hn : l.length ≤ 1000000 := by omega
      refine C.skip ?_
      refine hK2 _ _ ?_
      refine C.seqK fun K5 hK5 => ?_
      refine C.region ?_
      refine O.mv ?_
      refine O.convUI (m := 8) Tryd.underlying5 Tryd.underlying3 s1_1 (by decide) ?_
      refine O.mv ?_
      refine O.len Tryd.underlying34 s0_1 hl ?_
      refine O.remI rfl rfl (by omega) ?_
      obtain ⟨kk, hkk⟩ : ∃ kk : Nat, kk = turn.toNat % l.length := ⟨_, rfl⟩
      have hkl : kk < l.length := by rw [hkk]; exact Nat.mod_lt _ (by omega)
      refine O.cast (v' := .int .i64 (kk : Int)) (by rw [hkk]; rfl) ?_
      refine O.asg ?_
      refine O.nil ?_
      refine hK5 _ _ ?_
      refine C.seqK fun K6 hK6 => ?_
      refine C.region ?_
      refine O.asg ?_
      refine O.nil ?_
      refine hK6 _ _ ?_
      refine C.seqK fun K7 hK7 => ?_
      refine C.seqK fun K8 hK8 => ?_
      refine C.region ?_
      refine O.mv ?_
      refine O.len Tryd.underlying34 s0_1 hl ?_
      refine O.subI rfl rfl (by unfold InI; omega) ?_
      refine O.asg ?_
      refine O.nil ?_
      refine hK8 _ _ ?_
      refine C.block fun K9 hK9 => ?_
      refine C.loop0 (σ := Nat × Value) (fun f0 w0 ⟨k, o⟩ f wz => f 8 = o ∧ f 9 = .int .i64 ((l.length : Int) - 1 - (k : Int)) ∧ f 0 = f0 0 ∧ f 2 = f0 2 ∧ f 6 = f0 6 ∧ f 7 = f0 7 ∧ Le w wz ∧ OwnF u64F 22 w.heap.size wz o (Fl.back other l k) ∧ k ≤ l.length) (fun ⟨k, o⟩ => l.length - k) (0, .slice none 0 0) ?_ ?_
      ·
        refine ⟨rfl, (Eq.trans rfl (i64_eq (by omega))), rfl, rfl, rfl, rfl, (Le.refl _), (OwnF.nil _ _ _ _), ?_⟩
        exact Nat.zero_le _
      ·
        rintro ⟨k, o⟩ f_2 w2 ⟨s8_2, s9_2, s0_2, s2_2, s6_2, s7_2, e_2, r0_2, hk⟩
        have z_2 := e_2.size
        have r0_2s := r0_2.sl
        refine C.seqK fun K10 hK10 => ?_
        refine C.seqK fun K11 hK11 => ?_
        refine C.region ?_
        refine O.mv ?_
        refine O.geqI s9_2 rfl ?_
        refine O.nil ?_
        refine hK11 _ _ ?_
        refine C.condD rfl (fun c30 => ?_) (fun c30 => ?_)
        ·
          have hk2 : k < l.length := by omega
          refine C.skip ?_
          refine hK10 _ _ ?_
          refine C.seqK fun K12 hK12 => ?_
          refine C.block fun K13 hK13 => ?_
          refine C.seqK fun K14 hK14 => ?_
          refine C.region ?_
          refine O.mv ?_
          refine O.mv ?_
          refine O.idx Tryd.underlying34 Tryd.sizeOf22 rfl (Eq.trans s0_2 s0_1) (hl.keep e_2) s9_2 (by omega) (fun a35 h35 => ?_)
          refine O.loadU64 Tryd.isAgg22 rfl h35 ?_
          obtain ⟨x, hx⟩ : ∃ x : BitVec 64, x = l[l.length - 1 - k]'(by omega) := ⟨_, rfl⟩
          have hix : ((l.length : Int) - 1 - (k : Int)).toNat = l.length - 1 - k := by omega
          refine O.cast (v' := .int .u64 (x.toNat : Int)) (by subst hx; simp only [hix]) ?_
          refine O.asg ?_
          refine O.nil ?_
          refine hK14 _ _ ?_
          refine C.seqK fun K15 hK15 => ?_
          refine C.seqK fun K16 hK16 => ?_
          refine C.region ?_
          refine O.mv ?_
          refine O.call Tryd.call9 (args1 rfl) (of_spec _ _) ?_
          rintro v_38 w3 ⟨rfl, hw_⟩
          replace hw_ := hw_.symm
          subst hw_
          refine O.mv ?_
          refine O.call Tryd.call9 (args1 (Eq.trans s2_2 s2_1)) (of_spec _ _) ?_
          rintro v_40 w3 ⟨rfl, hw_⟩
          replace hw_ := hw_.symm
          subst hw_
          refine O.call Tryd.call20 (args2 rfl rfl) (same_spec _ _ _) ?_
          rintro v_41 w3 ⟨rfl, hw_⟩
          replace hw_ := hw_.symm
          subst hw_
          refine O.nil ?_
          refine hK16 _ _ ?_
          refine C.condD rfl (fun c41 => ?_) (fun c41 => ?_)
          ·
            refine C.region ?_
            refine O.mv ?_
            refine O.asg ?_
            refine O.nil ?_
            refine hK15 _ _ ?_
            refine C.region ?_
            refine O.mv ?_
            refine O.mv ?_
            refine O.lit1 Tryd.underlying34 hi22 hs22 hz22 (Eq.trans s2_2 s2_1) rfl (fun b45 w3 hb45 hz45 e3 => ?_)
            have z3 := e3.size
            have h45 := hz45.own
            have hl45 := h45.lt
            have h1045 : Sl u64F.enc w3 (fun k => k = b45) _ [_] := Sl.one h45 rfl rfl
            refine O.appF (G := u64F) Tryd.underlying34 hi22 hz22 hs22 rfl s8_2 rfl (r0_2.keep e3) h1045 (by rw [hb22, Fl.back_length (by omega)]; show (k + 1) * 8 ≤ _; omega) (by rw [Fl.back_length (by omega)]; unfold maxLen; show k + 1 ≤ _; omega) (by omega) (fun v46 w4 h46 e4 => ?_)
            have z4 := e4.size
            have h46s := h46.sl
            refine O.asg ?_
            refine O.nil ?_
            refine hK13 _ _ ?_
            refine hK12 _ _ ?_
            refine C.region ?_
            refine O.mv ?_
            refine O.subI s9_2 rfl (by unfold InI; omega) ?_
            refine O.asg ?_
            refine O.nil ?_
            refine ⟨(k + 1, _), ⟨rfl, (Eq.trans rfl (i64_eq (by omega))), s0_2, s2_2, s6_2, s7_2, (Ext.new (Ext.trans e_2 e3) e4 (by intro i hi h; have := (r0_2.keep e3).bk_ge i h; omega)), (h46.lst (by rw [Fl.back_succ hk2, ← hx]; unfold Fl.swap1; first | rw [if_pos c41] | rw [if_neg c41])), ?_⟩, by first | omega | (simp only []; omega)⟩
            omega
          ·
            refine C.skip ?_
            refine hK15 _ _ ?_
            refine C.region ?_
            refine O.mv ?_
            refine O.mv ?_
            refine O.lit1 Tryd.underlying34 hi22 hs22 hz22 rfl rfl (fun b45 w5 hb45 hz45 e5 => ?_)
            have z5 := e5.size
            have h45 := hz45.own
            have hl45 := h45.lt
            have h1045 : Sl u64F.enc w5 (fun k => k = b45) _ [_] := Sl.one h45 rfl rfl
            refine O.appF (G := u64F) Tryd.underlying34 hi22 hz22 hs22 rfl s8_2 rfl (r0_2.keep e5) h1045 (by rw [hb22, Fl.back_length (by omega)]; show (k + 1) * 8 ≤ _; omega) (by rw [Fl.back_length (by omega)]; unfold maxLen; show k + 1 ≤ _; omega) (by omega) (fun v46 w6 h46 e6 => ?_)
            have z6 := e6.size
            have h46s := h46.sl
            refine O.asg ?_
            refine O.nil ?_
            refine hK13 _ _ ?_
            refine hK12 _ _ ?_
            refine C.region ?_
            refine O.mv ?_
            refine O.subI s9_2 rfl (by unfold InI; omega) ?_
            refine O.asg ?_
            refine O.nil ?_
            refine ⟨(k + 1, _), ⟨rfl, (Eq.trans rfl (i64_eq (by omega))), s0_2, s2_2, s6_2, s7_2, (Ext.new (Ext.trans e_2 e5) e6 (by intro i hi h; have := (r0_2.keep e5).bk_ge i h; omega)), (h46.lst (by rw [Fl.back_succ hk2, ← hx]; unfold Fl.swap1; first | rw [if_pos c41] | rw [if_neg c41])), ?_⟩, by first | omega | (simp only []; omega)⟩
            omega
        ·
          obtain rfl : k = l.length := by omega
          refine C.exit ?_
          refine hK9 _ _ ?_
          refine hK7 _ _ ?_
          refine C.seqK fun K17 hK17 => ?_
          refine C.region ?_
          refine O.mv ?_
          refine O.call Tryd.call21 (args1 (Eq.trans s0_2 s0_1)) (values_spec _ _ _ _ (hl.keep e_2) hn) ?_
          rintro v_48 w7 ⟨e7, h48⟩
          have z7 := e7.size
          have h48s := h48.sl
          refine O.call Tryd.call26 (args1 rfl) (fsum_spec _ _ _ _ h48s hn) ?_
          rintro v_49 w8 ⟨e8, rfl⟩
          have z8 := e8.size
          refine O.ext ext32 (args1 rfl) (run_bitsOf _) ?_
          refine O.asg ?_
          refine O.nil ?_
          refine hK17 _ _ ?_
          refine C.seqK fun K18 hK18 => ?_
          refine C.draw (by kernel_rfl) fun w9 e9 => ?_
          have z9 := e9.size
          refine D.take (i := 0) rfl rfl rfl rfl (by kernel_rfl) (Le.refl _) ⟨pure _, rfl⟩ (fun w_ hw_ N_ hN => (O.mv (O.nil hN))) ?_
          refine D.take (i := 1) rfl rfl rfl rfl (by kernel_rfl) (Le.refl _) ⟨pure _, rfl⟩ (fun w_ hw_ N_ hN => (O.mv (O.nil hN))) ?_
          obtain ⟨v53, hs53, hr53⟩ := Sl.sub (P := Tryd.prog) (kk) (l.length) Tryd.underlying34 Tryd.sizeOf22 rfl ((((hl.keep e_2).keep e7).keep e8).keep e9) (by omega) (Nat.le_refl _)
          refine D.take (i := 2) rfl rfl rfl rfl (by kernel_rfl) (Le.refl _) ⟨_, rfl⟩ (fun w_ hw_ N_ hN => (O.subR (Eq.trans s0_2 s0_1) hr53 (.inr ⟨_, _, rfl, s7_2⟩) (.inl ⟨rfl, rfl⟩) (O.nil hN))) ?_
          refine D.take (i := 4) rfl rfl rfl rfl (by kernel_rfl) (Le.refl _) ⟨pure _, rfl⟩ (fun w_ hw_ N_ hN => (O.mv (O.nil hN))) ?_
          refine D.take (i := 5) rfl rfl rfl rfl (by kernel_rfl) (Le.refl _) ⟨pure _, rfl⟩ (fun w_ hw_ N_ hN => (O.mv (O.nil hN))) ?_
          obtain ⟨v57, hs57, hr57⟩ := Sl.sub (P := Tryd.prog) (0) (kk) Tryd.underlying34 Tryd.sizeOf22 rfl ((((hl.keep e_2).keep e7).keep e8).keep e9) (Nat.zero_le _) (by omega)
          refine D.take (i := 6) rfl rfl rfl rfl (by kernel_rfl) (Le.refl _) ⟨_, rfl⟩ (fun w_ hw_ N_ hN => (O.subR (Eq.trans s0_2 s0_1) hr57 (.inl ⟨rfl, rfl⟩) (.inr ⟨_, _, rfl, s7_2⟩) (O.nil hN))) ?_
          refine D.take (i := 10) rfl rfl rfl rfl (by kernel_rfl) (Le.refl _) ⟨pure _, rfl⟩ (fun w_ hw_ N_ hN => (O.mv (O.nil hN))) ?_
          refine D.one (i := 3) rfl rfl (by kernel_rfl) ?_
          refine O.appF (G := u64F) Tryd.underlying34 hi22 hz22 hs22 rfl rfl rfl (OwnF.nil _ _ _ _) hs53 (by rw [hb22]; simp; omega) (by unfold maxLen; simp; omega) (Nat.le_refl _) (fun v54 w10 h54 e10 => ?_)
          replace e10 : Le w9 w10 := e10.mono (fun _ _ h => h)
          have z10 := e10.size
          have h54s := h54.sl
          refine O.nil ⟨e10, ?_⟩
          refine D.one (i := 7) rfl rfl (by kernel_rfl) ?_
          refine O.appF (G := u64F) Tryd.underlying34 hi22 hz22 hs22 rfl rfl rfl h54 (hs57.keep e10) (by rw [hb22]; simp; omega) (by unfold maxLen; simp; omega) (by omega) (fun v58 w11 h58 e11 => ?_)
          have z11 := e11.size
          have h58s := h58.sl
          refine O.nil ⟨(Ext.new e10 e11 (by intro i hi h; have := h54.bk_ge i h; omega)), ?_⟩
          refine D.one (i := 8) rfl rfl (by kernel_rfl) ?_
          refine O.call Tryd.call21 (args1 rfl) (values_spec _ _ _ _ h58s (by simp; omega)) ?_
          rintro v_59 w12 ⟨e12, h59⟩
          have z12 := e12.size
          refine O.nil ⟨(Ext.trans (Ext.new e10 e11 (by intro i hi h; have := h54.bk_ge i h; omega)) e12), ?_⟩
          have h59s := h59.sl
          refine D.one (i := 9) rfl rfl (by kernel_rfl) ?_
          refine O.call Tryd.call26 (args1 rfl) (fsum_spec _ _ _ _ h59s (by simp; omega)) ?_
          rintro v_60 w13 ⟨e13, rfl⟩
          have z13 := e13.size
          refine O.nil ⟨(Ext.trans (Ext.trans (Ext.new e10 e11 (by intro i hi h; have := h54.bk_ge i h; omega)) e12) e13), ?_⟩
          refine D.one (i := 11) rfl rfl (by kernel_rfl) ?_
          refine O.call Tryd.call12 (args2 rfl rfl) (is_spec _ _ _) ?_
          rintro v_62 w14 ⟨rfl, hw_⟩
          replace hw_ := hw_.symm
          subst hw_
          refine O.nil ⟨(Ext.trans (Ext.trans (Ext.new e10 e11 (by intro i hi h; have := h54.bk_ge i h; omega)) e12) e13), ?_⟩
          refine D.cast (v' := .bool true) (congrArg Value.bool (by exact decide_eq_true (Fl.tot_turn l kk))) ?_
          refine D.take (i := 12) rfl rfl rfl rfl (by kernel_rfl) (Ext.trans (Ext.trans (Ext.new e10 e11 (by intro i hi h; have := h54.bk_ge i h; omega)) e12) e13) ⟨pure _, rfl⟩ (fun w_ hw_ N_ hN => (O.mv (O.nil hN))) ?_
          refine D.takeYes (i := 13) rfl rfl rfl (by kernel_rfl) rfl rfl (Ext.trans (Ext.trans (Ext.new e10 e11 (by intro i hi h; have := h54.bk_ge i h; omega)) e12) e13) ⟨pure _, rfl⟩ (fun w_ hw_ N_ hN => (O.mv (O.nil hN))) ?_
          refine D.takeYes (i := 16) rfl rfl rfl (by kernel_rfl) rfl rfl (Ext.trans (Ext.trans (Ext.new e10 e11 (by intro i hi h; have := h54.bk_ge i h; omega)) e12) e13) ⟨pure _, rfl⟩ (fun w_ hw_ N_ hN => (O.mv (O.nil hN))) ?_
          refine D.oneYes (i := 14) rfl rfl rfl (by kernel_rfl) ?_
          refine O.call Tryd.call21 (args1 s8_2) (values_spec _ _ _ _ (((((((r0_2s.keep e7).keep e8).keep e9).keep e10).keepM e11 (by intro k hk h; have q1 := h54.bk_ge k h; have q2 := r0_2.bk_ge k hk; omega)).keep e12).keep e13) (by rw [Fl.back_length (Nat.le_refl _)]; exact hn)) ?_
          rintro v_65 w14 ⟨e14, h65⟩
          have z14 := e14.size
          refine O.nil ⟨(Ext.trans (Ext.trans (Ext.trans (Ext.new e10 e11 (by intro i hi h; have := h54.bk_ge i h; omega)) e12) e13) e14), ?_⟩
          have h65s := h65.sl
          refine D.oneYes (i := 15) rfl rfl rfl (by kernel_rfl) ?_
          refine O.call Tryd.call26 (args1 rfl) (fsum_spec _ _ _ _ h65s (by rw [Fl.back_length (Nat.le_refl _)]; exact hn)) ?_
          rintro v_66 w15 ⟨e15, rfl⟩
          have z15 := e15.size
          refine O.nil ⟨(Ext.trans (Ext.trans (Ext.trans (Ext.trans (Ext.new e10 e11 (by intro i hi h; have := h54.bk_ge i h; omega)) e12) e13) e14) e15), ?_⟩
          refine D.oneYes (i := 17) rfl rfl rfl (by kernel_rfl) ?_
          refine O.call Tryd.call12 (args2 rfl rfl) (is_spec _ _ _) ?_
          rintro v_68 w16 ⟨rfl, hw_⟩
          replace hw_ := hw_.symm
          subst hw_
          refine O.nil ⟨(Ext.trans (Ext.trans (Ext.trans (Ext.trans (Ext.new e10 e11 (by intro i hi h; have := h54.bk_ge i h; omega)) e12) e13) e14) e15), ?_⟩
          refine D.cast (v' := .bool true) (congrArg Value.bool (by exact decide_eq_true (Fl.tot_back other l))) ?_
          refine D.take (i := 18) rfl rfl rfl rfl (by kernel_rfl) (Ext.trans (Ext.trans (Ext.trans (Ext.trans (Ext.new e10 e11 (by intro i hi h; have := h54.bk_ge i h; omega)) e12) e13) e14) e15) pick_form (fun w_ hw_ N_ hN => (O.pickT rfl (O.nil hN))) ?_
          refine D.take (i := 19) rfl rfl rfl rfl (by kernel_rfl) (Ext.trans (Ext.trans (Ext.trans (Ext.trans (Ext.new e10 e11 (by intro i hi h; have := h54.bk_ge i h; omega)) e12) e13) e14) e15) ⟨pure _, rfl⟩ (fun w_ hw_ N_ hN => (O.mv (O.nil hN))) ?_
          refine D.oneYes (i := 20) rfl rfl rfl (by kernel_rfl) ?_
          refine O.call Tryd.call17 (argsN) (known_spec _ _ _ (hT.keep (Ext.trans (Ext.trans (Ext.trans (Ext.trans (Ext.new (Ext.trans (Ext.trans (Ext.trans (Ext.trans e_2 e7) e8) e9) e10) e11 (by intro i hi h; have := h54.bk_ge i h; omega)) e12) e13) e14) e15)) (hes.keep (Ext.trans (Ext.trans (Ext.trans (Ext.trans (Ext.new (Ext.trans (Ext.trans (Ext.trans (Ext.trans e_2 e7) e8) e9) e10) e11 (by intro i hi h; have := h54.bk_ge i h; omega)) e12) e13) e14) e15)) (her.keep (Ext.trans (Ext.trans (Ext.trans (Ext.trans (Ext.new (Ext.trans (Ext.trans (Ext.trans (Ext.trans e_2 e7) e8) e9) e10) e11 (by intro i hi h; have := h54.bk_ge i h; omega)) e12) e13) e14) e15)) h1 h2) ?_
          rintro v_71 w16 ⟨rfl, e16⟩
          have z16 := e16.size
          refine O.nil ⟨(Ext.trans (Ext.trans (Ext.trans (Ext.trans (Ext.trans (Ext.new e10 e11 (by intro i hi h; have := h54.bk_ge i h; omega)) e12) e13) e14) e15) e16), ?_⟩
          refine D.take (i := 21) rfl rfl rfl rfl (by kernel_rfl) (Ext.trans (Ext.trans (Ext.trans (Ext.trans (Ext.trans (Ext.new e10 e11 (by intro i hi h; have := h54.bk_ge i h; omega)) e12) e13) e14) e15) e16) pick_form (fun w_ hw_ N_ hN => (O.pickT rfl (O.nil hN))) ?_
          refine D.take (i := 22) rfl rfl rfl rfl (by kernel_rfl) (Ext.trans (Ext.trans (Ext.trans (Ext.trans (Ext.trans (Ext.new e10 e11 (by intro i hi h; have := h54.bk_ge i h; omega)) e12) e13) e14) e15) e16) ⟨pure _, rfl⟩ (fun w_ hw_ N_ hN => (O.asg (O.nil hN))) ?_
          refine D.done (by kernel_rfl) ?_
          refine hK18 _ _ ?_
          refine C.ret ?_
          refine Outs.one rfl rfl ?_
          exact ⟨rfl, (Ext.trans (Ext.trans (Ext.trans (Ext.trans (Ext.trans (Ext.new (Ext.trans (Ext.trans (Ext.trans (Ext.trans e_2 e7) e8) e9) e10) e11 (by intro i hi h; have := h54.bk_ge i h; omega)) e12) e13) e14) e15) e16)⟩

set_option maxHeartbeats 4000000 in
theorem floatsHolds_spec (a b : BitVec 64) (v0 : Value) (l : List (BitVec 64)) (F : Nat → Prop) (es er : Value) (w : World) (hl : Sl u64E w F v0 l) (hT : Row byteE w (fun k => k = 6) 6 0 Hex.bruijn) (hes : CellIs w 3 es) (her : CellIs w 4 er) (h1 : ∃ te pe, es = .iface te pe) (h2 : ∃ te pe, er = .iface te pe) :
    Ret Tryd.prog 8 #[.int .u64 ((a).toNat : Int), .int .u64 ((b).toNat : Int), v0] w (fun v w' => v = .bool true ∧ Le w w') := by
  have hle := hl.le
  have hsl := Fl.sorted_length l
  refine enter (args := [.int .u64 ((a).toNat : Int), .int .u64 ((b).toNat : Int), v0]) (n := 152) Tryd.func8 rfl rfl (Nat.le_of_ble_eq_true rfl) ?_
  refine C.seqK fun K1 hK1 => ?_
  refine C.region ?_
  refine O.asg ?_
  refine O.nil ?_
  refine hK1 _ _ ?_
  refine C.seqK fun K2 hK2 => ?_
  refine C.seqK fun K3 hK3 => ?_
  refine C.region ?_
  refine O.mv ?_
  refine O.len Tryd.underlying34 rfl hl ?_
  refine O.gtrI rfl rfl ?_
  refine O.nil ?_
  refine hK3 _ _ ?_
  refine C.condD rfl (fun c15 => ?_) (fun c15 => ?_)
  ·
    refine C.seqK fun K4 hK4 => ?_
    refine C.region ?_
    refine O.call Tryd.call17 (argsN) (known_spec _ _ _ hT hes her h1 h2) ?_
    rintro v_16 w1 ⟨rfl, e1⟩
    have z1 := e1.size
    refine O.asg ?_
    refine O.nil ?_
    refine hK4 _ _ ?_
    refine C.ret ?_
    refine Outs.one rfl rfl ?_
    exact ⟨rfl, e1⟩
  ·
    have hn : l.length ≤ 1000000 := by omega
    refine C.skip ?_
    refine hK2 _ _ ?_
    refine C.seqK fun K5 hK5 => ?_
    refine C.region ?_
    refine O.mv ?_
    refine O.call Tryd.call9 (args1 rfl) (of_spec _ _) ?_
    rintro v_18 w2 ⟨rfl, hw_⟩
    replace hw_ := hw_.symm
    subst hw_
    refine O.mv ?_
    refine O.call Tryd.call9 (args1 rfl) (of_spec _ _) ?_
    rintro v_20 w2 ⟨rfl, hw_⟩
    replace hw_ := hw_.symm
    subst hw_
    refine O.asg ?_
    refine O.asg ?_
    refine O.nil ?_
    refine hK5 _ _ ?_
    refine C.seqK fun K6 hK6 => ?_
    refine C.seqK fun K7 hK7 => ?_
    refine C.region ?_
    refine O.mv ?_
    refine O.call Tryd.call10 (args1 rfl) (key_spec _ _) ?_
    rintro v_22 w2 ⟨rfl, hw_⟩
    replace hw_ := hw_.symm
    subst hw_
    refine O.call Tryd.call13 (args1 rfl) (off_spec _ _) ?_
    rintro v_23 w2 ⟨rfl, hw_⟩
    replace hw_ := hw_.symm
    subst hw_
    refine O.mv ?_
    refine O.call Tryd.call12 (args2 rfl rfl) (is_spec _ _ _) ?_
    rintro v_25 w2 ⟨rfl, hw_⟩
    replace hw_ := hw_.symm
    subst hw_
    refine O.cast (v' := .bool true) (congrArg Value.bool (by exact decide_eq_true (Fl.off_key _))) ?_
    refine O.not rfl ?_
    refine O.cast (v' := .bool false) rfl ?_
    refine O.mv ?_
    refine O.yes rfl rfl ?_
    refine O.mv ?_
    refine O.yes rfl rfl ?_
    refine O.call Tryd.call13 (args1 rfl) (off_spec _ _) ?_
    rintro v_29 w2 ⟨rfl, hw_⟩
    replace hw_ := hw_.symm
    subst hw_
    refine O.yes rfl rfl ?_
    refine O.call Tryd.call10 (args1 rfl) (key_spec _ _) ?_
    rintro v_30 w2 ⟨rfl, hw_⟩
    replace hw_ := hw_.symm
    subst hw_
    refine O.yes rfl rfl ?_
    refine O.mv ?_
    refine O.yes rfl rfl ?_
    refine O.neqU (m := 64) rfl rfl ?_
    refine O.cast (v' := .bool false) (congrArg Value.bool (by exact decide_eq_false (fun h => h (Fl.key_off _)))) ?_
    refine O.pickF rfl ?_
    refine O.mv ?_
    refine O.yes rfl rfl ?_
    refine O.mv ?_
    refine O.yes rfl rfl ?_
    refine O.call Tryd.call28 (args1 rfl) (ftext_spec _ _ hT) ?_
    rintro v_36 w2 ⟨rfl, e2⟩
    have z2 := e2.size
    refine O.yes rfl rfl ?_
    refine O.mv ?_
    refine O.yes rfl rfl ?_
    refine O.call Tryd.call31 (args3 rfl rfl rfl) (parses_ok_spec _ _ _ _ _ (by rw [Flx.text_length]; decide) (hT.keep e2) (hes.keep e2) (her.keep e2) h1 h2 (by rw [Flx.pparse_eq, Flx.rparse_text])) ?_
    rintro v_38 w3 ⟨rfl, e3⟩
    have z3 := e3.size
    refine O.yes rfl rfl ?_
    refine O.not rfl ?_
    refine O.cast (v' := .bool false) rfl ?_
    refine O.pickF rfl ?_
    refine O.nil ?_
    refine hK7 _ _ ?_
    refine C.condF rfl ?_
    refine C.skip ?_
    refine hK6 _ _ ?_
    refine C.seqK fun K8 hK8 => ?_
    refine C.seqK fun K9 hK9 => ?_
    refine C.region ?_
    refine O.mv ?_
    refine O.mv ?_
    refine O.lssF rfl rfl ?_
    refine O.mv ?_
    refine O.cut 5 (fun f f' => f' 49 = .bool false ∧ f' 0 = f 0 ∧ f' 1 = f 1 ∧ f' 2 = f 2 ∧ f' 6 = f 6 ∧ f' 7 = f 7 ∧ f' 8 = f 8) ?_ ?_
    ·
      refine O.splitD (x := .tmp 44) rfl (fun c44 => ?_) (fun c44 => ?_)
      ·
        refine O.yes rfl (isT rfl c44) ?_
        refine O.mv ?_
        refine O.yes rfl (isT rfl c44) ?_
        refine O.mv ?_
        refine O.yes rfl (isT rfl c44) ?_
        refine O.call Tryd.call15 (args2 rfl rfl) (cmp_spec _ _ _) ?_
        rintro v_47 w4 ⟨rfl, hw_⟩
        replace hw_ := hw_.symm
        subst hw_
        refine O.yes rfl (isT rfl c44) ?_
        refine O.neqI rfl rfl ?_
        refine O.cast (v' := .bool false) (congrArg Value.bool (by exact decide_eq_false (fun h => h (Fl.flt_cmp c44)))) ?_
        refine O.pickT (isT rfl c44) ?_
        refine O.nil ?_
        refine ⟨⟨?_, rfl, rfl, rfl, rfl, rfl, rfl⟩, rfl⟩
        first | exact rfl | exact Eq.trans rfl (congrArg Value.bool (dAnd (by assumption))) | exact Eq.trans rfl (congrArg Value.bool (dAndF (by assumption))) | exact Eq.trans rfl (congrArg Value.bool (dOr (by assumption))) | exact Eq.trans rfl (congrArg Value.bool (dOrT (by assumption)))
      ·
        refine O.no rfl (noB (isF rfl c44) rfl) ?_
        refine O.no rfl (noB (isF rfl c44) rfl) ?_
        refine O.no rfl (noB (isF rfl c44) rfl) ?_
        refine O.no rfl (noB (isF rfl c44) rfl) ?_
        refine O.pickF (isF rfl c44) ?_
        refine O.nil ?_
        refine ⟨⟨?_, rfl, rfl, rfl, rfl, rfl, rfl⟩, rfl⟩
        first | exact rfl | exact Eq.trans rfl (congrArg Value.bool (dAnd (by assumption))) | exact Eq.trans rfl (congrArg Value.bool (dAndF (by assumption))) | exact Eq.trans rfl (congrArg Value.bool (dOr (by assumption))) | exact Eq.trans rfl (congrArg Value.bool (dOrT (by assumption)))
    ·
      rintro f_1 ⟨s49_1, s0_1, s1_1, s2_1, s6_1, s7_1, s8_1⟩
      refine O.mv ?_
      refine O.yes rfl s49_1 ?_
      refine O.mv ?_
      refine O.yes rfl s49_1 ?_
      refine O.mv ?_
      refine O.yes rfl s49_1 ?_
      refine O.gtrF s7_1 s8_1 ?_
      refine O.yes rfl s49_1 ?_
      refine O.mv ?_
      refine O.cut 5 (fun f f' => f' 59 = .bool false ∧ f' 0 = f 0 ∧ f' 1 = f 1 ∧ f' 2 = f 2 ∧ f' 6 = f 6 ∧ f' 7 = f 7 ∧ f' 8 = f 8 ∧ f' 50 = f 50) ?_ ?_
      ·
        refine O.splitD (x := .tmp 54) rfl (fun c54 => ?_) (fun c54 => ?_)
        ·
          refine O.yes rfl (isT rfl c54) ?_
          refine O.mv ?_
          refine O.yes rfl (isT rfl c54) ?_
          refine O.mv ?_
          refine O.yes rfl (isT rfl c54) ?_
          refine O.call Tryd.call15 (args2 s7_1 s8_1) (cmp_spec _ _ _) ?_
          rintro v_57 w4 ⟨rfl, hw_⟩
          replace hw_ := hw_.symm
          subst hw_
          refine O.yes rfl (isT rfl c54) ?_
          refine O.neqI rfl rfl ?_
          refine O.cast (v' := .bool false) (congrArg Value.bool (by exact decide_eq_false (fun h => h (Fl.fgt_cmp c54)))) ?_
          refine O.yes rfl s49_1 ?_
          refine O.pickT (isT rfl c54) ?_
          refine O.nil ?_
          refine ⟨⟨?_, rfl, rfl, rfl, rfl, rfl, rfl, rfl⟩, rfl⟩
          first | exact rfl | exact Eq.trans rfl (congrArg Value.bool (dAnd (by assumption))) | exact Eq.trans rfl (congrArg Value.bool (dAndF (by assumption))) | exact Eq.trans rfl (congrArg Value.bool (dOr (by assumption))) | exact Eq.trans rfl (congrArg Value.bool (dOrT (by assumption)))
        ·
          refine O.no rfl (noB (isF rfl c54) rfl) ?_
          refine O.no rfl (noB (isF rfl c54) rfl) ?_
          refine O.no rfl (noB (isF rfl c54) rfl) ?_
          refine O.no rfl (noB (isF rfl c54) rfl) ?_
          refine O.yes rfl s49_1 ?_
          refine O.pickF (isF rfl c54) ?_
          refine O.nil ?_
          refine ⟨⟨?_, rfl, rfl, rfl, rfl, rfl, rfl, rfl⟩, rfl⟩
          first | exact rfl | exact Eq.trans rfl (congrArg Value.bool (dAnd (by assumption))) | exact Eq.trans rfl (congrArg Value.bool (dAndF (by assumption))) | exact Eq.trans rfl (congrArg Value.bool (dOr (by assumption))) | exact Eq.trans rfl (congrArg Value.bool (dOrT (by assumption)))
      ·
        rintro f_2 ⟨s59_2, s0_2, s1_2, s2_2, s6_2, s7_2, s8_2, s50_2⟩
        refine O.pickF (Eq.trans s50_2 s49_1) ?_
        refine O.mv ?_
        refine O.yes rfl s59_2 ?_
        refine O.mv ?_
        refine O.yes rfl s59_2 ?_
        refine O.mv ?_
        refine O.yes rfl s59_2 ?_
        refine O.call Tryd.call15 (args2 (Eq.trans s7_2 s7_1) (Eq.trans s8_2 s8_1)) (cmp_spec _ _ _) ?_
        rintro v_64 w4 ⟨rfl, hw_⟩
        replace hw_ := hw_.symm
        subst hw_
        refine O.yes rfl s59_2 ?_
        refine O.mv ?_
        refine O.yes rfl s59_2 ?_
        refine O.mv ?_
        refine O.yes rfl s59_2 ?_
        refine O.call Tryd.call15 (args2 (Eq.trans s8_2 s8_1) (Eq.trans s7_2 s7_1)) (cmp_spec _ _ _) ?_
        rintro v_67 w4 ⟨rfl, hw_⟩
        replace hw_ := hw_.symm
        subst hw_
        refine O.yes rfl s59_2 ?_
        refine O.negI rfl (Fl.cmp_ini _ _) ?_
        refine O.yes rfl s59_2 ?_
        refine O.neqI rfl rfl ?_
        refine O.cast (v' := .bool false) (congrArg Value.bool (by exact decide_eq_false (fun h => h (Fl.cmp_neg _ _)))) ?_
        refine O.pickF s59_2 ?_
        refine O.mv ?_
        refine O.yes rfl rfl ?_
        refine O.mv ?_
        refine O.yes rfl rfl ?_
        refine O.mv ?_
        refine O.yes rfl rfl ?_
        refine O.call Tryd.call15 (args2 (Eq.trans s7_2 s7_1) (Eq.trans s8_2 s8_1)) (cmp_spec _ _ _) ?_
        rintro v_74 w4 ⟨rfl, hw_⟩
        replace hw_ := hw_.symm
        subst hw_
        refine O.yes rfl rfl ?_
        refine O.eqlI rfl rfl ?_
        refine O.yes rfl rfl ?_
        refine O.mv ?_
        refine O.yes rfl rfl ?_
        refine O.mv ?_
        refine O.yes rfl rfl ?_
        refine O.eqlU (m := 64) (Eq.trans s0_2 s0_1) (Eq.trans s1_2 s1_1) ?_
        refine O.yes rfl rfl ?_
        refine O.neqB Tryd.underlying4 rfl rfl ?_
        refine O.cast (v' := .bool false) (congrArg Value.bool (by exact decide_eq_false (fun h => h (decide_eq_decide.2 (Fl.cmp_zero _ _))))) ?_
        refine O.pickF rfl ?_
        refine O.nil ?_
        refine hK9 _ _ ?_
        refine C.condF rfl ?_
        refine C.skip ?_
        refine hK8 _ _ ?_
        refine C.seqK fun K10 hK10 => ?_
        refine C.region ?_
        refine O.mv ?_
        refine O.call Tryd.call18 (args1 (Eq.trans s7_2 s7_1)) (canon_spec _ _) ?_
        rintro v_82 w4 ⟨rfl, hw_⟩
        replace hw_ := hw_.symm
        subst hw_
        refine O.asg ?_
        refine O.nil ?_
        refine hK10 _ _ ?_
        refine C.seqK fun K11 hK11 => ?_
        refine C.seqK fun K12 hK12 => ?_
        refine C.region ?_
        refine O.mv ?_
        refine O.call Tryd.call18 (args1 rfl) (canon_spec _ _) ?_
        rintro v_84 w4 ⟨rfl, hw_⟩
        replace hw_ := hw_.symm
        subst hw_
        refine O.mv ?_
        refine O.ext ext32 (args1 rfl) (run_bitsOf _) ?_
        refine O.call Tryd.call12 (args2 rfl rfl) (is_spec _ _ _) ?_
        rintro v_87 w4 ⟨rfl, hw_⟩
        replace hw_ := hw_.symm
        subst hw_
        refine O.cast (v' := .bool true) (congrArg Value.bool (by exact decide_eq_true (Fl.canon_canon _))) ?_
        refine O.not rfl ?_
        refine O.cast (v' := .bool false) rfl ?_
        refine O.mv ?_
        refine O.yes rfl rfl ?_
        refine O.mv ?_
        refine O.yes rfl rfl ?_
        refine O.mv ?_
        refine O.yes rfl rfl ?_
        refine O.call Tryd.call20 (args2 (Eq.trans s7_2 s7_1) rfl) (same_spec _ _ _) ?_
        rintro v_92 w4 ⟨rfl, hw_⟩
        replace hw_ := hw_.symm
        subst hw_
        refine O.cast (v' := .bool true) (congrArg Value.bool (by exact decide_eq_true (by rw [Fl.canon_canon]; exact Fl.cmp_self _))) ?_
        refine O.yes rfl rfl ?_
        refine O.not rfl ?_
        refine O.cast (v' := .bool false) rfl ?_
        refine O.pickF rfl ?_
        refine O.mv ?_
        refine O.yes rfl rfl ?_
        refine O.mv ?_
        refine O.yes rfl rfl ?_
        refine O.mv ?_
        refine O.yes rfl rfl ?_
        refine O.eqlF (Eq.trans s7_2 s7_1) (Eq.trans s7_2 s7_1) ?_
        refine O.yes rfl rfl ?_
        refine O.mv ?_
        refine O.cut 4 (fun f f' => f' 103 = .bool false ∧ f' 2 = f 2 ∧ f' 6 = f 6 ∧ f' 7 = f 7 ∧ f' 9 = f 9 ∧ f' 95 = f 95) ?_ ?_
        ·
          refine O.splitD (x := .tmp 99) rfl (fun c99 => ?_) (fun c99 => ?_)
          ·
            refine O.yes rfl (isT rfl c99) ?_
            refine O.mv ?_
            refine O.yes rfl (isT rfl c99) ?_
            refine O.mv ?_
            refine O.yes rfl (isT rfl c99) ?_
            refine O.neqF rfl (Eq.trans s7_2 s7_1) ?_
            refine O.cast (v' := .bool false) (congrArg Value.bool (by exact decide_eq_false (fun h => h (Fl.canon_feq c99)))) ?_
            refine O.yes rfl rfl ?_
            refine O.pickT (isT rfl c99) ?_
            refine O.nil ?_
            refine ⟨⟨?_, rfl, rfl, rfl, rfl, rfl⟩, rfl⟩
            first | exact rfl | exact Eq.trans rfl (congrArg Value.bool (dAnd (by assumption))) | exact Eq.trans rfl (congrArg Value.bool (dAndF (by assumption))) | exact Eq.trans rfl (congrArg Value.bool (dOr (by assumption))) | exact Eq.trans rfl (congrArg Value.bool (dOrT (by assumption)))
          ·
            refine O.no rfl (noB (isF rfl c99) rfl) ?_
            refine O.no rfl (noB (isF rfl c99) rfl) ?_
            refine O.no rfl (noB (isF rfl c99) rfl) ?_
            refine O.yes rfl rfl ?_
            refine O.pickF (isF rfl c99) ?_
            refine O.nil ?_
            refine ⟨⟨?_, rfl, rfl, rfl, rfl, rfl⟩, rfl⟩
            first | exact rfl | exact Eq.trans rfl (congrArg Value.bool (dAnd (by assumption))) | exact Eq.trans rfl (congrArg Value.bool (dAndF (by assumption))) | exact Eq.trans rfl (congrArg Value.bool (dOr (by assumption))) | exact Eq.trans rfl (congrArg Value.bool (dOrT (by assumption)))
        ·
          rintro f_3 ⟨s103_3, s2_3, s6_3, s7_3, s9_3, s95_3⟩
          refine O.pickF s95_3 ?_
          refine O.mv ?_
          refine O.yes rfl s103_3 ?_
          refine O.mv ?_
          refine O.yes rfl s103_3 ?_
          refine O.mv ?_
          refine O.yes rfl s103_3 ?_
          refine O.neqF (Eq.trans s7_3 (Eq.trans s7_2 s7_1)) (Eq.trans s7_3 (Eq.trans s7_2 s7_1)) ?_
          refine O.yes rfl s103_3 ?_
          refine O.mv ?_
          refine O.cut 4 (fun f f' => f' 113 = .bool false ∧ f' 2 = f 2 ∧ f' 6 = f 6 ∧ f' 105 = f 105) ?_ ?_
          ·
            refine O.splitD (x := .tmp 109) rfl (fun c109 => ?_) (fun c109 => ?_)
            ·
              refine O.yes rfl (isT rfl c109) ?_
              refine O.mv ?_
              refine O.yes rfl (isT rfl c109) ?_
              refine O.mv ?_
              refine O.yes rfl (isT rfl c109) ?_
              refine O.eqlF s9_3 s9_3 ?_
              refine O.cast (v' := .bool false) (congrArg Value.bool (by exact decide_eq_false (Fl.canon_nfeq c109))) ?_
              refine O.yes rfl s103_3 ?_
              refine O.pickT (isT rfl c109) ?_
              refine O.nil ?_
              refine ⟨⟨?_, rfl, rfl, rfl⟩, rfl⟩
              first | exact rfl | exact Eq.trans rfl (congrArg Value.bool (dAnd (by assumption))) | exact Eq.trans rfl (congrArg Value.bool (dAndF (by assumption))) | exact Eq.trans rfl (congrArg Value.bool (dOr (by assumption))) | exact Eq.trans rfl (congrArg Value.bool (dOrT (by assumption)))
            ·
              refine O.no rfl (noB (isF rfl c109) rfl) ?_
              refine O.no rfl (noB (isF rfl c109) rfl) ?_
              refine O.no rfl (noB (isF rfl c109) rfl) ?_
              refine O.yes rfl s103_3 ?_
              refine O.pickF (isF rfl c109) ?_
              refine O.nil ?_
              refine ⟨⟨?_, rfl, rfl, rfl⟩, rfl⟩
              first | exact rfl | exact Eq.trans rfl (congrArg Value.bool (dAnd (by assumption))) | exact Eq.trans rfl (congrArg Value.bool (dAndF (by assumption))) | exact Eq.trans rfl (congrArg Value.bool (dOr (by assumption))) | exact Eq.trans rfl (congrArg Value.bool (dOrT (by assumption)))
          ·
            rintro f_4 ⟨s113_4, s2_4, s6_4, s105_4⟩
            refine O.pickF (Eq.trans s105_4 s103_3) ?_
            refine O.nil ?_
            refine hK12 _ _ ?_
            refine C.condF s113_4 ?_
            refine C.skip ?_
            refine hK11 _ _ ?_
            refine C.seqK fun K13 hK13 => ?_
            refine C.region ?_
            refine O.mv ?_
            refine O.call Tryd.call21 (args1 (Eq.trans s2_4 (Eq.trans s2_3 (Eq.trans s2_2 s2_1)))) (values_spec _ _ _ _ ((hl.keep e2).keep e3) hn) ?_
            rintro v_116 w4 ⟨e4, h116⟩
            have z4 := e4.size
            have h116s := h116.sl
            refine O.call Tryd.call22 (args1 rfl) (fsorted_spec _ _ _ _ h116s hn) ?_
            rintro v_117 w5 ⟨e5, h117⟩
            have z5 := e5.size
            have h117s := h117.sl
            refine O.asg ?_
            refine O.nil ?_
            refine hK13 _ _ ?_
            refine C.seqK fun K14 hK14 => ?_
            refine C.seqK fun K15 hK15 => ?_
            refine C.region ?_
            refine O.asg ?_
            refine O.nil ?_
            refine hK15 _ _ ?_
            refine C.block fun K16 hK16 => ?_
            refine C.loop0 (σ := Nat) (fun f0 w0 j f wz => f 11 = .int .i64 ((j : Int) + 1) ∧ f 2 = f0 2 ∧ f 10 = f0 10 ∧ Le w wz ∧ OwnF flF 23 w4.heap.size wz v_117 (Fl.sorted l) ∧ j ≤ l.length) (fun j => l.length - j) 0 ?_ ?_
            ·
              refine ⟨(Eq.trans rfl (i64_eq (by omega))), rfl, rfl, (Ext.trans (Ext.trans (Ext.trans e2 e3) e4) e5), h117, ?_⟩
              exact Nat.zero_le _
            ·
              rintro j f_5 w6 ⟨s11_5, s2_5, s10_5, e_5, r0_5, hj⟩
              have z_5 := e_5.size
              have r0_5s := r0_5.sl
              refine C.seqK fun K17 hK17 => ?_
              refine C.seqK fun K18 hK18 => ?_
              refine C.region ?_
              refine O.mv ?_
              refine O.mv ?_
              refine O.len Tryd.underlying35 s10_5 r0_5s ?_
              refine O.lssI s11_5 rfl ?_
              refine O.nil ?_
              refine hK18 _ _ ?_
              refine C.condD rfl (fun c121 => ?_) (fun c121 => ?_)
              ·
                refine C.skip ?_
                refine hK17 _ _ ?_
                refine C.seqK fun K19 hK19 => ?_
                refine C.block fun K20 hK20 => ?_
                refine C.seqK fun K21 hK21 => ?_
                refine C.draw (by kernel_rfl) fun w7 e7 => ?_
                have z7 := e7.size
                refine D.take (i := 0) rfl rfl rfl rfl (by kernel_rfl) (Le.refl _) ⟨pure _, rfl⟩ (fun w_ hw_ N_ hN => (O.mv (O.nil hN))) ?_
                refine D.take (i := 1) rfl rfl rfl rfl (by kernel_rfl) (Le.refl _) ⟨pure _, rfl⟩ (fun w_ hw_ N_ hN => (O.mv (O.nil hN))) ?_
                refine D.take (i := 2) rfl rfl rfl rfl (by kernel_rfl) (Le.refl _) ⟨_, rfl⟩ (fun w_ hw_ N_ hN => (O.subI s11_5 rfl (by unfold InI; omega) (O.nil hN))) ?_
                obtain ⟨a127, h127, hr127⟩ := Sl.at (i := (j : Int) + 1 - 1) (P := Tryd.prog) Tryd.underlying35 Tryd.sizeOf23 rfl (r0_5s.keep e7) (by omega)
                refine D.take (i := 3) rfl rfl rfl rfl (by kernel_rfl) (Le.refl _) ⟨_, rfl⟩ (fun w_ hw_ N_ hN => (O.idxR s10_5 rfl hr127 (O.nil hN))) ?_
                refine D.take (i := 4) rfl rfl rfl rfl (by kernel_rfl) (Le.refl _) ⟨_, rfl⟩ (fun w_ hw_ N_ hN => (O.loadF Tryd.isAgg23 rfl (h127.keep hw_) (O.nil hN))) ?_
                refine D.take (i := 5) rfl rfl rfl rfl (by kernel_rfl) (Le.refl _) ⟨pure _, rfl⟩ (fun w_ hw_ N_ hN => (O.mv (O.nil hN))) ?_
                refine D.take (i := 6) rfl rfl rfl rfl (by kernel_rfl) (Le.refl _) ⟨pure _, rfl⟩ (fun w_ hw_ N_ hN => (O.mv (O.nil hN))) ?_
                obtain ⟨a131, h131, hr131⟩ := Sl.at (i := (j : Int) + 1) (P := Tryd.prog) Tryd.underlying35 Tryd.sizeOf23 rfl (r0_5s.keep e7) (by omega)
                refine D.take (i := 7) rfl rfl rfl rfl (by kernel_rfl) (Le.refl _) ⟨_, rfl⟩ (fun w_ hw_ N_ hN => (O.idxR s10_5 s11_5 hr131 (O.nil hN))) ?_
                refine D.take (i := 8) rfl rfl rfl rfl (by kernel_rfl) (Le.refl _) ⟨_, rfl⟩ (fun w_ hw_ N_ hN => (O.loadF Tryd.isAgg23 rfl (h131.keep hw_) (O.nil hN))) ?_
                refine D.one (i := 9) rfl rfl (by kernel_rfl) ?_
                refine O.call Tryd.call15 (args2 rfl rfl) (cmp_spec _ _ _) ?_
                rintro v_133 w8 ⟨rfl, hw_⟩
                replace hw_ := hw_.symm
                subst hw_
                refine O.nil ⟨(Le.refl _), ?_⟩
                refine D.take (i := 10) rfl rfl rfl rfl (by kernel_rfl) (Le.refl _) ⟨_, rfl⟩ (fun w_ hw_ N_ hN => (O.gtrI rfl rfl (O.nil hN))) ?_
                refine D.cast (v' := .bool false) (congrArg Value.bool (by exact decide_eq_false (Fl.sorted_step l (by omega) (by omega) (by omega)))) ?_
                refine D.done (by kernel_rfl) ?_
                refine hK21 _ _ ?_
                refine C.condF rfl ?_
                refine C.skip ?_
                refine hK20 _ _ ?_
                refine hK19 _ _ ?_
                refine C.region ?_
                refine O.mv ?_
                refine O.addI s11_5 rfl (by unfold InI; omega) ?_
                refine O.asg ?_
                refine O.nil ?_
                refine ⟨j + 1, ⟨(Eq.trans rfl (i64_eq (by omega))), s2_5, s10_5, (Ext.trans e_5 e7), (r0_5.keep e7), ?_⟩, by first | omega | (simp only []; omega)⟩
                omega
              ·
                refine C.exit ?_
                refine hK16 _ _ ?_
                refine hK14 _ _ ?_
                refine C.seqK fun K22 hK22 => ?_
                refine C.region ?_
                refine O.mv ?_
                refine O.call Tryd.call26 (args1 s10_5) (fsum_spec _ _ _ _ r0_5s (by rw [Fl.sorted_length]; exact hn)) ?_
                rintro v_136 w8 ⟨e8, rfl⟩
                have z8 := e8.size
                refine O.asg ?_
                refine O.nil ?_
                refine hK22 _ _ ?_
                refine C.seqK fun K23 hK23 => ?_
                refine C.region ?_
                refine O.mv ?_
                refine O.len Tryd.underlying35 s10_5 (r0_5s.keep e8) ?_
                refine O.mv ?_
                refine O.len Tryd.underlying34 (Eq.trans s2_5 (Eq.trans s2_4 (Eq.trans s2_3 (Eq.trans s2_2 s2_1)))) ((hl.keep e_5).keep e8) ?_
                refine O.eqlI rfl rfl ?_
                refine O.cast (v' := .bool true) (congrArg Value.bool (by exact decide_eq_true (by rw [Fl.sorted_length]))) ?_
                refine O.mv ?_
                refine O.yes rfl rfl ?_
                refine O.mv ?_
                refine O.yes rfl rfl ?_
                refine O.call Tryd.call18 (args1 rfl) (canon_spec _ _) ?_
                rintro v_144 w9 ⟨rfl, hw_⟩
                replace hw_ := hw_.symm
                subst hw_
                refine O.yes rfl rfl ?_
                refine O.mv ?_
                refine O.yes rfl rfl ?_
                refine O.ext ext32 (args1 rfl) (run_bitsOf _) ?_
                refine O.yes rfl rfl ?_
                refine O.call Tryd.call12 (args2 rfl rfl) (is_spec _ _ _) ?_
                rintro v_147 w9 ⟨rfl, hw_⟩
                replace hw_ := hw_.symm
                subst hw_
                refine O.cast (v' := .bool true) (congrArg Value.bool (by exact decide_eq_true (Fl.canon_tot _))) ?_
                refine O.pickT rfl ?_
                refine O.mv ?_
                refine O.yes rfl rfl ?_
                refine O.call Tryd.call17 (argsN) (known_spec _ _ _ ((hT.keep e_5).keep e8) ((hes.keep e_5).keep e8) ((her.keep e_5).keep e8) h1 h2) ?_
                rintro v_150 w9 ⟨rfl, e9⟩
                have z9 := e9.size
                refine O.pickT rfl ?_
                refine O.asg ?_
                refine O.nil ?_
                refine hK23 _ _ ?_
                refine C.ret ?_
                refine Outs.one rfl rfl ?_
                exact ⟨rfl, (Ext.trans (Ext.trans e_5 e8) e9)⟩

end Go.Proofs.YtbadfphdniliaaaDoor
