/-
 The walks of the reference: order of bytes, small carts, carts compared and copied. Conditions: slices as they lie in memory.
-/
import Derived.Test.YtpbcafkcfobngaaGreatDoorRows
import Derived.Shelf.SlLaysF
import Derived.Shelf.SlLaysF0
import Derived.Ground.SlsfProg
import Derived.Test.YtpbcafkcfobngaaGreatDoorProg
import Derived.Shelf.Strings.Trim
import Derived.Shelf.Small.Bits
import Derived.Shelf.Small.Wraps
import Derived.Shelf.Strings.Search3
import Derived.Shelf.LaysM
import Derived.Shelf.Strings.Shaped
import Derived.Shelf.Strings.Runes
import Derived.Shelf.Slices.CompactS
import Derived.Shelf.SlSortCmp.WholeK
import Derived.Shelf.Small.Utf8
import Derived.Shelf.Small.Strs
import Derived.Ground.Names2Prog
import Derived.Shelf.Spec.SlicesInsert
import Derived.Shelf.Spec.SlicesInsertGrow
import Derived.Test.YtpbcafkcfobngaaGreatDoorCards
import Derived.Test.YtpbcafkcfobngaaGreatDoorTie
import Derived.Test.YtpbcafkcfobngaaGreatDoorOutboxNilM1
section
namespace Go.Proofs.YtpbcafkcfobngaaGreatDoor
open Go.Pn Go.RowKit Go.Proofs _root_.Go.Proofs.Tryz
attribute [local irreducible] O C D
theorem small_spec (va1 va2 va3 : Value) (a : Cn.Cart) (F : Nat → Prop) (w : World) (hav : Sl Dt.dotF.enc w F va1 a.1.1) (hac : Sl Dt.dotF.enc w F va2 a.1.2) (hai : Sl itemE w F va3 a.2) :
 Ret prog 38 #[.agg #[va1, va2, va3]] w (fun v w' => v = .bool (Cn.small a) ∧ Le w w') := by
 have hle := hai.le
 have hle1 := hav.le
 have hle2 := hac.le
 refine enT [.agg #[va1, va2, va3]] 51 func38 rfl rfl (C.sr fun K1 => O.box (v := .agg #[va1, va2, va3]) rfl (fun b1 w1 hb1 hz1 e1 => ?_))
 have z1 := e1.size
 have h1 := hz1.own
 have hl1 := h1.lt
 refine O.asg (K1 (C.sq fun K2 => C.sr fun K3 => O.asg (K3 (C.bl fun K4 => C.loop0 (σ := Nat) (fun f0 w0 k f w => f 3 = .int .i64 (k) ∧ f 1 = f0 1 ∧ Le w0 w ∧ k ≤ a.2.length ∧ ∀ i, ∀ h : i < a.2.length, i < k → Cn.smallI a.2[i] = true) (fun k => a.2.length - k) 0 ?_ ?_))))
 ·
  refine ⟨rfl, rfl, Le.refl _, ?_⟩
  exact ⟨Nat.zero_le _, fun i h k => absurd k (Nat.not_lt_zero _)⟩
 rintro k f_1 w2 ⟨s3_1, s1_1, e_1, ⟨hk, hI⟩⟩
 have z_1 := e_1.size
 refine C.sq fun K5 => C.sr fun K6 => O.mv (O.fa U47 rfl Z45 s1_1 (O.loadO isAgg45 rfl (h1.keep e_1) rfl ?_))
 have t0 := (hai.keep e1).keep e_1
 refine O.len U45 rfl t0 (O.lssI s3_1 rfl (O.mv (O.cut 3 (fun f f' => f' 12 = .bool (decide ((k : Int) < (a.2.length : Int) ∧ (k : Int) < 21)) ∧ f' 1 = f 1 ∧ f' 3 = f 3) ?_ ?_)))
 ·
  refine O.splitD (x := .tmp 9) rfl (fun c9 => ?_) (fun c9 => ?_)
  ·
   refine O.yes rfl (isT rfl c9) (O.mv (O.yes rfl (isT rfl c9) (O.lssI s3_1 rfl (O.pickT (isT rfl c9) (O.nil (⟨⟨?_, rfl, rfl⟩, rfl⟩))))))
   exact dJ rfl
  refine O.no rfl (noB (isF rfl c9) rfl) (O.no rfl (noB (isF rfl c9) rfl) (O.pickF (isF rfl c9) (O.nil (⟨⟨?_, rfl, rfl⟩, rfl⟩))))
  exact dJ rfl
 rintro f_2 ⟨s12_2, s1_2, s3_2⟩
 refine K6 (C.condD s12_2 (fun c12 => ?_) (fun c12 => ?_))
 ·
  have hk2 : k < a.2.length := by omega
  refine C.skip (K5 (C.sq fun K7 => C.bl fun K8 => C.sr fun K9 => O.fa U47 rfl Z45 (Eq.trans s1_2 s1_1) (O.loadO isAgg45 rfl (h1.keep e_1) rfl (O.mv (O.idx U45 Z117 rfl rfl t0 (Eq.trans s3_2 s3_1) (by omega) (fun a18 h18 => O.ft U117 rfl Z115 rfl (O.loadMarks isAgg115 rfl h18 (fun vm20 hm20 => O.len U115 rfl hm20 (O.gtrI rfl rfl (O.mv (O.splitD (x := .tmp 23) rfl (fun c23 => ?_) (fun c23 => ?_))))))))))))
  ·
   simp only [Int.toNat_natCast] at c23
   refine O.no rfl (noB (isT rfl c23) rfl) (O.no rfl (noB (isT rfl c23) rfl) (O.no rfl (noB (isT rfl c23) rfl) (O.no rfl (noB (isT rfl c23) rfl) (O.no rfl (noB (isT rfl c23) rfl) (O.no rfl (noB (isT rfl c23) rfl) (O.no rfl (noB (isT rfl c23) rfl) (O.no rfl (noB (isT rfl c23) rfl) (O.pickT (isT rfl c23) (K9 (C.condT rfl (C.sr fun K10 => O.asg (K10 (C.ret (Outs.one rfl rfl ?_))))))))))))))
   (refine ⟨congrArg Value.bool ?_, (Ext.trans e1 e_1)⟩
    have q : a.2.all Cn.smallI = false := Cn.all_no hk2 (Cn.smallI_no (by omega))
    unfold Cn.small
    rw [q, Bool.and_false])
  simp only [Int.toNat_natCast] at c23
  refine O.yes rfl (isF rfl c23) (O.fa U47 rfl Z45 (Eq.trans s1_2 s1_1) (O.yes rfl (isF rfl c23) (O.loadO isAgg45 rfl (h1.keep e_1) rfl (O.yes rfl (isF rfl c23) (O.mv (O.yes rfl (isF rfl c23) (O.idx U45 Z117 rfl rfl t0 (Eq.trans s3_2 s3_1) (by omega) (fun a27 h27 => O.yes rfl (isF rfl c23) (O.ft U117 rfl Z9 rfl (O.yes rfl (isF rfl c23) (O.loadName isAgg9 rfl h27 (O.yes rfl (isF rfl c23) (O.lenS U9 rfl (O.yes rfl (isF rfl c23) (O.gtrI rfl rfl (O.pickF (isF rfl c23) (K9 (C.condD rfl (fun c32 => ?_) (fun c32 => ?_)))))))))))))))))))
  ·
   simp only [Int.toNat_natCast] at c32
   refine C.sr fun K11 => O.asg (K11 (C.ret (Outs.one rfl rfl ?_)))
   (refine ⟨congrArg Value.bool ?_, (Ext.trans e1 e_1)⟩
    have q : a.2.all Cn.smallI = false := Cn.all_no hk2 (Cn.smallI_no (by omega))
    unfold Cn.small
    rw [q, Bool.and_false])
  simp only [Int.toNat_natCast] at c32
  refine C.skip (K8 (K7 (C.region (O.mv (O.addI (Eq.trans s3_2 s3_1) rfl (by unfold InI; omega) (O.asg (O.nil (⟨k + 1, ⟨rfl, (Eq.trans s1_2 s1_1), e_1, ?_⟩, by first | omega | (simp only []; omega)⟩))))))))
  refine ⟨by omega, fun i hi hik => ?_⟩
  rcases Nat.lt_or_eq_of_le (Nat.le_of_lt_succ hik) with h | rfl
  ·exact hI i hi h
  ·exact Cn.smallI_yes (by omega) (by omega)
 refine C.exit (K4 (K2 (C.sr fun K12 => O.fa U47 rfl Z44 (Eq.trans s1_2 s1_1) (O.fa U44 rfl Z42 rfl (O.loadO isAgg42 rfl (h1.keep e_1) rfl (O.len U42 rfl ((hav.keep e1).keep e_1) (O.leqI rfl rfl (O.mv (O.cut 6 (fun f f' => f' 44 = .bool (decide ((a.1.1.length : Int) ≤ 40 ∧ (a.1.2.length : Int) ≤ 40)) ∧ f' 1 = f 1) ?_ ?_)))))))))
 ·
  refine O.splitD (x := .tmp 38) rfl (fun c38 => ?_) (fun c38 => ?_)
  ·
   refine O.yes rfl (isT rfl c38) (O.fa U47 rfl Z44 (Eq.trans s1_2 s1_1) (O.yes rfl (isT rfl c38) (O.fa U44 rfl Z41 rfl (O.yes rfl (isT rfl c38) (O.loadO isAgg41 rfl (h1.keep e_1) rfl (O.yes rfl (isT rfl c38) (O.len U41 rfl ((hac.keep e1).keep e_1) (O.yes rfl (isT rfl c38) (O.leqI rfl rfl (O.pickT (isT rfl c38) (O.nil (⟨⟨?_, rfl⟩, rfl⟩))))))))))))
   exact dJ rfl
  refine O.no rfl (noB (isF rfl c38) rfl) (O.no rfl (noB (isF rfl c38) rfl) (O.no rfl (noB (isF rfl c38) rfl) (O.no rfl (noB (isF rfl c38) rfl) (O.no rfl (noB (isF rfl c38) rfl) (O.pickF (isF rfl c38) (O.nil (⟨⟨?_, rfl⟩, rfl⟩)))))))
  exact dJ rfl
 rintro f_3 ⟨s44_3, s1_3⟩
 refine O.mv (O.cut 5 (fun f f' => f' 50 = .bool (decide (((a.1.1.length : Int) ≤ 40 ∧ (a.1.2.length : Int) ≤ 40) ∧ (a.2.length : Int) ≤ 20))) ?_ ?_)
 ·
  refine O.splitD (x := .tmp 45) s44_3 (fun c45 => ?_) (fun c45 => ?_)
  ·
   refine O.yes rfl (isT s44_3 c45) (O.fa U47 rfl Z45 (Eq.trans s1_3 (Eq.trans s1_2 s1_1)) (O.yes rfl (isT s44_3 c45) (O.loadO isAgg45 rfl (h1.keep e_1) rfl (O.yes rfl (isT s44_3 c45) (O.len U45 rfl t0 (O.yes rfl (isT s44_3 c45) (O.leqI rfl rfl (O.pickT (isT s44_3 c45) (O.nil (⟨?_, rfl⟩))))))))))
   exact dJ rfl
  refine O.no rfl (noB (isF s44_3 c45) rfl) (O.no rfl (noB (isF s44_3 c45) rfl) (O.no rfl (noB (isF s44_3 c45) rfl) (O.no rfl (noB (isF s44_3 c45) rfl) (O.pickF (isF s44_3 c45) (O.nil (⟨?_, rfl⟩))))))
  exact dJ rfl
 intro f_4 s50_4
 refine O.asg (K12 (C.ret (Outs.one rfl s50_4 ?_)))
 first
 | (refine ⟨congrArg Value.bool ?_, (Ext.trans e1 e_1)⟩
    have q : a.2.all Cn.smallI = false := Cn.all_no hk2 (Cn.smallI_no (by omega))
    unfold Cn.small
    rw [q, Bool.and_false])
 | (refine ⟨congrArg Value.bool ?_, (Ext.trans e1 e_1)⟩
    exact Cn.small_of (fun h i hi => hI i hi (by omega)))
theorem inf68 : ∃ ie, prog.info? 68 = some ie ∧ ie.size = 1 ∧ ie.bytes = 8 ∧ ie.zero = some (.pointer none) := by
 have h : (prog.info? 68).isSome = true := by kernel_rfl
 exact ⟨(prog.info? 68).get h, (Option.some_get h).symm, by kernel_rfl, by kernel_rfl, by kernel_rfl⟩
theorem noneN_spec (w : World) :
 Ret prog 87 #[.pointer none] w (fun v w' => v = .bool true ∧ w' = w) := by
 refine enT [.pointer none] 12 func87 rfl rfl (C.sr fun K1 => O.asg (K1 (C.sr fun K2 => O.mv (O.eqlN U68 rfl (O.mv (O.no rfl (noB rfl rfl) (O.no rfl (noB rfl rfl) (O.no rfl (noB rfl rfl) (O.no rfl (noB rfl rfl) (O.no rfl (noB rfl rfl) (O.pickT rfl (O.asg (K2 (C.ret (Outs.one rfl rfl ?_)))))))))))))))
 exact ⟨rfl, rfl⟩
theorem noneZ_spec (b : Nat) (w : World) (ho : Own w b 71 [.int .i64 0, .slice none 0 0, .slice none 0 0]) :
 Ret prog 87 #[.pointer (some ⟨b, 0, none⟩)] w (fun v w' => v = .bool true ∧ w' = w) := by
 refine enT [.pointer (some ⟨b, 0, none⟩)] 12 func87 rfl rfl (C.sr fun K1 => O.asg (K1 (C.sr fun K2 => O.mv (O.eqlP0 U68 rfl (O.mv (O.yes rfl rfl (O.mv (O.yes rfl rfl (O.nilChk rfl (O.yes rfl rfl (O.fa U71 rfl Z3 rfl (O.yes rfl rfl (O.loadO isAgg3 rfl ho rfl (O.yes rfl rfl (O.eqlI rfl rfl (O.cast (v' := .bool true) (congrArg Value.bool (by exact decide_eq_true rfl)) (O.pickF rfl (O.asg (K2 (C.ret (Outs.one rfl rfl ?_)))))))))))))))))))))
 exact ⟨rfl, rfl⟩
theorem none0_spec (v0 : Value) (w : World) (hno : NO 71 w v0) : Ret prog 87 #[v0] w (fun v w' => v = .bool true ∧ w' = w) := by
 rcases hno with rfl | ⟨b, rfl, ho⟩
 ·exact noneN_spec w
 ·exact noneZ_spec b w ho
theorem oPut0_spec (v0 : Value) (k : List UInt8) (va1 va2 va3 : Value) (w : World) (hno : NO 71 w v0) :
 Ret prog 40 #[v0, str (k), .agg #[va1, va2, va3]] w (fun v w' => v = .int .i64 1 ∧ Le w w') := by
 refine enT [v0, str (k), .agg #[va1, va2, va3]] 86 func40 rfl rfl (C.sr fun K1 => O.box (v := .agg #[va1, va2, va3]) rfl (fun b5 w1 hb5 hz5 e1 => ?_))
 have z1 := e1.size
 have hl5 := hz5.own.lt
 refine O.asg (K1 (C.sq fun K2 => C.sr fun K3 => O.mv (O.call call87 (args1 rfl) (none0_spec v0 _ (hno.keep e1)) ?_)))
 rintro v_14 w2 ⟨rfl, hw_⟩
 replace hw_ := hw_.symm
 subst hw_
 refine K3 (C.condT rfl (C.sr fun K4 => O.asg (K4 (C.ret (Outs.one rfl rfl ?_)))))
 exact ⟨rfl, e1⟩
theorem oDeltas0_spec (v0 : Value) (w : World) (hno : NO 71 w v0) :
 Ret prog 42 #[v0] w (fun v w' => v = .slice none 0 0 ∧ w' = w) := by
 refine enT [v0] 29 func42 rfl rfl (C.sr fun K1 => O.asg (K1 (C.sq fun K2 => C.sr fun K3 => O.mv (O.call call87 (args1 rfl) (none0_spec v0 _ hno) ?_))))
 rintro v_6 w1 ⟨rfl, hw_⟩
 replace hw_ := hw_.symm
 subst hw_
 refine K3 (C.condT rfl (C.sr fun K4 => O.asg (K4 (C.ret (Outs.one rfl rfl ?_)))))
 exact ⟨rfl, rfl⟩
theorem oDirty0_spec (v0 : Value) (w : World) (hno : NO 71 w v0) :
 Ret prog 43 #[v0] w (fun v w' => v = .slice none 0 0 ∧ w' = w) := by
 refine enT [v0] 10 func43 rfl rfl (C.sr fun K1 => O.asg (K1 (C.sq fun K2 => C.sr fun K3 => O.mv (O.call call87 (args1 rfl) (none0_spec v0 _ hno) ?_))))
 rintro v_4 w1 ⟨rfl, hw_⟩
 replace hw_ := hw_.symm
 subst hw_
 refine K3 (C.condT rfl (C.sr fun K4 => O.asg (K4 (C.ret (Outs.one rfl rfl ?_)))))
 exact ⟨rfl, rfl⟩
theorem oCopy0_spec (v0 : Value) (w : World) (hno : NO 71 w v0) :
 Ret prog 44 #[v0] w (fun v w' => v = .pointer none ∧ w' = w) := by
 refine enT [v0] 15 func44 rfl rfl (C.sr fun K1 => O.asg (K1 (C.sq fun K2 => C.sr fun K3 => O.mv (O.call call87 (args1 rfl) (none0_spec v0 _ hno) ?_))))
 rintro v_4 w1 ⟨rfl, hw_⟩
 replace hw_ := hw_.symm
 subst hw_
 refine K3 (C.condT rfl (C.sr fun K4 => O.asg (K4 (C.ret (Outs.one rfl rfl ?_)))))
 exact ⟨rfl, rfl⟩
theorem oDrain0_spec (v0 : Value) (w : World) (hno : NO 71 w v0) :
 Ret prog 47 #[v0, .slice none 0 0] w (fun v w' => v = .tuple #[.slice none 0 0, .int .i64 1] ∧ w' = w) := by
 refine enT [v0, .slice none 0 0] 78 func47 rfl rfl (C.sr fun K1 => O.asg (O.asg (K1 (C.sq fun K2 => C.sr fun K3 => O.mv (O.call call87 (args1 rfl) (none0_spec v0 _ hno) ?_)))))
 rintro v_17 w1 ⟨rfl, hw_⟩
 replace hw_ := hw_.symm
 subst hw_
 refine K3 (C.condT rfl (C.sr fun K4 => O.asg (O.asg (K4 (C.ret (Outs.two rfl rfl rfl ?_))))))
 exact ⟨rfl, rfl⟩
theorem sends0_spec (v0 : Value) (w : World) (hno : NO 71 w v0) :
 Ret prog 41 #[v0, .slice none 0 0, .slice none 0 0, .int .i64 (1)] w (fun v w' => v = .bool true ∧ Le w w') := by
 refine enT [v0, .slice none 0 0, .slice none 0 0, .int .i64 (1)] 48 func41 rfl rfl (C.sr fun K1 => O.asg (K1 (C.sr fun K2 => O.mv (O.mv (O.call call47 (args2 rfl rfl) (oDrain0_spec v0 _ hno) ?_)))))
 rintro v_18 w1 ⟨rfl, hw_⟩
 replace hw_ := hw_.symm
 subst hw_
 have hn18 : Sl (sliE byteE) w (fun _ => False) (.slice none 0 0) [] := Sl.nil _ _ _
 refine O.mv (O.extract rfl rfl (O.extract rfl rfl (O.asg (O.asg (K2 (C.sr fun K3 => O.asg (K3 (C.sq fun K4 => C.sr fun K5 => O.asg (K5 (C.bl fun K6 => C.loop0 (σ := Nat) (fun f0 w0 k f w => f 11 = .slice none 0 0 ∧ f 12 = .int .i64 ((k : Int)) ∧ f 2 = f0 2 ∧ f 3 = f0 3 ∧ f 9 = f0 9 ∧ f 10 = f0 10 ∧ Le w0 w ∧ k = 0) (fun k => 0) 0 ?_ ?_))))))))))
 ·
  refine ⟨rfl, rfl, rfl, rfl, rfl, rfl, Le.refl _, ?_⟩
  rfl
 rintro k f_1 w1 ⟨s11_1, s12_1, s2_1, s3_1, s9_1, s10_1, e_1, hk⟩
 have z_1 := e_1.size
 refine C.sq fun K7 => C.sr fun K8 => O.mv (O.mv (O.len U38 s9_1 (hn18.keep e_1) (O.lssI s12_1 rfl (K8 (C.condD rfl (fun c24 => ?_) (fun c24 => ?_))))))
 ·
  exact absurd c24 (by show ¬ (_ : Int) < ((0 : Nat) : Int); omega)
 refine C.exit (K6 (K4 (C.sr fun K9 => O.mv (O.mv (O.call call21 (args2 s11_1 s2_1) (sameL_spec (.slice none 0 0) [] [] (fun _ => False) (.slice none 0 0) [] [] (fun _ => False) _ (Sl.nil _ _ _) EntL.nil (Sl.nil _ _ _) EntL.nil (fun _ h => h.elim) (fun _ h => h.elim)) ?_)))))
 rintro v_42 w2 ⟨rfl, e2⟩
 have z2 := e2.size
 refine O.cast (v' := .bool true) (congrArg Value.bool (by exact decide_eq_true rfl)) (O.mv (O.yes rfl rfl (O.mv (O.yes rfl rfl (O.mv (O.yes rfl rfl (O.eqlI s10_1 s3_1 (O.cast (v' := .bool true) (congrArg Value.bool (by exact decide_eq_true rfl)) (O.pickT rfl (O.asg (K9 (C.ret (Outs.one rfl rfl ?_)))))))))))))
 exact ⟨rfl, (Ext.trans e_1 e2)⟩
set_option maxHeartbeats 2000000 in
theorem outboxNil_spec (k : List UInt8) (va1 va2 va3 : Value) (a : Cn.Cart) (F : Nat → Prop) (w : World) (hav : Sl Dt.dotF.enc w F va1 a.1.1) (hac : Sl Dt.dotF.enc w F va2 a.1.2) (hai : Sl itemE w F va3 a.2) (mx : Mx w) :
 Ret prog 10 #[str (k), .agg #[va1, va2, va3]] w (fun v w' => v = .bool true ∧ Le w w') := by
 have hgl := mx.lt
 obtain ⟨ie68, ti68, ts68, tb68, tz68⟩ := inf68
 refine enT [str (k), .agg #[va1, va2, va3]] 53 func10 rfl rfl (C.sr fun K1 => O.box (v := .agg #[va1, va2, va3]) rfl (fun b3 w1 hb3 hz3 e1 => ?_))
 have z1 := e1.size
 have h3 := hz3.own
 have hl3 := h3.lt
 refine O.asg (K1 (C.sq fun K2 => C.sr fun K3 => O.mv (O.lenS U9 rfl (O.gtrI rfl rfl (O.mv (O.splitD (x := .tmp 10) rfl (fun c10 => ?_) (fun c10 => ?_)))))))
 ·
  refine O.no rfl (noB (isT rfl c10) rfl) (O.no rfl (noB (isT rfl c10) rfl) (O.no rfl (noB (isT rfl c10) rfl) (O.pickT (isT rfl c10) (K3 (C.condT rfl (C.sr fun K4 => O.call call39 (argsN) (oknown_spec _ (mx.keep e1)) ?_))))))
  rintro v_15 w2 ⟨rfl, e2⟩
  have z2 := e2.size
  refine O.asg (K4 (C.ret (Outs.one rfl rfl ?_)))
  exact ⟨rfl, (Ext.trans e1 e2)⟩
 refine O.yes rfl (isF rfl c10) (O.loadOA isAgg47 Z47 rfl h3 (leB rfl) (O.yes rfl (isF rfl c10) (O.call call38 (args1 rfl) (small_spec va1 va2 va3 a F _ (hav.keep e1) (hac.keep e1) (hai.keep e1)) ?_)))
 rintro v_12 w3 ⟨rfl, e3⟩
 have z3 := e3.size
 refine O.yes rfl (isF rfl c10) (O.not rfl (O.pickF (isF rfl c10) (K3 (C.cond rfl (fun c14 => ?_) (fun c14 => ?_)))))
 ·
  refine C.sr fun K5 => O.call call39 (argsN) (oknown_spec _ ((mx.keep e1).keep e3)) ?_
  rintro v_15 w4 ⟨rfl, e4⟩
  have z4 := e4.size
  refine O.asg (K5 (C.ret (Outs.one rfl rfl ?_)))
  exact ⟨rfl, (Ext.trans (Ext.trans e1 e3) e4)⟩
 refine C.skip (K2 (C.sq fun K6 => C.sr fun K7 => O.build (cells := #[.int .i64 0, .slice none 0 0, .slice none 0 0]) rfl (by kernel_rfl) (O.box rfl (fun b17 w5 hb17 hz17 e5 => ?_))))
 have z5 := e5.size
 have h17 := hz17.own
 have hl17 := h17.lt
 replace h17 : Own w5 b17 71 [.int .i64 0, .slice none 0 0, .slice none 0 0] := h17
 refine O.litn [.pointer none, .pointer (some ⟨b17, 0, none⟩)] underlying72 ti68 ts68 tz68 rfl (by decide) (by decide) rfl (by simp [Value.oneCell']) (fun b18 w6 hb18 hz18 e6 => ?_)
 have z6 := e6.size
 have h18 := hz18.own
 have hl18 := h18.lt
 have hq18 : Sl ptrF.enc w6 (fun j => j = b18) (.slice (some ⟨b18, 0, none⟩) 2 2) [none, some ⟨b17, 0, none⟩] := Sl.litG (G := ptrF) (n := 2) h18 rfl (by unfold maxLen; omega)
 refine O.len underlying72 rfl hq18 (O.mv (K7 (C.bl fun K8 => C.loop0 (σ := Nat) (fun f0 w0 i f w => f 20 = .int .i64 ((i : Int)) ∧ f 0 = f0 0 ∧ f 3 = f0 3 ∧ f 18 = f0 18 ∧ f 19 = f0 19 ∧ Le w0 w ∧ i ≤ 2) (fun i => 2 - i) 0 ?_ ?_)))
 ·
  refine ⟨rfl, rfl, rfl, rfl, rfl, Le.refl _, ?_⟩
  exact Nat.zero_le _
 rintro i f_1 w7 ⟨s20_1, s0_1, s3_1, s18_1, s19_1, e_1, hi⟩
 have z_1 := e_1.size
 refine C.sr fun K9 => O.lssI s20_1 s19_1 (K9 (C.sq fun K10 => C.condD rfl (fun c21 => ?_) (fun c21 => ?_)))
 ·
  have hi2 : i < 2 := by have h : (i : Int) < ((2 : Nat) : Int) := c21; omega
  refine C.skip (K10 (C.sq fun K11 => C.bl fun K12 => C.sr fun K13 => O.idx underlying72 sizeOf68 rfl s18_1 (hq18.keep e_1) s20_1 (by omega) (fun a22 h22 => O.load1F (G := ptrF) isAgg68 rfl rfl rfl h22 ?_)))
  have sp1_ : ∃ p : Option Addr, p = [none, some (⟨b17, 0, none⟩ : Addr)][i]'hi2 := ⟨_, rfl⟩
  obtain ⟨po, hpo⟩ := sp1_
  refine O.cast (v' := .pointer po) (by rw [hpo]; rfl) ?_
  have hno9 : NO 71 w7 (.pointer po) := by
   rw [hpo]
   rcases (show i = 0 ∨ i = 1 by omega) with h | h
   ·subst h; exact .inl rfl
   ·subst h; exact .inr ⟨b17, rfl, ((h17.keep e6).keep e_1)⟩
  refine O.asg (K13 (C.sr fun K14 => O.mv (O.mv (O.loadOA isAgg47 Z47 s3_1 ((((h3.keep e3).keep e5).keep e6).keep e_1) (leB rfl) (O.call call40 (args3 rfl s0_1 rfl) (oPut0_spec (.pointer po) k va1 va2 va3 _ hno9) ?_)))))
  rintro v_27 w8 ⟨rfl, e8⟩
  have z8 := e8.size
  refine O.neqI rfl rfl (O.cast (v' := .bool false) (congrArg Value.bool (by exact decide_eq_false (fun h => h rfl))) (O.mv (O.yes rfl rfl (O.mv (O.yes rfl rfl (O.call call41 (args4 rfl rfl rfl rfl) (sends0_spec (.pointer po) _ (hno9.keep e8)) ?_))))))
  rintro v_31 w9 ⟨rfl, e9⟩
  have z9 := e9.size
  refine O.yes rfl rfl (O.not rfl (O.cast (v' := .bool false) rfl (O.pickF rfl (O.mv (O.yes rfl rfl (O.mv (O.yes rfl rfl ?_)))))))
  have t0 := (hno9.keep e8).keep e9
  refine O.call call42 (args1 rfl) (oDeltas0_spec (.pointer po) _ t0) ?_
  rintro v_36 w10 ⟨rfl, hw_⟩
  replace hw_ := hw_.symm
  subst hw_
  have hn36 : Sl entF.enc w9 (fun _ => False) (.slice none 0 0) [] := Sl.nil _ _ _
  refine O.yes rfl rfl (O.len U22 rfl hn36 (O.yes rfl rfl (O.neqI rfl rfl (O.cast (v' := .bool false) (congrArg Value.bool (by exact decide_eq_false (fun h => h rfl))) (O.pickF rfl (O.mv (O.yes rfl rfl (O.mv (O.yes rfl rfl (O.call call43 (args1 rfl) (oDirty0_spec (.pointer po) _ t0) ?_))))))))))
  rintro v_42 w10 ⟨rfl, hw_⟩
  replace hw_ := hw_.symm
  subst hw_
  have hn42 : Sl strF.enc w9 (fun _ => False) (.slice none 0 0) [] := Sl.nil _ _ _
  refine O.yes rfl rfl (O.len U69 rfl hn42 (O.yes rfl rfl (O.neqI rfl rfl (O.cast (v' := .bool false) (congrArg Value.bool (by exact decide_eq_false (fun h => h rfl))) (O.pickF rfl (O.mv (O.yes rfl rfl (O.mv (O.yes rfl rfl (O.call call44 (args1 rfl) (oCopy0_spec (.pointer po) _ t0) ?_))))))))))
  rintro v_48 w10 ⟨rfl, hw_⟩
  replace hw_ := hw_.symm
  subst hw_
  refine O.yes rfl rfl (O.neqN U68 rfl (O.pickF rfl (K14 (C.condF rfl (C.skip (K12 (K11 (C.region (O.addI s20_1 rfl (by unfold InI; omega) (O.mv (O.nil (⟨(i + 1), ⟨rfl, s0_1, s3_1, s18_1, s19_1, (Ext.trans (Ext.trans e_1 e8) e9), ?_⟩, by first | omega | (simp only []; omega)⟩))))))))))))
  omega
 refine C.exit (K8 (K6 (C.sr fun K15 => O.call call39 (argsN) (oknown_spec _ (((((mx.keep e1).keep e3).keep e5).keep e6).keep e_1)) ?_)))
 rintro v_52 w10 ⟨rfl, e10⟩
 have z10 := e10.size
 refine O.asg (K15 (C.ret (Outs.one rfl rfl ?_)))
 exact ⟨rfl, (Ext.trans (Ext.trans (Ext.trans (Ext.trans (Ext.trans e1 e3) e5) e6) e_1) e10)⟩
end Go.Proofs.YtpbcafkcfobngaaGreatDoor
end
section
namespace Go.Proofs.YtpbcafkcfobngaaGreatDoor
open Go.Pn Go.ChangeShapes Go.WideShapes Go.ChangeAt Go.RowKit
set_option maxRecDepth 100000 in
theorem cart_of {W : World} {H : Type} {enc : TypeId × Value → H} {base : Nat} {v : Value} {d : DataW H} {p : List MemPlace} (hval : Value.okWide Tryz.prog W .any base 47 v) (h : DataW.Trod enc Tryz.prog W 0 (fun _ => true) true 47 v d p) :
 ∃ (v1 v2 v3 : Value) (a : Cn.Cart), v = .agg #[v1, v2, v3] ∧ Sl Dt.dotF.enc W (fun k => k < W.heap.size) v1 a.1.1 ∧ Sl Dt.dotF.enc W (fun k => k < W.heap.size) v2 a.1.2 ∧ Sl itemE W (fun k => k < W.heap.size) v3 a.2 := by
 obtain ⟨cs, rfl, _⟩ := okWide_struct Tryz.underlying47 hval
 obtain ⟨x, h1, _⟩ := (opensCart W).arg h
 obtain ⟨a, b, hab, ⟨c, e, rfl, ⟨v1, rfl, h2⟩, v2, rfl, h3⟩, v3, rfl, h4⟩ := h1
 refine ⟨v1, v2, v3, x, ?_, h2, h3, h4⟩
 have h5 : cs.toList = [v1, v2, v3] := hab
 rw [← h5]
end Go.Proofs.YtpbcafkcfobngaaGreatDoor
end
