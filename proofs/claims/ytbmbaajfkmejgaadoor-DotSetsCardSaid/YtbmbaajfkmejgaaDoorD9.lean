/-
  The walks of dots: the laws. Conditions: the library's table and its errors lie in memory.
-/
import Derived.Test.YtbmbaajfkmejgaaDoorD8
namespace Go.Proofs.YtbmbaajfkmejgaaDoor
open Go.Pn Go.RowKit Go.Proofs

set_option maxHeartbeats 1000000 in
theorem dotOrders_spec (a b : Dt.Dot) (es er : Value) (w : World) (htb : Tb w) (hes : CellIs w 1 es) (her : CellIs w 2 er) (g1 : ∃ te pe, es = .iface te pe) (g2 : ∃ te pe, er = .iface te pe) :
    Ret Tryd.prog 3 #[Dt.dv (a), Dt.dv (b)] w (fun v w' => v = .bool true ∧ Le w w') := by
  refine enter (args := [Dt.dv (a), Dt.dv (b)]) (n := 31) Tryd.func3 rfl rfl (Nat.le_of_ble_eq_true rfl) ?_
  refine C.seqK fun K1 hK1 => ?_
  refine C.region ?_
  refine O.box (v := Dt.dv (a)) rfl (fun b2 w1 hb2 hz2 e1 => ?_)
  have z1 := e1.size
  have h2 := hz2.own
  have hl2 := h2.lt
  refine O.box (v := Dt.dv (b)) rfl (fun b3 w2 hb3 hz3 e2 => ?_)
  have z2 := e2.size
  have h3 := hz3.own
  have hl3 := h3.lt
  refine O.asg ?_
  refine O.nil ?_
  refine hK1 _ _ ?_
  refine C.seqK fun K2 hK2 => ?_
  refine C.join (fun f w f' w' => Le w w' ∧ f' 4 = .bool true) ?_ ?_
  ·
    refine C.draw (by kernel_rfl) fun w3 e3 => ?_
    have z3 := e3.size
    refine D.take (i := 0) rfl rfl rfl rfl (by kernel_rfl) (Le.refl _) ⟨_, rfl⟩ (fun w_ hw_ N_ hN => (O.loadOA Tryd.isAgg23 Tryd.sizeOf23 rfl (((h2.keep e2).keep e3).keep hw_) (Nat.le_of_ble_eq_true rfl) (O.nil hN))) ?_
    refine D.take (i := 2) rfl rfl rfl rfl (by kernel_rfl) (Le.refl _) ⟨_, rfl⟩ (fun w_ hw_ N_ hN => (O.loadOA Tryd.isAgg23 Tryd.sizeOf23 rfl (((h2.keep e2).keep e3).keep hw_) (Nat.le_of_ble_eq_true rfl) (O.nil hN))) ?_
    refine D.one (i := 1) rfl rfl (by kernel_rfl) ?_
    refine O.call Tryd.call6 (args1 rfl) (valid_spec a _) ?_
    rintro v_6 w4 ⟨rfl, e4⟩
    have z4 := e4.size
    refine O.nil ⟨e4, ?_⟩
    refine D.one (i := 3) rfl rfl (by kernel_rfl) ?_
    refine O.call Tryd.call7 (args1 rfl) (rvalid_spec a _) ?_
    rintro v_8 w5 ⟨rfl, e5⟩
    have z5 := e5.size
    refine O.nil ⟨(Ext.trans e4 e5), ?_⟩
    refine D.take (i := 4) rfl rfl rfl rfl (by kernel_rfl) (Ext.trans e4 e5) ⟨_, rfl⟩ (fun w_ hw_ N_ hN => (O.eqlB Tryd.underlying4 rfl rfl (O.nil hN))) ?_
    refine D.cast (v' := .bool true) (congrArg Value.bool (by exact decide_eq_true rfl)) ?_
    refine D.take (i := 5) rfl rfl rfl rfl (by kernel_rfl) (Ext.trans e4 e5) ⟨pure _, rfl⟩ (fun w_ hw_ N_ hN => (O.mv (O.nil hN))) ?_
    refine D.takeYes (i := 6) rfl rfl rfl (by kernel_rfl) rfl rfl (Ext.trans e4 e5) ⟨_, rfl⟩ (fun w_ hw_ N_ hN => (O.loadOA Tryd.isAgg23 Tryd.sizeOf23 rfl (((h2.keep e2).keep e3).keep hw_) (Nat.le_of_ble_eq_true rfl) (O.nil hN))) ?_
    refine D.takeYes (i := 7) rfl rfl rfl (by kernel_rfl) rfl rfl (Ext.trans e4 e5) ⟨_, rfl⟩ (fun w_ hw_ N_ hN => (O.loadOA Tryd.isAgg23 Tryd.sizeOf23 rfl ((h3.keep e3).keep hw_) (Nat.le_of_ble_eq_true rfl) (O.nil hN))) ?_
    refine D.takeYes (i := 9) rfl rfl rfl (by kernel_rfl) rfl rfl (Ext.trans e4 e5) ⟨_, rfl⟩ (fun w_ hw_ N_ hN => (O.loadOA Tryd.isAgg23 Tryd.sizeOf23 rfl (((h2.keep e2).keep e3).keep hw_) (Nat.le_of_ble_eq_true rfl) (O.nil hN))) ?_
    refine D.takeYes (i := 10) rfl rfl rfl (by kernel_rfl) rfl rfl (Ext.trans e4 e5) ⟨_, rfl⟩ (fun w_ hw_ N_ hN => (O.loadOA Tryd.isAgg23 Tryd.sizeOf23 rfl ((h3.keep e3).keep hw_) (Nat.le_of_ble_eq_true rfl) (O.nil hN))) ?_
    refine D.oneYes (i := 8) rfl rfl rfl (by kernel_rfl) ?_
    refine O.call Tryd.call8 (args2 rfl rfl) (cmp_spec a b _) ?_
    rintro v_13 w6 ⟨rfl, e6, _⟩
    have z6 := e6.size
    refine O.nil ⟨(Ext.trans (Ext.trans e4 e5) e6), ?_⟩
    refine D.oneYes (i := 11) rfl rfl rfl (by kernel_rfl) ?_
    refine O.call Tryd.call9 (args2 rfl rfl) (rcmp_spec a b _) ?_
    rintro v_16 w7 ⟨rfl, e7⟩
    have z7 := e7.size
    refine O.nil ⟨(Ext.trans (Ext.trans (Ext.trans e4 e5) e6) e7), ?_⟩
    refine D.takeYes (i := 12) rfl rfl rfl (by kernel_rfl) rfl rfl (Ext.trans (Ext.trans (Ext.trans e4 e5) e6) e7) ⟨_, rfl⟩ (fun w_ hw_ N_ hN => (O.eqlI rfl rfl (O.nil hN))) ?_
    refine D.cast (v' := .bool true) (congrArg Value.bool (by exact decide_eq_true rfl)) ?_
    refine D.take (i := 13) rfl rfl rfl rfl (by kernel_rfl) (Ext.trans (Ext.trans (Ext.trans e4 e5) e6) e7) pick_form (fun w_ hw_ N_ hN => (O.pickT rfl (O.nil hN))) ?_
    refine D.take (i := 14) rfl rfl rfl rfl (by kernel_rfl) (Ext.trans (Ext.trans (Ext.trans e4 e5) e6) e7) ⟨pure _, rfl⟩ (fun w_ hw_ N_ hN => (O.mv (O.nil hN))) ?_
    refine D.takeYes (i := 15) rfl rfl rfl (by kernel_rfl) rfl rfl (Ext.trans (Ext.trans (Ext.trans e4 e5) e6) e7) ⟨_, rfl⟩ (fun w_ hw_ N_ hN => (O.loadOA Tryd.isAgg23 Tryd.sizeOf23 rfl ((h3.keep e3).keep hw_) (Nat.le_of_ble_eq_true rfl) (O.nil hN))) ?_
    refine D.takeYes (i := 16) rfl rfl rfl (by kernel_rfl) rfl rfl (Ext.trans (Ext.trans (Ext.trans e4 e5) e6) e7) ⟨_, rfl⟩ (fun w_ hw_ N_ hN => (O.loadOA Tryd.isAgg23 Tryd.sizeOf23 rfl (((h2.keep e2).keep e3).keep hw_) (Nat.le_of_ble_eq_true rfl) (O.nil hN))) ?_
    refine D.takeYes (i := 18) rfl rfl rfl (by kernel_rfl) rfl rfl (Ext.trans (Ext.trans (Ext.trans e4 e5) e6) e7) ⟨_, rfl⟩ (fun w_ hw_ N_ hN => (O.loadOA Tryd.isAgg23 Tryd.sizeOf23 rfl ((h3.keep e3).keep hw_) (Nat.le_of_ble_eq_true rfl) (O.nil hN))) ?_
    refine D.takeYes (i := 19) rfl rfl rfl (by kernel_rfl) rfl rfl (Ext.trans (Ext.trans (Ext.trans e4 e5) e6) e7) ⟨_, rfl⟩ (fun w_ hw_ N_ hN => (O.loadOA Tryd.isAgg23 Tryd.sizeOf23 rfl (((h2.keep e2).keep e3).keep hw_) (Nat.le_of_ble_eq_true rfl) (O.nil hN))) ?_
    refine D.oneYes (i := 17) rfl rfl rfl (by kernel_rfl) ?_
    refine O.call Tryd.call8 (args2 rfl rfl) (cmp_spec b a _) ?_
    rintro v_22 w8 ⟨rfl, e8, _⟩
    have z8 := e8.size
    refine O.nil ⟨(Ext.trans (Ext.trans (Ext.trans (Ext.trans e4 e5) e6) e7) e8), ?_⟩
    refine D.oneYes (i := 20) rfl rfl rfl (by kernel_rfl) ?_
    refine O.call Tryd.call9 (args2 rfl rfl) (rcmp_spec b a _) ?_
    rintro v_25 w9 ⟨rfl, e9⟩
    have z9 := e9.size
    refine O.nil ⟨(Ext.trans (Ext.trans (Ext.trans (Ext.trans (Ext.trans e4 e5) e6) e7) e8) e9), ?_⟩
    refine D.takeYes (i := 21) rfl rfl rfl (by kernel_rfl) rfl rfl (Ext.trans (Ext.trans (Ext.trans (Ext.trans (Ext.trans e4 e5) e6) e7) e8) e9) ⟨_, rfl⟩ (fun w_ hw_ N_ hN => (O.eqlI rfl rfl (O.nil hN))) ?_
    refine D.cast (v' := .bool true) (congrArg Value.bool (by exact decide_eq_true rfl)) ?_
    refine D.take (i := 22) rfl rfl rfl rfl (by kernel_rfl) (Ext.trans (Ext.trans (Ext.trans (Ext.trans (Ext.trans e4 e5) e6) e7) e8) e9) pick_form (fun w_ hw_ N_ hN => (O.pickT rfl (O.nil hN))) ?_
    refine D.take (i := 23) rfl rfl rfl rfl (by kernel_rfl) (Ext.trans (Ext.trans (Ext.trans (Ext.trans (Ext.trans e4 e5) e6) e7) e8) e9) ⟨pure _, rfl⟩ (fun w_ hw_ N_ hN => (O.mv (O.nil hN))) ?_
    refine D.oneYes (i := 24) rfl rfl rfl (by kernel_rfl) ?_
    refine O.call Tryd.call10 (argsN) (known_spec es er _ (((((((((htb.keep e1).keep e2).keep e3).keep e4).keep e5).keep e6).keep e7).keep e8).keep e9) (((((((((hes.keep e1).keep e2).keep e3).keep e4).keep e5).keep e6).keep e7).keep e8).keep e9) (((((((((her.keep e1).keep e2).keep e3).keep e4).keep e5).keep e6).keep e7).keep e8).keep e9) g1 g2) ?_
    rintro v_29 w10 ⟨rfl, e10⟩
    have z10 := e10.size
    refine O.nil ⟨(Ext.trans (Ext.trans (Ext.trans (Ext.trans (Ext.trans (Ext.trans e4 e5) e6) e7) e8) e9) e10), ?_⟩
    refine D.take (i := 25) rfl rfl rfl rfl (by kernel_rfl) (Ext.trans (Ext.trans (Ext.trans (Ext.trans (Ext.trans (Ext.trans e4 e5) e6) e7) e8) e9) e10) pick_form (fun w_ hw_ N_ hN => (O.pickT rfl (O.nil hN))) ?_
    refine D.take (i := 26) rfl rfl rfl rfl (by kernel_rfl) (Ext.trans (Ext.trans (Ext.trans (Ext.trans (Ext.trans (Ext.trans e4 e5) e6) e7) e8) e9) e10) ⟨pure _, rfl⟩ (fun w_ hw_ N_ hN => (O.asg (O.nil hN))) ?_
    refine D.done (by kernel_rfl) ?_
    exact ⟨(Ext.trans (Ext.trans (Ext.trans (Ext.trans (Ext.trans (Ext.trans (Ext.trans e3 e4) e5) e6) e7) e8) e9) e10), rfl⟩
  ·
    rintro f_1 w11 ⟨e_1, s4_1⟩
    have z_1 := e_1.size
    refine hK2 _ _ ?_
    refine C.ret ?_
    refine Outs.one rfl s4_1 ?_
    exact ⟨rfl, (Ext.trans (Ext.trans e1 e2) e_1)⟩


theorem rparse_ok (s : List UInt8) (d : Dt.Dot) (w : World) (hl : s.length ≤ maxLen) (hp : Dt.rparse s = some d) : Ret Tryd.prog 13 #[str s] w (fun v w' => v = .tuple #[Dt.dv d, .bool true] ∧ Le w w') :=
  (rparse_spec s w hl).mono fun _ _ h => ⟨h.1.trans (congrArg Dt.gotB hp), h.2⟩
theorem rparse_no (s : List UInt8) (w : World) (hl : s.length ≤ maxLen) (hp : Dt.rparse s = none) : Ret Tryd.prog 13 #[str s] w (fun v w' => v = .tuple #[Dt.dv (0, 0), .bool false] ∧ Le w w') :=
  (rparse_spec s w hl).mono fun _ _ h => ⟨h.1.trans (congrArg Dt.gotB hp), h.2⟩

set_option maxHeartbeats 1000000 in
theorem dotTexts_some_spec (d : Dt.Dot) (s : List UInt8) (x : Dt.Dot) (es er : Value) (w : World) (hq : s.length ≤ 60 → Dt.rparse s = some x) (htb : Tb w) (hes : CellIs w 1 es) (her : CellIs w 2 er) (g1 : ∃ te pe, es = .iface te pe) (g2 : ∃ te pe, er = .iface te pe) :
    Ret Tryd.prog 4 #[Dt.dv (d), str (s)] w (fun v w' => v = .bool true ∧ Le w w') := by
  refine enter (args := [Dt.dv (d), str (s)]) (n := 41) Tryd.func4 rfl rfl (Nat.le_of_ble_eq_true rfl) ?_
  refine C.seqK fun K1 hK1 => ?_
  refine C.region ?_
  refine O.box (v := Dt.dv (d)) rfl (fun b2 w1 hb2 hz2 e1 => ?_)
  have z1 := e1.size
  have h2 := hz2.own
  have hl2 := h2.lt
  refine O.asg ?_
  refine O.nil ?_
  refine hK1 _ _ ?_
  refine C.seqK fun K2 hK2 => ?_
  refine C.seqK fun K3 hK3 => ?_
  refine C.region ?_
  refine O.mv ?_
  refine O.lenS Tryd.underlying9 rfl ?_
  refine O.gtrI rfl rfl ?_
  refine O.nil ?_
  refine hK3 _ _ ?_
  refine C.condD rfl (fun c9 => ?_) (fun c9 => ?_)
  ·
    refine C.seqK fun K4 hK4 => ?_
    refine C.region ?_
    refine O.call Tryd.call10 (argsN) (known_spec es er _ (htb.keep e1) (hes.keep e1) (her.keep e1) g1 g2) ?_
    rintro v_10 w2 ⟨rfl, e2⟩
    have z2 := e2.size
    refine O.asg ?_
    refine O.nil ?_
    refine hK4 _ _ ?_
    refine C.ret ?_
    refine Outs.one rfl rfl ?_
    exact ⟨rfl, (Ext.trans e1 e2)⟩
  ·
    refine C.skip ?_
    refine hK2 _ _ ?_
    refine C.seqK fun K5 hK5 => ?_
    refine C.seqK fun K6 hK6 => ?_
    refine C.region ?_
    refine O.loadOA Tryd.isAgg23 Tryd.sizeOf23 rfl h2 (Nat.le_of_ble_eq_true rfl) ?_
    refine O.call Tryd.call7 (args1 rfl) (rvalid_spec d _) ?_
    rintro v_12 w3 ⟨rfl, e3⟩
    have z3 := e3.size
    refine O.not rfl ?_
    refine O.nil ?_
    refine hK6 _ _ ?_
    refine C.cond rfl (fun c13 => ?_) (fun c13 => ?_)
    ·
      have hv : ¬ Dt.Valid d := by simpa using c13
      refine C.seqK fun K7 hK7 => ?_
      refine C.region ?_
      refine O.loadOA Tryd.isAgg23 Tryd.sizeOf23 rfl (h2.keep e3) (Nat.le_of_ble_eq_true rfl) ?_
      refine O.call Tryd.call11 (args3 rfl rfl rfl) (texts_no_spec d _ hv ((htb.keep e1).keep e3)) ?_
      rintro v_15 w4 ⟨rfl, e4⟩
      have z4 := e4.size
      refine O.not rfl ?_
      refine O.cast (v' := .bool false) rfl ?_
      refine O.nil ?_
      refine hK7 _ _ ?_
      refine C.condF rfl ?_
      refine C.skip ?_
      refine hK5 _ _ ?_
      refine C.seqK fun K8 hK8 => ?_
      refine C.region ?_
      refine O.mv ?_
      refine O.call Tryd.call13 (args1 rfl) (rparse_ok s x _ (by unfold maxLen; omega) (hq (by omega))) ?_
      rintro v_24 w5 ⟨rfl, e5⟩
      have z5 := e5.size
      refine O.mv ?_
      refine O.extract rfl rfl ?_
      refine O.extract rfl rfl ?_
      refine O.alloc Tryd.zeroValue23 (fun b5 w6 hb5 hz5 e6 => ?_)
      have z6 := e6.size
      have h5 := hz5.own
      have hl5 := h5.lt
      refine O.storeA (vs := [.int .i64 (x.1), .int .i64 (x.2)]) Tryd.sizeOf23 rfl rfl rfl (by simp [Value.oneCell']) h5 (Nat.le_of_ble_eq_true rfl) (fun w7 hs7 e7 z7 => ?_)
      refine O.asg ?_
      refine O.nil ?_
      refine hK8 _ _ ?_
      refine C.seqK fun K9 hK9 => ?_
      refine C.seqK fun K10 hK10 => ?_
      refine C.region ?_
      refine O.mv ?_
      refine O.not rfl ?_
      refine O.cast (v' := .bool false) rfl ?_
      refine O.nil ?_
      refine hK10 _ _ ?_
      refine C.condF rfl ?_
      refine C.skip ?_
      refine hK9 _ _ ?_
      refine C.seqK fun K11 hK11 => ?_
      refine C.region ?_
      refine O.mv ?_
      refine O.loadOA Tryd.isAgg23 Tryd.sizeOf23 rfl hs7 (Nat.le_of_ble_eq_true rfl) ?_
      refine O.call Tryd.call14 (args3 rfl rfl rfl) (parses_ok_spec s x es er _ (by omega) ((Dt.parse_eq s).trans (hq (by omega))) (htb.keep (Ext.new (Ext.trans (Ext.trans (Ext.trans (Ext.trans e1 e3) e4) e5) e6) e7 (by rintro i hi rfl; omega))) (hes.keep (Ext.new (Ext.trans (Ext.trans (Ext.trans (Ext.trans e1 e3) e4) e5) e6) e7 (by rintro i hi rfl; omega))) (her.keep (Ext.new (Ext.trans (Ext.trans (Ext.trans (Ext.trans e1 e3) e4) e5) e6) e7 (by rintro i hi rfl; omega))) g1 g2) ?_
      rintro v_37 w8 ⟨rfl, e8⟩
      have z8 := e8.size
      refine O.mv ?_
      refine O.yes rfl rfl ?_
      refine O.call Tryd.call10 (argsN) (known_spec es er _ (htb.keep (Ext.trans (Ext.new (Ext.trans (Ext.trans (Ext.trans (Ext.trans e1 e3) e4) e5) e6) e7 (by rintro i hi rfl; omega)) e8)) (hes.keep (Ext.trans (Ext.new (Ext.trans (Ext.trans (Ext.trans (Ext.trans e1 e3) e4) e5) e6) e7 (by rintro i hi rfl; omega)) e8)) (her.keep (Ext.trans (Ext.new (Ext.trans (Ext.trans (Ext.trans (Ext.trans e1 e3) e4) e5) e6) e7 (by rintro i hi rfl; omega)) e8)) g1 g2) ?_
      rintro v_39 w9 ⟨rfl, e9⟩
      have z9 := e9.size
      refine O.pickT rfl ?_
      refine O.asg ?_
      refine O.nil ?_
      refine hK11 _ _ ?_
      refine C.ret ?_
      refine Outs.one rfl rfl ?_
      exact ⟨rfl, (Ext.trans (Ext.trans (Ext.new (Ext.trans (Ext.trans (Ext.trans (Ext.trans e1 e3) e4) e5) e6) e7 (by rintro i hi rfl; omega)) e8) e9)⟩
    ·
      have hv : Dt.Valid d := by simpa using c13
      refine C.seqK fun K12 hK12 => ?_
      refine C.draw (by kernel_rfl) fun w10 e10 => ?_
      have z10 := e10.size
      refine D.take (i := 0) rfl rfl rfl rfl (by kernel_rfl) (Le.refl _) ⟨_, rfl⟩ (fun w_ hw_ N_ hN => (O.loadOA Tryd.isAgg23 Tryd.sizeOf23 rfl (((h2.keep e3).keep e10).keep hw_) (Nat.le_of_ble_eq_true rfl) (O.nil hN))) ?_
      refine D.take (i := 1) rfl rfl rfl rfl (by kernel_rfl) (Le.refl _) ⟨_, rfl⟩ (fun w_ hw_ N_ hN => (O.loadOA Tryd.isAgg23 Tryd.sizeOf23 rfl (((h2.keep e3).keep e10).keep hw_) (Nat.le_of_ble_eq_true rfl) (O.nil hN))) ?_
      refine D.one (i := 2) rfl rfl (by kernel_rfl) ?_
      refine O.call Tryd.call12 (args1 rfl) (rtext_spec d _ hv) ?_
      rintro v_19 w11 ⟨rfl, e11⟩
      have z11 := e11.size
      refine O.nil ⟨e11, ?_⟩
      refine D.one (i := 3) rfl rfl (by kernel_rfl) ?_
      refine O.call Tryd.call11 (args3 rfl rfl rfl) (texts_ok_spec d _ hv ((((htb.keep e1).keep e3).keep e10).keep e11)) ?_
      rintro v_20 w12 ⟨rfl, e12⟩
      have z12 := e12.size
      refine O.nil ⟨(Ext.trans e11 e12), ?_⟩
      refine D.take (i := 4) rfl rfl rfl rfl (by kernel_rfl) (Ext.trans e11 e12) ⟨_, rfl⟩ (fun w_ hw_ N_ hN => (O.not rfl (O.cast (v' := .bool false) rfl (O.nil hN)))) ?_
      refine D.done (by kernel_rfl) ?_
      refine hK12 _ _ ?_
      refine C.condF rfl ?_
      refine C.skip ?_
      refine hK5 _ _ ?_
      refine C.seqK fun K13 hK13 => ?_
      refine C.region ?_
      refine O.mv ?_
      refine O.call Tryd.call13 (args1 rfl) (rparse_ok s x _ (by unfold maxLen; omega) (hq (by omega))) ?_
      rintro v_24 w13 ⟨rfl, e13⟩
      have z13 := e13.size
      refine O.mv ?_
      refine O.extract rfl rfl ?_
      refine O.extract rfl rfl ?_
      refine O.alloc Tryd.zeroValue23 (fun b5 w14 hb5 hz5 e14 => ?_)
      have z14 := e14.size
      have h5 := hz5.own
      have hl5 := h5.lt
      refine O.storeA (vs := [.int .i64 (x.1), .int .i64 (x.2)]) Tryd.sizeOf23 rfl rfl rfl (by simp [Value.oneCell']) h5 (Nat.le_of_ble_eq_true rfl) (fun w15 hs15 e15 z15 => ?_)
      refine O.asg ?_
      refine O.nil ?_
      refine hK13 _ _ ?_
      refine C.seqK fun K14 hK14 => ?_
      refine C.seqK fun K15 hK15 => ?_
      refine C.region ?_
      refine O.mv ?_
      refine O.not rfl ?_
      refine O.cast (v' := .bool false) rfl ?_
      refine O.nil ?_
      refine hK15 _ _ ?_
      refine C.condF rfl ?_
      refine C.skip ?_
      refine hK14 _ _ ?_
      refine C.seqK fun K16 hK16 => ?_
      refine C.region ?_
      refine O.mv ?_
      refine O.loadOA Tryd.isAgg23 Tryd.sizeOf23 rfl hs15 (Nat.le_of_ble_eq_true rfl) ?_
      refine O.call Tryd.call14 (args3 rfl rfl rfl) (parses_ok_spec s x es er _ (by omega) ((Dt.parse_eq s).trans (hq (by omega))) (htb.keep (Ext.new (Ext.trans (Ext.trans (Ext.trans (Ext.trans (Ext.trans (Ext.trans e1 e3) e10) e11) e12) e13) e14) e15 (by rintro i hi rfl; omega))) (hes.keep (Ext.new (Ext.trans (Ext.trans (Ext.trans (Ext.trans (Ext.trans (Ext.trans e1 e3) e10) e11) e12) e13) e14) e15 (by rintro i hi rfl; omega))) (her.keep (Ext.new (Ext.trans (Ext.trans (Ext.trans (Ext.trans (Ext.trans (Ext.trans e1 e3) e10) e11) e12) e13) e14) e15 (by rintro i hi rfl; omega))) g1 g2) ?_
      rintro v_37 w16 ⟨rfl, e16⟩
      have z16 := e16.size
      refine O.mv ?_
      refine O.yes rfl rfl ?_
      refine O.call Tryd.call10 (argsN) (known_spec es er _ (htb.keep (Ext.trans (Ext.new (Ext.trans (Ext.trans (Ext.trans (Ext.trans (Ext.trans (Ext.trans e1 e3) e10) e11) e12) e13) e14) e15 (by rintro i hi rfl; omega)) e16)) (hes.keep (Ext.trans (Ext.new (Ext.trans (Ext.trans (Ext.trans (Ext.trans (Ext.trans (Ext.trans e1 e3) e10) e11) e12) e13) e14) e15 (by rintro i hi rfl; omega)) e16)) (her.keep (Ext.trans (Ext.new (Ext.trans (Ext.trans (Ext.trans (Ext.trans (Ext.trans (Ext.trans e1 e3) e10) e11) e12) e13) e14) e15 (by rintro i hi rfl; omega)) e16)) g1 g2) ?_
      rintro v_39 w17 ⟨rfl, e17⟩
      have z17 := e17.size
      refine O.pickT rfl ?_
      refine O.asg ?_
      refine O.nil ?_
      refine hK16 _ _ ?_
      refine C.ret ?_
      refine Outs.one rfl rfl ?_
      exact ⟨rfl, (Ext.trans (Ext.trans (Ext.new (Ext.trans (Ext.trans (Ext.trans (Ext.trans (Ext.trans (Ext.trans e1 e3) e10) e11) e12) e13) e14) e15 (by rintro i hi rfl; omega)) e16) e17)⟩

set_option maxHeartbeats 1000000 in
theorem dotTexts_none_spec (d : Dt.Dot) (s : List UInt8) (es er : Value) (w : World) (hq : s.length ≤ 60 → Dt.rparse s = none) (htb : Tb w) (hes : CellIs w 1 es) (her : CellIs w 2 er) (g1 : ∃ te pe, es = .iface te pe) (g2 : ∃ te pe, er = .iface te pe) :
    Ret Tryd.prog 4 #[Dt.dv (d), str (s)] w (fun v w' => v = .bool true ∧ Le w w') := by
  refine enter (args := [Dt.dv (d), str (s)]) (n := 41) Tryd.func4 rfl rfl (Nat.le_of_ble_eq_true rfl) ?_
  refine C.seqK fun K1 hK1 => ?_
  refine C.region ?_
  refine O.box (v := Dt.dv (d)) rfl (fun b2 w1 hb2 hz2 e1 => ?_)
  have z1 := e1.size
  have h2 := hz2.own
  have hl2 := h2.lt
  refine O.asg ?_
  refine O.nil ?_
  refine hK1 _ _ ?_
  refine C.seqK fun K2 hK2 => ?_
  refine C.seqK fun K3 hK3 => ?_
  refine C.region ?_
  refine O.mv ?_
  refine O.lenS Tryd.underlying9 rfl ?_
  refine O.gtrI rfl rfl ?_
  refine O.nil ?_
  refine hK3 _ _ ?_
  refine C.condD rfl (fun c9 => ?_) (fun c9 => ?_)
  ·
    refine C.seqK fun K4 hK4 => ?_
    refine C.region ?_
    refine O.call Tryd.call10 (argsN) (known_spec es er _ (htb.keep e1) (hes.keep e1) (her.keep e1) g1 g2) ?_
    rintro v_10 w2 ⟨rfl, e2⟩
    have z2 := e2.size
    refine O.asg ?_
    refine O.nil ?_
    refine hK4 _ _ ?_
    refine C.ret ?_
    refine Outs.one rfl rfl ?_
    exact ⟨rfl, (Ext.trans e1 e2)⟩
  ·
    refine C.skip ?_
    refine hK2 _ _ ?_
    refine C.seqK fun K5 hK5 => ?_
    refine C.seqK fun K6 hK6 => ?_
    refine C.region ?_
    refine O.loadOA Tryd.isAgg23 Tryd.sizeOf23 rfl h2 (Nat.le_of_ble_eq_true rfl) ?_
    refine O.call Tryd.call7 (args1 rfl) (rvalid_spec d _) ?_
    rintro v_12 w3 ⟨rfl, e3⟩
    have z3 := e3.size
    refine O.not rfl ?_
    refine O.nil ?_
    refine hK6 _ _ ?_
    refine C.cond rfl (fun c13 => ?_) (fun c13 => ?_)
    ·
      have hv : ¬ Dt.Valid d := by simpa using c13
      refine C.seqK fun K7 hK7 => ?_
      refine C.region ?_
      refine O.loadOA Tryd.isAgg23 Tryd.sizeOf23 rfl (h2.keep e3) (Nat.le_of_ble_eq_true rfl) ?_
      refine O.call Tryd.call11 (args3 rfl rfl rfl) (texts_no_spec d _ hv ((htb.keep e1).keep e3)) ?_
      rintro v_15 w4 ⟨rfl, e4⟩
      have z4 := e4.size
      refine O.not rfl ?_
      refine O.cast (v' := .bool false) rfl ?_
      refine O.nil ?_
      refine hK7 _ _ ?_
      refine C.condF rfl ?_
      refine C.skip ?_
      refine hK5 _ _ ?_
      refine C.seqK fun K8 hK8 => ?_
      refine C.region ?_
      refine O.mv ?_
      refine O.call Tryd.call13 (args1 rfl) (rparse_no s _ (by unfold maxLen; omega) (hq (by omega))) ?_
      rintro v_24 w5 ⟨rfl, e5⟩
      have z5 := e5.size
      refine O.mv ?_
      refine O.extract rfl rfl ?_
      refine O.extract rfl rfl ?_
      refine O.alloc Tryd.zeroValue23 (fun b5 w6 hb5 hz5 e6 => ?_)
      have z6 := e6.size
      have h5 := hz5.own
      have hl5 := h5.lt
      refine O.storeA (vs := [.int .i64 (0), .int .i64 (0)]) Tryd.sizeOf23 rfl rfl rfl (by simp [Value.oneCell']) h5 (Nat.le_of_ble_eq_true rfl) (fun w7 hs7 e7 z7 => ?_)
      refine O.asg ?_
      refine O.nil ?_
      refine hK8 _ _ ?_
      refine C.seqK fun K9 hK9 => ?_
      refine C.seqK fun K10 hK10 => ?_
      refine C.region ?_
      refine O.mv ?_
      refine O.not rfl ?_
      refine O.cast (v' := .bool true) rfl ?_
      refine O.nil ?_
      refine hK10 _ _ ?_
      refine C.condT rfl ?_
      refine C.seqK fun K11 hK11 => ?_
      refine C.region ?_
      refine O.mv ?_
      refine O.build (cells := #[.int .i64 0, .int .i64 0]) rfl (by kernel_rfl) ?_
      refine O.call Tryd.call14 (args3 rfl rfl rfl) (parses_no_spec s es er _ (by omega) ((Dt.parse_eq s).trans (hq (by omega))) (htb.keep (Ext.new (Ext.trans (Ext.trans (Ext.trans (Ext.trans e1 e3) e4) e5) e6) e7 (by rintro i hi rfl; omega))) (hes.keep (Ext.new (Ext.trans (Ext.trans (Ext.trans (Ext.trans e1 e3) e4) e5) e6) e7 (by rintro i hi rfl; omega))) (her.keep (Ext.new (Ext.trans (Ext.trans (Ext.trans (Ext.trans e1 e3) e4) e5) e6) e7 (by rintro i hi rfl; omega))) g1 g2) ?_
      rintro v_31 w8 ⟨rfl, e8⟩
      have z8 := e8.size
      refine O.mv ?_
      refine O.yes rfl rfl ?_
      refine O.call Tryd.call10 (argsN) (known_spec es er _ (htb.keep (Ext.trans (Ext.new (Ext.trans (Ext.trans (Ext.trans (Ext.trans e1 e3) e4) e5) e6) e7 (by rintro i hi rfl; omega)) e8)) (hes.keep (Ext.trans (Ext.new (Ext.trans (Ext.trans (Ext.trans (Ext.trans e1 e3) e4) e5) e6) e7 (by rintro i hi rfl; omega)) e8)) (her.keep (Ext.trans (Ext.new (Ext.trans (Ext.trans (Ext.trans (Ext.trans e1 e3) e4) e5) e6) e7 (by rintro i hi rfl; omega)) e8)) g1 g2) ?_
      rintro v_33 w9 ⟨rfl, e9⟩
      have z9 := e9.size
      refine O.pickT rfl ?_
      refine O.asg ?_
      refine O.nil ?_
      refine hK11 _ _ ?_
      refine C.ret ?_
      refine Outs.one rfl rfl ?_
      exact ⟨rfl, (Ext.trans (Ext.trans (Ext.new (Ext.trans (Ext.trans (Ext.trans (Ext.trans e1 e3) e4) e5) e6) e7 (by rintro i hi rfl; omega)) e8) e9)⟩
    ·
      have hv : Dt.Valid d := by simpa using c13
      refine C.seqK fun K12 hK12 => ?_
      refine C.draw (by kernel_rfl) fun w10 e10 => ?_
      have z10 := e10.size
      refine D.take (i := 0) rfl rfl rfl rfl (by kernel_rfl) (Le.refl _) ⟨_, rfl⟩ (fun w_ hw_ N_ hN => (O.loadOA Tryd.isAgg23 Tryd.sizeOf23 rfl (((h2.keep e3).keep e10).keep hw_) (Nat.le_of_ble_eq_true rfl) (O.nil hN))) ?_
      refine D.take (i := 1) rfl rfl rfl rfl (by kernel_rfl) (Le.refl _) ⟨_, rfl⟩ (fun w_ hw_ N_ hN => (O.loadOA Tryd.isAgg23 Tryd.sizeOf23 rfl (((h2.keep e3).keep e10).keep hw_) (Nat.le_of_ble_eq_true rfl) (O.nil hN))) ?_
      refine D.one (i := 2) rfl rfl (by kernel_rfl) ?_
      refine O.call Tryd.call12 (args1 rfl) (rtext_spec d _ hv) ?_
      rintro v_19 w11 ⟨rfl, e11⟩
      have z11 := e11.size
      refine O.nil ⟨e11, ?_⟩
      refine D.one (i := 3) rfl rfl (by kernel_rfl) ?_
      refine O.call Tryd.call11 (args3 rfl rfl rfl) (texts_ok_spec d _ hv ((((htb.keep e1).keep e3).keep e10).keep e11)) ?_
      rintro v_20 w12 ⟨rfl, e12⟩
      have z12 := e12.size
      refine O.nil ⟨(Ext.trans e11 e12), ?_⟩
      refine D.take (i := 4) rfl rfl rfl rfl (by kernel_rfl) (Ext.trans e11 e12) ⟨_, rfl⟩ (fun w_ hw_ N_ hN => (O.not rfl (O.cast (v' := .bool false) rfl (O.nil hN)))) ?_
      refine D.done (by kernel_rfl) ?_
      refine hK12 _ _ ?_
      refine C.condF rfl ?_
      refine C.skip ?_
      refine hK5 _ _ ?_
      refine C.seqK fun K13 hK13 => ?_
      refine C.region ?_
      refine O.mv ?_
      refine O.call Tryd.call13 (args1 rfl) (rparse_no s _ (by unfold maxLen; omega) (hq (by omega))) ?_
      rintro v_24 w13 ⟨rfl, e13⟩
      have z13 := e13.size
      refine O.mv ?_
      refine O.extract rfl rfl ?_
      refine O.extract rfl rfl ?_
      refine O.alloc Tryd.zeroValue23 (fun b5 w14 hb5 hz5 e14 => ?_)
      have z14 := e14.size
      have h5 := hz5.own
      have hl5 := h5.lt
      refine O.storeA (vs := [.int .i64 (0), .int .i64 (0)]) Tryd.sizeOf23 rfl rfl rfl (by simp [Value.oneCell']) h5 (Nat.le_of_ble_eq_true rfl) (fun w15 hs15 e15 z15 => ?_)
      refine O.asg ?_
      refine O.nil ?_
      refine hK13 _ _ ?_
      refine C.seqK fun K14 hK14 => ?_
      refine C.seqK fun K15 hK15 => ?_
      refine C.region ?_
      refine O.mv ?_
      refine O.not rfl ?_
      refine O.cast (v' := .bool true) rfl ?_
      refine O.nil ?_
      refine hK15 _ _ ?_
      refine C.condT rfl ?_
      refine C.seqK fun K16 hK16 => ?_
      refine C.region ?_
      refine O.mv ?_
      refine O.build (cells := #[.int .i64 0, .int .i64 0]) rfl (by kernel_rfl) ?_
      refine O.call Tryd.call14 (args3 rfl rfl rfl) (parses_no_spec s es er _ (by omega) ((Dt.parse_eq s).trans (hq (by omega))) (htb.keep (Ext.new (Ext.trans (Ext.trans (Ext.trans (Ext.trans (Ext.trans (Ext.trans e1 e3) e10) e11) e12) e13) e14) e15 (by rintro i hi rfl; omega))) (hes.keep (Ext.new (Ext.trans (Ext.trans (Ext.trans (Ext.trans (Ext.trans (Ext.trans e1 e3) e10) e11) e12) e13) e14) e15 (by rintro i hi rfl; omega))) (her.keep (Ext.new (Ext.trans (Ext.trans (Ext.trans (Ext.trans (Ext.trans (Ext.trans e1 e3) e10) e11) e12) e13) e14) e15 (by rintro i hi rfl; omega))) g1 g2) ?_
      rintro v_31 w16 ⟨rfl, e16⟩
      have z16 := e16.size
      refine O.mv ?_
      refine O.yes rfl rfl ?_
      refine O.call Tryd.call10 (argsN) (known_spec es er _ (htb.keep (Ext.trans (Ext.new (Ext.trans (Ext.trans (Ext.trans (Ext.trans (Ext.trans (Ext.trans e1 e3) e10) e11) e12) e13) e14) e15 (by rintro i hi rfl; omega)) e16)) (hes.keep (Ext.trans (Ext.new (Ext.trans (Ext.trans (Ext.trans (Ext.trans (Ext.trans (Ext.trans e1 e3) e10) e11) e12) e13) e14) e15 (by rintro i hi rfl; omega)) e16)) (her.keep (Ext.trans (Ext.new (Ext.trans (Ext.trans (Ext.trans (Ext.trans (Ext.trans (Ext.trans e1 e3) e10) e11) e12) e13) e14) e15 (by rintro i hi rfl; omega)) e16)) g1 g2) ?_
      rintro v_33 w17 ⟨rfl, e17⟩
      have z17 := e17.size
      refine O.pickT rfl ?_
      refine O.asg ?_
      refine O.nil ?_
      refine hK16 _ _ ?_
      refine C.ret ?_
      refine Outs.one rfl rfl ?_
      exact ⟨rfl, (Ext.trans (Ext.trans (Ext.new (Ext.trans (Ext.trans (Ext.trans (Ext.trans (Ext.trans (Ext.trans e1 e3) e10) e11) e12) e13) e14) e15 (by rintro i hi rfl; omega)) e16) e17)⟩


theorem dotTexts_spec (d : Dt.Dot) (s : List UInt8) (es er : Value) (w : World) (htb : Tb w) (hes : CellIs w 1 es) (her : CellIs w 2 er) (g1 : ∃ te pe, es = .iface te pe) (g2 : ∃ te pe, er = .iface te pe) : Ret Tryd.prog 4 #[Dt.dv d, str s] w (fun v w' => v = .bool true ∧ Le w w') := by
  cases h : Dt.rparse s with
  | some x => exact dotTexts_some_spec d s x es er w (fun _ => h) htb hes her g1 g2
  | none => exact dotTexts_none_spec d s es er w (fun _ => h) htb hes her g1 g2

set_option maxHeartbeats 2000000 in
theorem dotSets_spec (v0 : Value) (l : List Dt.Dot) (d : Dt.Dot) (F : Nat → Prop) (es er : Value) (w : World) (hl : Sl Dt.dotF.enc w F v0 l) (htb : Tb w) (hes : CellIs w 1 es) (her : CellIs w 2 er) (g1 : ∃ te pe, es = .iface te pe) (g2 : ∃ te pe, er = .iface te pe) :
    Ret Tryd.prog 5 #[v0, Dt.dv (d)] w (fun v w' => v = .bool true ∧ Le w w') := by
  obtain ⟨ie23, ti23, ts23, tb23, tz23⟩ := inf23
  have hle := hl.le
  refine enter (args := [v0, Dt.dv (d)]) (n := 57) Tryd.func5 rfl rfl (Nat.le_of_ble_eq_true rfl) ?_
  refine C.seqK fun K1 hK1 => ?_
  refine C.region ?_
  refine O.box (v := Dt.dv (d)) rfl (fun b3 w1 hb3 hz3 e1 => ?_)
  have z1 := e1.size
  have h3 := hz3.own
  have hl3 := h3.lt
  refine O.asg ?_
  refine O.nil ?_
  refine hK1 _ _ ?_
  refine C.seqK fun K2 hK2 => ?_
  refine C.seqK fun K3 hK3 => ?_
  refine C.region ?_
  refine O.mv ?_
  refine O.len Tryd.underlying35 rfl (hl.keep e1) ?_
  refine O.gtrI rfl rfl ?_
  refine O.nil ?_
  refine hK3 _ _ ?_
  refine C.condD rfl (fun c10 => ?_) (fun c10 => ?_)
  ·
    refine C.seqK fun K4 hK4 => ?_
    refine C.region ?_
    refine O.call Tryd.call10 (argsN) (known_spec es er _ (htb.keep e1) (hes.keep e1) (her.keep e1) g1 g2) ?_
    rintro v_11 w2 ⟨rfl, e2⟩
    have z2 := e2.size
    refine O.asg ?_
    refine O.nil ?_
    refine hK4 _ _ ?_
    refine C.ret ?_
    refine Outs.one rfl rfl ?_
    exact ⟨rfl, (Ext.trans e1 e2)⟩
  ·
    refine C.skip ?_
    refine hK2 _ _ ?_
    refine C.seqK fun K5 hK5 => ?_
    refine C.region ?_
    refine O.mv ?_
    refine O.appF (G := Dt.dotF) Tryd.underlying35 ti23 tz23 ts23 rfl rfl rfl (OwnF.nil _ _ _ _) (hl.keep e1) (by rw [tb23]; simp; omega) (by unfold maxLen; simp; omega) (Nat.le_refl _) (fun v13 w3 h13 e3 => ?_)
    replace e3 : Le w1 w3 := e3.mono (fun _ _ h => h)
    have z3 := e3.size
    have h13s := h13.sl
    simp only [List.nil_append] at h13 h13s
    obtain ⟨B, hBd⟩ : ∃ B, B = w3.heap.size := ⟨_, rfl⟩
    have hq13 := h13.bk_ge
    refine O.asg ?_
    refine O.nil ?_
    refine hK5 _ _ ?_
    refine C.seqK fun K6 hK6 => ?_
    refine C.region ?_
    refine O.mv ?_
    refine O.call Tryd.call15 (args1 rfl) (set_spec _ _ _ _ h13s (by omega)) ?_
    rintro v_15 w4 ⟨e4, h15⟩
    have z4 := e4.size
    rw [← hBd] at h15
    have h15s := h15.sl
    have hlen6 := Dt.addAll_length l []
    refine O.asg ?_
    refine O.nil ?_
    refine hK6 _ _ ?_
    refine C.seqK fun K7 hK7 => ?_
    refine C.seqK fun K8 hK8 => ?_
    refine C.join (fun f w f' w' => Le w w' ∧ f' 0 = f 0 ∧ f' 4 = f 4 ∧ f' 5 = f 5 ∧ f' 6 = f 6 ∧ f' 36 = .bool false) ?_ ?_
    ·
      refine C.draw (by kernel_rfl) fun w5 e5 => ?_
      have z5 := e5.size
      refine D.take (i := 0) rfl rfl rfl rfl (by kernel_rfl) (Le.refl _) ⟨pure _, rfl⟩ (fun w_ hw_ N_ hN => (O.mv (O.nil hN))) ?_
      refine D.take (i := 2) rfl rfl rfl rfl (by kernel_rfl) (Le.refl _) ⟨pure _, rfl⟩ (fun w_ hw_ N_ hN => (O.mv (O.nil hN))) ?_
      refine D.one (i := 1) rfl rfl (by kernel_rfl) ?_
      refine O.call Tryd.call16 (args1 rfl) (isSet_spec _ _ _ _ ((h13s.keep e4).keep e5)) ?_
      rintro v_17 w6 ⟨rfl, e6⟩
      have z6 := e6.size
      refine O.nil ⟨e6, ?_⟩
      refine D.one (i := 3) rfl rfl (by kernel_rfl) ?_
      refine O.call Tryd.call17 (args1 rfl) (risSet_spec _ _ _ _ (((((hl.keep e1).keep e3).keep e4).keep e5).keep e6)) ?_
      rintro v_19 w7 ⟨rfl, e7⟩
      have z7 := e7.size
      refine O.nil ⟨(Ext.trans e6 e7), ?_⟩
      refine D.take (i := 4) rfl rfl rfl rfl (by kernel_rfl) (Ext.trans e6 e7) ⟨_, rfl⟩ (fun w_ hw_ N_ hN => (O.neqB Tryd.underlying4 rfl rfl (O.nil hN))) ?_
      refine D.cast (v' := .bool false) (congrArg Value.bool (by simp)) ?_
      refine D.take (i := 5) rfl rfl rfl rfl (by kernel_rfl) (Ext.trans e6 e7) ⟨pure _, rfl⟩ (fun w_ hw_ N_ hN => (O.mv (O.nil hN))) ?_
      refine D.takeYes (i := 6) rfl rfl rfl (by kernel_rfl) rfl rfl (Ext.trans e6 e7) ⟨pure _, rfl⟩ (fun w_ hw_ N_ hN => (O.mv (O.nil hN))) ?_
      refine D.takeYes (i := 7) rfl rfl rfl (by kernel_rfl) rfl rfl (Ext.trans e6 e7) ⟨pure _, rfl⟩ (fun w_ hw_ N_ hN => (O.mv (O.nil hN))) ?_
      refine D.oneYes (i := 8) rfl rfl rfl (by kernel_rfl) ?_
      refine O.call Tryd.call19 (args1 rfl) (rset_spec _ _ _ _ ((((((hl.keep e1).keep e3).keep e4).keep e5).keep e6).keep e7) (by omega)) ?_
      rintro v_24 w8 ⟨e8, h24⟩
      have z8 := e8.size
      refine O.nil ⟨(Ext.trans (Ext.trans e6 e7) e8), ?_⟩
      have h24s := h24.sl
      refine D.oneYes (i := 9) rfl rfl rfl (by kernel_rfl) ?_
      refine O.call Tryd.call18 (args2 rfl rfl) (same_spec _ _ _ _ _ _ _ ((((h15s.keep e5).keep e6).keep e7).keep e8) h24s) ?_
      rintro v_25 w9 ⟨rfl, e9⟩
      have z9 := e9.size
      refine O.nil ⟨(Ext.trans (Ext.trans (Ext.trans e6 e7) e8) e9), ?_⟩
      refine D.cast (v' := .bool true) (congrArg Value.bool (by exact decide_eq_true rfl)) ?_
      refine D.takeYes (i := 10) rfl rfl rfl (by kernel_rfl) rfl rfl (Ext.trans (Ext.trans (Ext.trans e6 e7) e8) e9) ⟨_, rfl⟩ (fun w_ hw_ N_ hN => (O.not rfl (O.cast (v' := .bool false) rfl (O.nil hN)))) ?_
      refine D.take (i := 11) rfl rfl rfl rfl (by kernel_rfl) (Ext.trans (Ext.trans (Ext.trans e6 e7) e8) e9) pick_form (fun w_ hw_ N_ hN => (O.pickF rfl (O.nil hN))) ?_
      refine D.take (i := 12) rfl rfl rfl rfl (by kernel_rfl) (Ext.trans (Ext.trans (Ext.trans e6 e7) e8) e9) ⟨pure _, rfl⟩ (fun w_ hw_ N_ hN => (O.mv (O.nil hN))) ?_
      refine D.takeYes (i := 13) rfl rfl rfl (by kernel_rfl) rfl rfl (Ext.trans (Ext.trans (Ext.trans e6 e7) e8) e9) ⟨pure _, rfl⟩ (fun w_ hw_ N_ hN => (O.mv (O.nil hN))) ?_
      refine D.takeYes (i := 14) rfl rfl rfl (by kernel_rfl) rfl rfl (Ext.trans (Ext.trans (Ext.trans e6 e7) e8) e9) ⟨_, rfl⟩ (fun w_ hw_ N_ hN => (O.loadOA Tryd.isAgg23 Tryd.sizeOf23 rfl ((((h3.keep e3).keep e4).keep e5).keep hw_) (Nat.le_of_ble_eq_true rfl) (O.nil hN))) ?_
      refine D.takeYes (i := 16) rfl rfl rfl (by kernel_rfl) rfl rfl (Ext.trans (Ext.trans (Ext.trans e6 e7) e8) e9) ⟨pure _, rfl⟩ (fun w_ hw_ N_ hN => (O.mv (O.nil hN))) ?_
      refine D.takeYes (i := 17) rfl rfl rfl (by kernel_rfl) rfl rfl (Ext.trans (Ext.trans (Ext.trans e6 e7) e8) e9) ⟨_, rfl⟩ (fun w_ hw_ N_ hN => (O.loadOA Tryd.isAgg23 Tryd.sizeOf23 rfl ((((h3.keep e3).keep e4).keep e5).keep hw_) (Nat.le_of_ble_eq_true rfl) (O.nil hN))) ?_
      refine D.oneYes (i := 15) rfl rfl rfl (by kernel_rfl) ?_
      refine O.call Tryd.call20 (args2 rfl rfl) (has_spec _ _ _ d _ ((((((h13s.keep e4).keep e5).keep e6).keep e7).keep e8).keep e9)) ?_
      rintro v_31 w10 ⟨rfl, e10⟩
      have z10 := e10.size
      refine O.nil ⟨(Ext.trans (Ext.trans (Ext.trans (Ext.trans e6 e7) e8) e9) e10), ?_⟩
      refine D.oneYes (i := 18) rfl rfl rfl (by kernel_rfl) ?_
      refine O.call Tryd.call21 (args2 rfl rfl) (rhas_spec _ _ _ d _ (((((((((hl.keep e1).keep e3).keep e4).keep e5).keep e6).keep e7).keep e8).keep e9).keep e10)) ?_
      rintro v_34 w11 ⟨rfl, e11⟩
      have z11 := e11.size
      refine O.nil ⟨(Ext.trans (Ext.trans (Ext.trans (Ext.trans (Ext.trans e6 e7) e8) e9) e10) e11), ?_⟩
      refine D.takeYes (i := 19) rfl rfl rfl (by kernel_rfl) rfl rfl (Ext.trans (Ext.trans (Ext.trans (Ext.trans (Ext.trans e6 e7) e8) e9) e10) e11) ⟨_, rfl⟩ (fun w_ hw_ N_ hN => (O.neqB Tryd.underlying4 rfl rfl (O.nil hN))) ?_
      refine D.cast (v' := .bool false) (congrArg Value.bool (by simp)) ?_
      refine D.take (i := 20) rfl rfl rfl rfl (by kernel_rfl) (Ext.trans (Ext.trans (Ext.trans (Ext.trans (Ext.trans e6 e7) e8) e9) e10) e11) pick_form (fun w_ hw_ N_ hN => (O.pickF rfl (O.nil hN))) ?_
      refine D.done (by kernel_rfl) ?_
      exact ⟨(Ext.trans (Ext.trans (Ext.trans (Ext.trans (Ext.trans (Ext.trans e5 e6) e7) e8) e9) e10) e11), rfl, rfl, rfl, rfl, rfl⟩
    ·
      rintro f_1 w12 ⟨e_1, s0_1, s4_1, s5_1, s6_1, s36_1⟩
      have z_1 := e_1.size
      refine hK8 _ _ ?_
      refine C.condF s36_1 ?_
      refine C.skip ?_
      refine hK7 _ _ ?_
      refine C.seqK fun K9 hK9 => ?_
      refine C.seqK fun K10 hK10 => ?_
      refine C.region ?_
      refine O.mv ?_
      refine O.len Tryd.underlying35 s6_1 (h15s.keep e_1) ?_
      refine O.mv ?_
      refine O.nil ?_
      refine hK10 _ _ ?_
      refine C.block fun K11 hK11 => ?_
      refine C.loop0 (σ := Nat × List Dt.Dot) (fun f0 w0 ⟨k, x⟩ f w => f 39 = .int .i64 (k) ∧ f 0 = f0 0 ∧ f 4 = f0 4 ∧ f 5 = f0 5 ∧ f 6 = f0 6 ∧ f 38 = f0 38 ∧ Ext (fun i => B ≤ i) w0 w ∧ OwnF Dt.dotF 23 B w v_15 x ∧ x.length = (Dt.set l).length ∧ k ≤ x.length) (fun ⟨k, x⟩ => (Dt.set l).length - k) (0, Dt.set l) ?_ ?_
      ·
        refine ⟨rfl, rfl, rfl, rfl, rfl, rfl, Ext.refl _ _, (h15.keep e_1), ?_⟩
        exact ⟨rfl, Nat.zero_le _⟩
      ·
        rintro ⟨k, x⟩ f_2 w13 ⟨s39_2, s0_2, s4_2, s5_2, s6_2, s38_2, e_2, r0_2, ⟨hx, hk⟩⟩
        have z_2 := e_2.size
        have r0_2s := r0_2.sl
        have hxl := (r0_2).sl.le
        unfold maxLen at hxl
        refine C.seqK fun K12 hK12 => ?_
        refine C.region ?_
        refine O.lssI s39_2 s38_2 ?_
        refine O.nil ?_
        refine hK12 _ _ ?_
        refine C.seqK fun K13 hK13 => ?_
        refine C.condD rfl (fun c40 => ?_) (fun c40 => ?_)
        ·
          refine C.skip ?_
          refine hK13 _ _ ?_
          refine C.seqK fun K14 hK14 => ?_
          refine C.block fun K15 hK15 => ?_
          refine C.seqK fun K16 hK16 => ?_
          refine C.region ?_
          refine O.mv ?_
          refine O.asg ?_
          refine O.nil ?_
          refine hK16 _ _ ?_
          refine C.region ?_
          refine O.mv ?_
          refine O.mv ?_
          obtain ⟨g44, cap44, hv44⟩ := OwnF.ptr r0_2 (by omega)
          have ho44 := r0_2
          rw [hv44] at ho44
          refine O.idxO Tryd.underlying35 Tryd.sizeOf23 (Eq.trans (Eq.trans s6_2 s6_1) hv44) s39_2 (by omega) ?_
          refine O.fieldAd Tryd.underlying23 rfl Tryd.sizeOf3 (by decide) rfl ?_
          refine O.loadC (G := Dt.dotF) (i := k) (off := 0) (by simp [Dt.dotF]) Tryd.isAgg3 rfl ho44 (by omega) rfl ?_
          refine O.addW rfl rfl ?_
          obtain ⟨g48, cap48, hv48⟩ := OwnF.ptr r0_2 (by omega)
          have ho48 := r0_2
          rw [hv48] at ho48
          refine O.idxO Tryd.underlying35 Tryd.sizeOf23 (Eq.trans (Eq.trans s6_2 s6_1) hv48) s39_2 (by omega) ?_
          refine O.fieldAd Tryd.underlying23 rfl Tryd.sizeOf3 (by decide) rfl ?_
          refine O.storeC (G := Dt.dotF) (i := k) (off := 0) ((_, (x[k]'(by omega)).2)) (by simp [Dt.dotF]) Tryd.sizeOf3 rfl rfl rfl ho48 (by omega) (by decide) rfl (fun w14 hs14 e14 z14 => ?_)
          rw [← hv48] at hs14
          replace e14 : Ext (fun i => B ≤ i) w13 w14 := e14.mono (fun k _ hk => by have h0 : k = g48 := hk; have := ho48.bk_ge g48 rfl; omega)
          refine O.nil ?_
          refine hK15 _ _ ?_
          refine hK14 _ _ ?_
          refine C.region ?_
          refine O.addI s39_2 rfl (by unfold InI; omega) ?_
          refine O.mv ?_
          refine O.nil ?_
          refine ⟨(k + 1, _), ⟨rfl, s0_2, s4_2, s5_2, s6_2, s38_2, (Ext.trans e_2 (e14)), hs14, ?_⟩, by first | omega | (simp only []; omega)⟩
          exact ⟨by simpa using hx, by simp; omega⟩
        ·
          refine C.exit ?_
          refine hK11 _ _ ?_
          refine hK9 _ _ ?_
          refine C.seqK fun K17 hK17 => ?_
          refine C.region ?_
          refine O.mv ?_
          refine O.mv ?_
          refine O.call Tryd.call18 (args2 (Eq.trans s5_2 s5_1) (Eq.trans s0_2 s0_1)) (same_spec _ _ _ _ _ _ _ (((h13s.keep e4).keep e_1).keepM e_2 (by intro i hi h; have := hq13 i hi; omega)) (hl.keep (Ext.new (Ext.trans (Ext.trans (Ext.trans e1 e3) e4) e_1) e_2 (by intro i hi h; omega)))) ?_
          rintro v_53 w15 ⟨rfl, e15⟩
          have z15 := e15.size
          refine O.cast (v' := .bool true) (congrArg Value.bool (by exact decide_eq_true rfl)) ?_
          refine O.mv ?_
          refine O.yes rfl rfl ?_
          refine O.call Tryd.call10 (argsN) (known_spec es er _ (htb.keep (Ext.trans (Ext.new (Ext.trans (Ext.trans (Ext.trans e1 e3) e4) e_1) e_2 (by intro i hi h; omega)) e15)) (hes.keep (Ext.trans (Ext.new (Ext.trans (Ext.trans (Ext.trans e1 e3) e4) e_1) e_2 (by intro i hi h; omega)) e15)) (her.keep (Ext.trans (Ext.new (Ext.trans (Ext.trans (Ext.trans e1 e3) e4) e_1) e_2 (by intro i hi h; omega)) e15)) g1 g2) ?_
          rintro v_55 w16 ⟨rfl, e16⟩
          have z16 := e16.size
          refine O.pickT rfl ?_
          refine O.asg ?_
          refine O.nil ?_
          refine hK17 _ _ ?_
          refine C.ret ?_
          refine Outs.one rfl rfl ?_
          exact ⟨rfl, (Ext.trans (Ext.trans (Ext.new (Ext.trans (Ext.trans (Ext.trans e1 e3) e4) e_1) e_2 (by intro i hi h; omega)) e15) e16)⟩

end Go.Proofs.YtbmbaajfkmejgaaDoor
