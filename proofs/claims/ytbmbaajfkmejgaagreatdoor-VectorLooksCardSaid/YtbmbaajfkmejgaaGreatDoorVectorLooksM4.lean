/-
  The walks of the laws. Conditions: slices as they lie in memory; the library's table and its errors.
-/
import Derived.Test.YtbmbaajfkmejgaaGreatDoorVectorLooksM3
namespace Go.Proofs.YtbmbaajfkmejgaaGreatDoor
open Go.Pn Go.RowKit Go.Proofs
attribute [local irreducible] O C D


theorem vectorLooks_spec (v0 : Value) (l : List Dt.Dot) (r : Int) (d : Dt.Dot) (F : Nat → Prop) (es er : Value) (w : World) (hl : Sl Dt.dotF.enc w F v0 l) (hF : ∀ k, F k → k < w.heap.size) (htb : Tb w) (hes : CellIs w 3 es) (her : CellIs w 4 er) (g1 : ∃ te pe, es = .iface te pe) (g2 : ∃ te pe, er = .iface te pe) :
    Ret Tryz.prog 3 #[v0, .int .i64 (r), Dt.dv (d)] w (fun v w' => v = .bool true ∧ Le w w') := by
  have hle := hl.le
  refine enter (args := [v0, .int .i64 (r), Dt.dv (d)]) (n := 37) Tryz.func3 rfl rfl (Nat.le_of_ble_eq_true rfl) ?_
  refine C.seqK fun K1 hK1 => ?_
  refine C.region ?_
  refine O.box (v := Dt.dv (d)) rfl (fun b5 w1 hb5 hz5 e1 => ?_)
  have z1 := e1.size
  have h5 := hz5.own
  have hl5 := h5.lt
  refine O.asg ?_
  refine O.nil ?_
  refine hK1 _ _ ?_
  refine C.seqK fun K2 hK2 => ?_
  refine C.seqK fun K3 hK3 => ?_
  refine C.region ?_
  refine O.mv ?_
  refine O.len Tryz.underlying23 rfl (hl.keep e1) ?_
  refine O.gtrI rfl rfl ?_
  refine O.nil ?_
  refine hK3 _ _ ?_
  refine C.condD rfl (fun c9 => ?_) (fun c9 => ?_)
  ·
    refine C.seqK fun K4 hK4 => ?_
    refine C.region ?_
    refine O.call Tryz.call8 (argsN) (known_spec es er _ (htb.keep e1) (hes.keep e1) (her.keep e1) g1 g2) ?_
    rintro v_10 w2 ⟨rfl, e2⟩
    have z2 := e2.size
    refine O.asg ?_
    refine O.nil ?_
    refine hK4 _ _ ?_
    refine C.ret ?_
    refine Outs.one rfl rfl ?_
    exact ⟨rfl, (Ext.trans e1 e2)⟩
  ·
    refine C.skip ?_
    refine hK2 _ _ ?_
    refine C.seqK fun K5 hK5 => ?_
    refine C.draw (by kernel_rfl) fun w3 e3 => ?_
    have z3 := e3.size
    refine D.take (i := 0) rfl rfl rfl rfl (by kernel_rfl) (Le.refl _) ⟨pure _, rfl⟩ (fun w_ hw_ N_ hN => (O.mv (O.nil hN))) ?_
    refine D.take (i := 2) rfl rfl rfl rfl (by kernel_rfl) (Le.refl _) ⟨pure _, rfl⟩ (fun w_ hw_ N_ hN => (O.mv (O.nil hN))) ?_
    refine D.one (i := 1) rfl rfl (by kernel_rfl) ?_
    refine O.call Tryz.call9 (args1 rfl) (vecValid_spec _ _ _ _ ((hl.keep e1).keep e3)) ?_
    rintro v_12 w4 ⟨rfl, e4⟩
    have z4 := e4.size
    refine O.nil ⟨e4, ?_⟩
    refine D.one (i := 3) rfl rfl (by kernel_rfl) ?_
    refine O.call Tryz.call10 (args1 rfl) (rvecValid_spec _ _ _ _ (((hl.keep e1).keep e3).keep e4)) ?_
    rintro v_14 w5 ⟨rfl, e5⟩
    have z5 := e5.size
    refine O.nil ⟨(Ext.trans e4 e5), ?_⟩
    refine D.take (i := 4) rfl rfl rfl rfl (by kernel_rfl) (Ext.trans e4 e5) ⟨_, rfl⟩ (fun w_ hw_ N_ hN => (O.eqlB Tryz.underlying4 rfl rfl (O.nil hN))) ?_
    refine D.cast (v' := .bool true) (congrArg Value.bool (by exact decide_eq_true rfl)) ?_
    refine D.take (i := 5) rfl rfl rfl rfl (by kernel_rfl) (Ext.trans e4 e5) ⟨pure _, rfl⟩ (fun w_ hw_ N_ hN => (O.mv (O.nil hN))) ?_
    refine D.takeYes (i := 6) rfl rfl rfl (by kernel_rfl) rfl rfl (Ext.trans e4 e5) ⟨pure _, rfl⟩ (fun w_ hw_ N_ hN => (O.mv (O.nil hN))) ?_
    refine D.takeYes (i := 7) rfl rfl rfl (by kernel_rfl) rfl rfl (Ext.trans e4 e5) ⟨pure _, rfl⟩ (fun w_ hw_ N_ hN => (O.mv (O.nil hN))) ?_
    refine D.takeYes (i := 9) rfl rfl rfl (by kernel_rfl) rfl rfl (Ext.trans e4 e5) ⟨pure _, rfl⟩ (fun w_ hw_ N_ hN => (O.mv (O.nil hN))) ?_
    refine D.takeYes (i := 10) rfl rfl rfl (by kernel_rfl) rfl rfl (Ext.trans e4 e5) ⟨pure _, rfl⟩ (fun w_ hw_ N_ hN => (O.mv (O.nil hN))) ?_
    refine D.oneYes (i := 8) rfl rfl rfl (by kernel_rfl) ?_
    refine O.call Tryz.call11 (args2 rfl rfl) (get_spec _ _ _ _ _ ((((hl.keep e1).keep e3).keep e4).keep e5)) ?_
    rintro v_19 w6 ⟨rfl, e6⟩
    have z6 := e6.size
    refine O.nil ⟨(Ext.trans (Ext.trans e4 e5) e6), ?_⟩
    refine D.oneYes (i := 11) rfl rfl rfl (by kernel_rfl) ?_
    refine O.call Tryz.call12 (args2 rfl rfl) (rget_spec _ _ _ _ _ (((((hl.keep e1).keep e3).keep e4).keep e5).keep e6)) ?_
    rintro v_22 w7 ⟨rfl, e7⟩
    have z7 := e7.size
    refine O.nil ⟨(Ext.trans (Ext.trans (Ext.trans e4 e5) e6) e7), ?_⟩
    refine D.takeYes (i := 12) rfl rfl rfl (by kernel_rfl) rfl rfl (Ext.trans (Ext.trans (Ext.trans e4 e5) e6) e7) ⟨_, rfl⟩ (fun w_ hw_ N_ hN => (O.eqlI rfl rfl (O.nil hN))) ?_
    refine D.cast (v' := .bool true) (congrArg Value.bool (by exact decide_eq_true rfl)) ?_
    refine D.take (i := 13) rfl rfl rfl rfl (by kernel_rfl) (Ext.trans (Ext.trans (Ext.trans e4 e5) e6) e7) pick_form (fun w_ hw_ N_ hN => (O.pickT rfl (O.nil hN))) ?_
    refine D.take (i := 14) rfl rfl rfl rfl (by kernel_rfl) (Ext.trans (Ext.trans (Ext.trans e4 e5) e6) e7) ⟨pure _, rfl⟩ (fun w_ hw_ N_ hN => (O.mv (O.nil hN))) ?_
    refine D.takeYes (i := 15) rfl rfl rfl (by kernel_rfl) rfl rfl (Ext.trans (Ext.trans (Ext.trans e4 e5) e6) e7) ⟨pure _, rfl⟩ (fun w_ hw_ N_ hN => (O.mv (O.nil hN))) ?_
    refine D.takeYes (i := 16) rfl rfl rfl (by kernel_rfl) rfl rfl (Ext.trans (Ext.trans (Ext.trans e4 e5) e6) e7) ⟨_, rfl⟩ (fun w_ hw_ N_ hN => (O.loadOA Tryz.isAgg25 Tryz.sizeOf25 rfl ((h5.keep e3).keep hw_) (Nat.le_of_ble_eq_true rfl) (O.nil hN))) ?_
    refine D.takeYes (i := 18) rfl rfl rfl (by kernel_rfl) rfl rfl (Ext.trans (Ext.trans (Ext.trans e4 e5) e6) e7) ⟨pure _, rfl⟩ (fun w_ hw_ N_ hN => (O.mv (O.nil hN))) ?_
    refine D.takeYes (i := 19) rfl rfl rfl (by kernel_rfl) rfl rfl (Ext.trans (Ext.trans (Ext.trans e4 e5) e6) e7) ⟨_, rfl⟩ (fun w_ hw_ N_ hN => (O.loadOA Tryz.isAgg25 Tryz.sizeOf25 rfl ((h5.keep e3).keep hw_) (Nat.le_of_ble_eq_true rfl) (O.nil hN))) ?_
    refine D.oneYes (i := 17) rfl rfl rfl (by kernel_rfl) ?_
    refine O.call Tryz.call13 (args2 rfl rfl) (vecHas_spec v0 l F d _ ((((((hl.keep e1).keep e3).keep e4).keep e5).keep e6).keep e7)) ?_
    rintro v_28 w8 ⟨rfl, e8⟩
    have z8 := e8.size
    refine O.nil ⟨(Ext.trans (Ext.trans (Ext.trans (Ext.trans e4 e5) e6) e7) e8), ?_⟩
    refine D.oneYes (i := 20) rfl rfl rfl (by kernel_rfl) ?_
    refine O.call Tryz.call14 (args2 rfl rfl) (rvecHas_spec v0 l F d _ (((((((hl.keep e1).keep e3).keep e4).keep e5).keep e6).keep e7).keep e8)) ?_
    rintro v_31 w9 ⟨rfl, e9⟩
    have z9 := e9.size
    refine O.nil ⟨(Ext.trans (Ext.trans (Ext.trans (Ext.trans (Ext.trans e4 e5) e6) e7) e8) e9), ?_⟩
    refine D.takeYes (i := 21) rfl rfl rfl (by kernel_rfl) rfl rfl (Ext.trans (Ext.trans (Ext.trans (Ext.trans (Ext.trans e4 e5) e6) e7) e8) e9) ⟨_, rfl⟩ (fun w_ hw_ N_ hN => (O.eqlB Tryz.underlying4 rfl rfl (O.nil hN))) ?_
    refine D.cast (v' := .bool true) (congrArg Value.bool (by exact decide_eq_true rfl)) ?_
    refine D.take (i := 22) rfl rfl rfl rfl (by kernel_rfl) (Ext.trans (Ext.trans (Ext.trans (Ext.trans (Ext.trans e4 e5) e6) e7) e8) e9) pick_form (fun w_ hw_ N_ hN => (O.pickT rfl (O.nil hN))) ?_
    refine D.take (i := 23) rfl rfl rfl rfl (by kernel_rfl) (Ext.trans (Ext.trans (Ext.trans (Ext.trans (Ext.trans e4 e5) e6) e7) e8) e9) ⟨pure _, rfl⟩ (fun w_ hw_ N_ hN => (O.mv (O.nil hN))) ?_
    refine D.oneYes (i := 24) rfl rfl rfl (by kernel_rfl) ?_
    refine O.call Tryz.call8 (argsN) (known_spec es er _ ((((((((htb.keep e1).keep e3).keep e4).keep e5).keep e6).keep e7).keep e8).keep e9) ((((((((hes.keep e1).keep e3).keep e4).keep e5).keep e6).keep e7).keep e8).keep e9) ((((((((her.keep e1).keep e3).keep e4).keep e5).keep e6).keep e7).keep e8).keep e9) g1 g2) ?_
    rintro v_35 w10 ⟨rfl, e10⟩
    have z10 := e10.size
    refine O.nil ⟨(Ext.trans (Ext.trans (Ext.trans (Ext.trans (Ext.trans (Ext.trans e4 e5) e6) e7) e8) e9) e10), ?_⟩
    refine D.take (i := 25) rfl rfl rfl rfl (by kernel_rfl) (Ext.trans (Ext.trans (Ext.trans (Ext.trans (Ext.trans (Ext.trans e4 e5) e6) e7) e8) e9) e10) pick_form (fun w_ hw_ N_ hN => (O.pickT rfl (O.nil hN))) ?_
    refine D.take (i := 26) rfl rfl rfl rfl (by kernel_rfl) (Ext.trans (Ext.trans (Ext.trans (Ext.trans (Ext.trans (Ext.trans e4 e5) e6) e7) e8) e9) e10) ⟨pure _, rfl⟩ (fun w_ hw_ N_ hN => (O.asg (O.nil hN))) ?_
    refine D.done (by kernel_rfl) ?_
    refine hK5 _ _ ?_
    refine C.ret ?_
    refine Outs.one rfl rfl ?_
    exact ⟨rfl, (Ext.trans (Ext.trans (Ext.trans (Ext.trans (Ext.trans (Ext.trans (Ext.trans (Ext.trans e1 e3) e4) e5) e6) e7) e8) e9) e10)⟩

end Go.Proofs.YtbmbaajfkmejgaaGreatDoor
