/-
  The walks of floats: lists. Conditions: slices as they lie in memory.
-/
import Derived.Test.YtbadfphdniliaaaDoorFw8
import Derived.Test.YtbadfphdniliaaaDoorOrd
import Derived.Test.YtbadfphdniliaaaDoorFl1
namespace Go.Proofs.YtbadfphdniliaaaDoor
open Go.Pn Go.RowKit

theorem inf23 : ∃ ie, Tryd.prog.info? 23 = some ie ∧ ie.size = 1 ∧ ie.bytes = 8 ∧ ie.zero = some (.float .f64 0) := by
  have h : (Tryd.prog.info? 23).isSome = true := by kernel_rfl
  exact ⟨(Tryd.prog.info? 23).get h, (Option.some_get h).symm, by kernel_rfl, by kernel_rfl, by kernel_rfl⟩
theorem inf22 : ∃ ie, Tryd.prog.info? 22 = some ie ∧ ie.size = 1 ∧ ie.bytes = 8 ∧ ie.zero = some (.int .u64 0) := by
  have h : (Tryd.prog.info? 22).isSome = true := by kernel_rfl
  exact ⟨(Tryd.prog.info? 22).get h, (Option.some_get h).symm, by kernel_rfl, by kernel_rfl, by kernel_rfl⟩
theorem canon_spec (x : BitVec 64) (w : World) :
    Ret Tryd.prog 18 #[fl (x)] w (fun v w' => v = fl (Fl.canon x) ∧ w' = w) := by
  refine enter (args := [fl (x)]) (n := 12) Tryd.func18 rfl rfl (Nat.le_of_ble_eq_true rfl) ?_
  refine C.seqK fun K1 hK1 => ?_
  refine C.region ?_
  refine O.asg ?_
  refine O.nil ?_
  refine hK1 _ _ ?_
  refine C.seqK fun K2 hK2 => ?_
  refine C.block fun K3 hK3 => ?_
  refine C.seqK fun K4 hK4 => ?_
  refine C.region ?_
  refine O.mv ?_
  refine O.mv ?_
  refine O.neqF rfl rfl ?_
  refine O.asg ?_
  refine O.nil ?_
  refine hK4 _ _ ?_
  refine C.condD rfl (fun c3 => ?_) (fun c3 => ?_)
  ·
    refine C.seqK fun K5 hK5 => ?_
    refine C.region ?_
    refine O.ext ext33 (args1 rfl) (run_fromBits (9221120237041090560#64)) ?_
    refine O.asg ?_
    refine O.nil ?_
    refine hK5 _ _ ?_
    refine C.ret ?_
    refine Outs.one rfl rfl ?_
    first
    | (rw [Fl.canon_nan c3]; exact ⟨rfl, rfl⟩)
    | (rw [Fl.canon_zero c3 c8]; exact ⟨rfl, rfl⟩)
    | (rw [Fl.canon_else c3 c8]; exact ⟨rfl, rfl⟩)
  ·
    refine C.seqK fun K6 hK6 => ?_
    refine C.region ?_
    refine O.mv ?_
    refine O.eqlF (b := 0#64) rfl rfl ?_
    refine O.asg ?_
    refine O.nil ?_
    refine hK6 _ _ ?_
    refine C.condD rfl (fun c8 => ?_) (fun c8 => ?_)
    ·
      refine C.seqK fun K7 hK7 => ?_
      refine C.region ?_
      refine O.asg ?_
      refine O.nil ?_
      refine hK7 _ _ ?_
      refine C.ret ?_
      refine Outs.one rfl rfl ?_
      first
      | (rw [Fl.canon_nan c3]; exact ⟨rfl, rfl⟩)
      | (rw [Fl.canon_zero c3 c8]; exact ⟨rfl, rfl⟩)
      | (rw [Fl.canon_else c3 c8]; exact ⟨rfl, rfl⟩)
    ·
      refine C.skip ?_
      refine hK3 _ _ ?_
      refine hK2 _ _ ?_
      refine C.seqK fun K8 hK8 => ?_
      refine C.region ?_
      refine O.mv ?_
      refine O.asg ?_
      refine O.nil ?_
      refine hK8 _ _ ?_
      refine C.ret ?_
      refine Outs.one rfl rfl ?_
      first
      | (rw [Fl.canon_nan c3]; exact ⟨rfl, rfl⟩)
      | (rw [Fl.canon_zero c3 c8]; exact ⟨rfl, rfl⟩)
      | (rw [Fl.canon_else c3 c8]; exact ⟨rfl, rfl⟩)

theorem same_spec (x y : BitVec 64) (w : World) :
    Ret Tryd.prog 20 #[fl (x), fl (y)] w (fun v w' => v = .bool (decide (Fl.cmp (Fl.canon x) (Fl.canon y) = 0)) ∧ w' = w) := by
  refine enter (args := [fl (x), fl (y)]) (n := 11) Tryd.func20 rfl rfl (Nat.le_of_ble_eq_true rfl) ?_
  refine C.seqK fun K1 hK1 => ?_
  refine C.region ?_
  refine O.asg ?_
  refine O.nil ?_
  refine hK1 _ _ ?_
  refine C.seqK fun K2 hK2 => ?_
  refine C.region ?_
  refine O.mv ?_
  refine O.call Tryd.call18 (args1 rfl) (canon_spec _ _) ?_
  rintro v_6 w1 ⟨rfl, hw_⟩
  replace hw_ := hw_.symm
  subst hw_
  refine O.mv ?_
  refine O.call Tryd.call18 (args1 rfl) (canon_spec _ _) ?_
  rintro v_8 w1 ⟨rfl, hw_⟩
  replace hw_ := hw_.symm
  subst hw_
  refine O.call Tryd.call15 (args2 rfl rfl) (cmp_spec _ _ _) ?_
  rintro v_9 w1 ⟨rfl, hw_⟩
  replace hw_ := hw_.symm
  subst hw_
  refine O.eqlI rfl rfl ?_
  refine O.asg ?_
  refine O.nil ?_
  refine hK2 _ _ ?_
  refine C.ret ?_
  refine Outs.one rfl rfl ?_
  exact ⟨rfl, rfl⟩

theorem values_spec (v0 : Value) (l : List (BitVec 64)) (F : Nat → Prop) (w : World) (hl : Sl u64E w F v0 l) (hn : l.length ≤ 1000000) :
    Ret Tryd.prog 21 #[v0] w (fun v w' => Le w w' ∧ OwnF flF 23 w.heap.size w' v l) := by
  have hle := hl.le
  obtain ⟨ie23, hi23, hs23, hb23, hz23⟩ := inf23
  refine enter (args := [v0]) (n := 20) Tryd.func21 rfl rfl (Nat.le_of_ble_eq_true rfl) ?_
  refine C.seqK fun K1 hK1 => ?_
  refine C.region ?_
  refine O.asg ?_
  refine O.nil ?_
  refine hK1 _ _ ?_
  refine C.seqK fun K2 hK2 => ?_
  refine C.region ?_
  refine O.asg ?_
  refine O.nil ?_
  refine hK2 _ _ ?_
  refine C.seqK fun K3 hK3 => ?_
  refine C.seqK fun K4 hK4 => ?_
  refine C.region ?_
  refine O.asg ?_
  refine O.nil ?_
  refine hK4 _ _ ?_
  refine C.block fun K5 hK5 => ?_
  refine C.loop0 (σ := Nat × Value) (fun f0 w0 ⟨k, o⟩ f wz => f 3 = o ∧ f 4 = .int .i64 (k) ∧ f 0 = f0 0 ∧ f 2 = f0 2 ∧ Le w wz ∧ OwnF flF 23 w.heap.size wz o (l.take k) ∧ k ≤ l.length) (fun ⟨k, o⟩ => l.length - k) (0, .slice none 0 0) ?_ ?_
  ·
    refine ⟨rfl, rfl, rfl, rfl, (Le.refl _), (OwnF.nil _ _ _ _), ?_⟩
    exact Nat.zero_le _
  ·
    rintro ⟨k, o⟩ f_1 w1 ⟨s3_1, s4_1, s0_1, s2_1, e_1, r0_1, hk⟩
    have z_1 := e_1.size
    have r0_1s := r0_1.sl
    refine C.seqK fun K6 hK6 => ?_
    refine C.seqK fun K7 hK7 => ?_
    refine C.region ?_
    refine O.mv ?_
    refine O.mv ?_
    refine O.len Tryd.underlying34 s0_1 (hl.keep e_1) ?_
    refine O.lssI s4_1 rfl ?_
    refine O.nil ?_
    refine hK7 _ _ ?_
    refine C.condD rfl (fun c8 => ?_) (fun c8 => ?_)
    ·
      refine C.skip ?_
      refine hK6 _ _ ?_
      refine C.seqK fun K8 hK8 => ?_
      refine C.block fun K9 hK9 => ?_
      refine C.region ?_
      refine O.mv ?_
      refine O.mv ?_
      refine O.mv ?_
      refine O.idx Tryd.underlying34 Tryd.sizeOf22 rfl s0_1 (hl.keep e_1) s4_1 (by omega) (fun a14 h14 => ?_)
      refine O.loadU64 Tryd.isAgg22 rfl h14 ?_
      refine O.ext ext33 (args1 rfl) (run_fromBits _) ?_
      refine O.lit1 Tryd.underlying35 hi23 hs23 hz23 rfl rfl (fun b17 w2 hb17 hz17 e2 => ?_)
      have z2 := e2.size
      have h17 := hz17.own
      have hl17 := h17.lt
      have h1017 : Sl flF.enc w2 (fun k => k = b17) _ [(l[(k : Int).toNat]'(by omega))] := Sl.one h17 rfl rfl
      refine O.appF (G := flF) Tryd.underlying35 hi23 hz23 hs23 rfl s3_1 rfl (r0_1.keep e2) h1017 (by rw [hb23, List.length_take]; show (min k l.length + 1) * 8 ≤ _; omega) (by unfold maxLen; rw [List.length_take]; show min k l.length + 1 ≤ _; omega) (by omega) (fun v18 w3 h18 e3 => ?_)
      have z3 := e3.size
      have h18s := h18.sl
      refine O.asg ?_
      refine O.nil ?_
      refine hK9 _ _ ?_
      refine hK8 _ _ ?_
      refine C.region ?_
      refine O.mv ?_
      refine O.addI s4_1 rfl (by unfold InI; omega) ?_
      refine O.asg ?_
      refine O.nil ?_
      refine ⟨(k + 1, _), ⟨rfl, rfl, s0_1, s2_1, (Ext.new (Ext.trans e_1 e2) e3 (by intro i hi h; have := (r0_1.keep e2).bk_ge i h; omega)), (by rw [List.take_succ_eq_append_getElem (show k < l.length by omega)]; exact h18), ?_⟩, by first | omega | (simp only []; omega)⟩
      omega
    ·
      refine C.exit ?_
      refine hK5 _ _ ?_
      refine hK3 _ _ ?_
      refine C.seqK fun K10 hK10 => ?_
      refine C.region ?_
      refine O.mv ?_
      refine O.asg ?_
      refine O.nil ?_
      refine hK10 _ _ ?_
      refine C.ret ?_
      refine Outs.one rfl s3_1 ?_
      obtain rfl : k = l.length := by omega
      refine ⟨e_1, ?_⟩
      have hq := r0_1
      rw [List.take_length] at hq
      exact hq

theorem bits_spec (v0 : Value) (l : List (BitVec 64)) (F : Nat → Prop) (w : World) (hl : Sl flE w F v0 l) (hn : l.length ≤ 1000000) :
    Ret Tryd.prog 24 #[v0] w (fun v w' => Le w w' ∧ OwnF u64F 22 w.heap.size w' v l) := by
  have hle := hl.le
  obtain ⟨ie22, hi22, hs22, hb22, hz22⟩ := inf22
  refine enter (args := [v0]) (n := 20) Tryd.func24 rfl rfl (Nat.le_of_ble_eq_true rfl) ?_
  refine C.seqK fun K1 hK1 => ?_
  refine C.region ?_
  refine O.asg ?_
  refine O.nil ?_
  refine hK1 _ _ ?_
  refine C.seqK fun K2 hK2 => ?_
  refine C.region ?_
  refine O.asg ?_
  refine O.nil ?_
  refine hK2 _ _ ?_
  refine C.seqK fun K3 hK3 => ?_
  refine C.seqK fun K4 hK4 => ?_
  refine C.region ?_
  refine O.asg ?_
  refine O.nil ?_
  refine hK4 _ _ ?_
  refine C.block fun K5 hK5 => ?_
  refine C.loop0 (σ := Nat × Value) (fun f0 w0 ⟨k, o⟩ f wz => f 3 = o ∧ f 4 = .int .i64 (k) ∧ f 0 = f0 0 ∧ f 2 = f0 2 ∧ Le w wz ∧ OwnF u64F 22 w.heap.size wz o (l.take k) ∧ k ≤ l.length) (fun ⟨k, o⟩ => l.length - k) (0, .slice none 0 0) ?_ ?_
  ·
    refine ⟨rfl, rfl, rfl, rfl, (Le.refl _), (OwnF.nil _ _ _ _), ?_⟩
    exact Nat.zero_le _
  ·
    rintro ⟨k, o⟩ f_1 w1 ⟨s3_1, s4_1, s0_1, s2_1, e_1, r0_1, hk⟩
    have z_1 := e_1.size
    have r0_1s := r0_1.sl
    refine C.seqK fun K6 hK6 => ?_
    refine C.seqK fun K7 hK7 => ?_
    refine C.region ?_
    refine O.mv ?_
    refine O.mv ?_
    refine O.len Tryd.underlying35 s0_1 (hl.keep e_1) ?_
    refine O.lssI s4_1 rfl ?_
    refine O.nil ?_
    refine hK7 _ _ ?_
    refine C.condD rfl (fun c8 => ?_) (fun c8 => ?_)
    ·
      refine C.skip ?_
      refine hK6 _ _ ?_
      refine C.seqK fun K8 hK8 => ?_
      refine C.block fun K9 hK9 => ?_
      refine C.region ?_
      refine O.mv ?_
      refine O.mv ?_
      refine O.mv ?_
      refine O.idx Tryd.underlying35 Tryd.sizeOf23 rfl s0_1 (hl.keep e_1) s4_1 (by omega) (fun a14 h14 => ?_)
      refine O.loadF Tryd.isAgg23 rfl h14 ?_
      refine O.ext ext32 (args1 rfl) (run_bitsOf _) ?_
      refine O.lit1 Tryd.underlying34 hi22 hs22 hz22 rfl rfl (fun b17 w2 hb17 hz17 e2 => ?_)
      have z2 := e2.size
      have h17 := hz17.own
      have hl17 := h17.lt
      have h1017 : Sl u64F.enc w2 (fun k => k = b17) _ [(l[(k : Int).toNat]'(by omega))] := Sl.one h17 rfl rfl
      refine O.appF (G := u64F) Tryd.underlying34 hi22 hz22 hs22 rfl s3_1 rfl (r0_1.keep e2) h1017 (by rw [hb22, List.length_take]; show (min k l.length + 1) * 8 ≤ _; omega) (by unfold maxLen; rw [List.length_take]; show min k l.length + 1 ≤ _; omega) (by omega) (fun v18 w3 h18 e3 => ?_)
      have z3 := e3.size
      have h18s := h18.sl
      refine O.asg ?_
      refine O.nil ?_
      refine hK9 _ _ ?_
      refine hK8 _ _ ?_
      refine C.region ?_
      refine O.mv ?_
      refine O.addI s4_1 rfl (by unfold InI; omega) ?_
      refine O.asg ?_
      refine O.nil ?_
      refine ⟨(k + 1, _), ⟨rfl, rfl, s0_1, s2_1, (Ext.new (Ext.trans e_1 e2) e3 (by intro i hi h; have := (r0_1.keep e2).bk_ge i h; omega)), (by rw [List.take_succ_eq_append_getElem (show k < l.length by omega)]; exact h18), ?_⟩, by first | omega | (simp only []; omega)⟩
      omega
    ·
      refine C.exit ?_
      refine hK5 _ _ ?_
      refine hK3 _ _ ?_
      refine C.seqK fun K10 hK10 => ?_
      refine C.region ?_
      refine O.mv ?_
      refine O.asg ?_
      refine O.nil ?_
      refine hK10 _ _ ?_
      refine C.ret ?_
      refine Outs.one rfl s3_1 ?_
      obtain rfl : k = l.length := by omega
      refine ⟨e_1, ?_⟩
      have hq := r0_1
      rw [List.take_length] at hq
      exact hq

end Go.Proofs.YtbadfphdniliaaaDoor
