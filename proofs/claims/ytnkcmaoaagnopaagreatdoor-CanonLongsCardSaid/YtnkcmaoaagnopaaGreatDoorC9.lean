/-
  The walks of the reference's bytes of carts. Conditions: slices as they lie in memory.
-/
import Derived.Test.YtnkcmaoaagnopaaGreatDoorC8
namespace Go.Proofs.YtnkcmaoaagnopaaGreatDoor
open Go.Pn Go.RowKit Go.Proofs
attribute [local irreducible] O C D

theorem inf49 : ∃ ie, Tryz.prog.info? 49 = some ie ∧ ie.size = 1 ∧ ie.bytes = 8 ∧ ie.zero = some (.int .u64 0) := by
  have h : (Tryz.prog.info? 49).isSome = true := by kernel_rfl
  exact ⟨(Tryz.prog.info? 49).get h, (Option.some_get h).symm, by kernel_rfl, by kernel_rfl, by kernel_rfl⟩
theorem rnum_a_spec (n : BitVec 64) (w : World) (ih : ∀ m : BitVec 64, m.toNat < n.toNat → ∀ w : World, Ret Tryz.prog 33 #[.int .u64 (m.toNat : Int)] w (fun v w' => Le w w' ∧ OwnF byteF 5 w.heap.size w' v (Cn.num m.toNat))) :
    Ret Tryz.prog 33 #[.int .u64 ((n).toNat : Int)] w (fun v w' => Le w w' ∧ OwnF byteF 5 w.heap.size w' v (Cn.num n.toNat)) := by
  obtain ⟨ie5, ti5, ts5, tb5, tz5⟩ := inf5
  refine enter (args := [.int .u64 ((n).toNat : Int)]) (n := 17) Tryz.func33 rfl rfl (Nat.le_of_ble_eq_true rfl) ?_
  refine C.seqK fun K1 hK1 => ?_
  refine C.region ?_
  refine O.asg ?_
  refine O.nil ?_
  refine hK1 _ _ ?_
  refine C.seqK fun K2 hK2 => ?_
  refine C.seqK fun K3 hK3 => ?_
  refine C.region ?_
  refine O.mv ?_
  refine O.lssU (m := 64) (b := 128#64) rfl rfl ?_
  refine O.nil ?_
  refine hK3 _ _ ?_
  refine C.condD rfl (fun c4 => ?_) (fun c4 => ?_)
  ·
    have hs4 : n.toNat < 128 := by simpa [BitVec.lt_def] using c4
    refine C.seqK fun K4 hK4 => ?_
    refine C.region ?_
    refine O.mv ?_
    refine O.convUU (m := 64) (m' := 8) Tryz.underlying49 Tryz.underlying5 rfl rfl rfl ?_
    refine O.lit1 Tryz.underlying32 ti5 ts5 tz5 rfl rfl (fun b7 w1 hb7 hz7 e1 => ?_)
    have z1 := e1.size
    have h7 := hz7.own
    have hl7 := h7.lt
    have h1007 : OwnF byteF 5 w.heap.size w1 _ [UInt8.ofBitVec (n.setWidth 8)] := OwnF.lit1 rfl hz7 rfl (by omega)
    refine O.asg ?_
    refine O.nil ?_
    refine hK4 _ _ ?_
    refine C.ret ?_
    refine Outs.one rfl rfl ?_
    first
    | exact ⟨e1, h1007.lst (Cn.num_last hs4).symm⟩
    | exact ⟨e1, ({app:16}).lst (Cn.num_step2 hs4).symm⟩
  ·
    have hs4 : ¬ n.toNat < 128 := by simpa [BitVec.lt_def, BitVec.le_def] using c4
    have hlt : (n / 128#64).toNat < n.toNat := by rw [BitVec.toNat_udiv]; show n.toNat / 128 < n.toNat; omega
    refine C.skip ?_
    refine hK2 _ _ ?_
    refine C.seqK fun K5 hK5 => ?_
    refine C.region ?_
    refine O.mv ?_
    refine O.remU (m := 64) (b := 128#64) rfl rfl rfl rfl (by decide) ?_
    refine O.addU (m := 64) (a := 128#64) rfl rfl rfl rfl ?_
    refine O.convUU (m := 64) (m' := 8) Tryz.underlying49 Tryz.underlying5 rfl rfl rfl ?_
    refine O.lit1 Tryz.underlying32 ti5 ts5 tz5 rfl rfl (fun b12 w2 hb12 hz12 e2 => ?_)
    have z2 := e2.size
    have h12 := hz12.own
    have hl12 := h12.lt
    have h1012 : OwnF byteF 5 w.heap.size w2 _ [UInt8.ofBitVec ((128#64 + n % 128#64).setWidth 8)] := OwnF.lit1 rfl hz12 rfl (by omega)
    refine O.mv ?_
    refine O.quoU (m := 64) (b := 128#64) rfl rfl rfl rfl (by decide) ?_
    refine O.call Tryz.call33 (args1 rfl) (ih (n / 128#64) hlt _) ?_
    rintro v_15 w3 ⟨e3, h15⟩
    have z3 := e3.size
    have h15s := h15.sl
    refine O.appF (G := byteF) Tryz.underlying32 ti5 tz5 ts5 rfl rfl rfl (h1012.keep e3) h15s (by rw [tb5]; have := Cn.num_u (n / 128#64); simp only [List.length_cons, List.length_nil]; omega) (by unfold maxLen; have := Cn.num_u (n / 128#64); simp only [List.length_cons, List.length_nil]; omega) (by omega) (fun v16 w4 h16 e4 => ?_)
    have z4 := e4.size
    have h16s := h16.sl
    refine O.asg ?_
    refine O.nil ?_
    refine hK5 _ _ ?_
    refine C.ret ?_
    refine Outs.one rfl rfl ?_
    first
    | exact ⟨(Ext.new (Ext.trans e2 e3) e4 (by intro i hi h; have := (h1012.keep e3).bk_ge i h; omega)), h1007.lst (Cn.num_last hs4).symm⟩
    | exact ⟨(Ext.new (Ext.trans e2 e3) e4 (by intro i hi h; have := (h1012.keep e3).bk_ge i h; omega)), (h16).lst (Cn.num_step2 hs4).symm⟩


theorem rnum_spec (n : BitVec 64) (w : World) : Ret Tryz.prog 33 #[.int .u64 (n.toNat : Int)] w (fun v w' => Le w w' ∧ OwnF byteF 5 w.heap.size w' v (Cn.num n.toNat)) := by
  have key : ∀ (k : Nat) (n : BitVec 64), n.toNat = k → ∀ w : World, Ret Tryz.prog 33 #[.int .u64 (n.toNat : Int)] w (fun v w' => Le w w' ∧ OwnF byteF 5 w.heap.size w' v (Cn.num n.toNat)) := by
    intro k
    induction k using Nat.strongRecOn with
    | _ k ih => exact fun n hn w => rnum_a_spec n w fun m hm w => ih m.toNat (hn ▸ hm) m rfl w
  exact key _ n rfl w

set_option maxHeartbeats 2000000 in
theorem rdots_spec (v0 : Value) (l : List Dt.Dot) (F : Nat → Prop) (w : World) (hl : Sl Dt.dotF.enc w F v0 l) (hn : l.length ≤ 1000000) :
    Ret Tryz.prog 44 #[v0] w (fun v w' => Le w w' ∧ OwnF byteF 5 w.heap.size w' v (Cn.dotsB l)) := by
  have hle := hl.le
  have hnl := Cn.num_le l.length (by omega)
  obtain ⟨ie5, ti5, ts5, tb5, tz5⟩ := inf5
  refine enter (args := [v0]) (n := 33) Tryz.func44 rfl rfl (Nat.le_of_ble_eq_true rfl) ?_
  refine C.seqK fun K1 hK1 => ?_
  refine C.region ?_
  refine O.asg ?_
  refine O.nil ?_
  refine hK1 _ _ ?_
  refine C.seqK fun K2 hK2 => ?_
  refine C.region ?_
  refine O.mv ?_
  refine O.len Tryz.underlying22 rfl hl ?_
  refine O.convIU (m' := 64) Tryz.underlying3 Tryz.underlying49 rfl rfl rfl ?_
  refine O.call Tryz.call33 (args1 rfl) (rnum_spec (BitVec.ofInt 64 (l.length : Int)) _) ?_
  rintro v_8 w1 ⟨e1, h8⟩
  have z1 := e1.size
  rw [Cn.u_def, Cn.u_nat (by omega)] at h8
  refine O.asg ?_
  refine O.nil ?_
  refine hK2 _ _ ?_
  refine C.seqK fun K3 hK3 => ?_
  refine C.seqK fun K4 hK4 => ?_
  refine C.region ?_
  refine O.asg ?_
  refine O.nil ?_
  refine hK4 _ _ ?_
  refine C.block fun K5 hK5 => ?_
  refine C.loop0 (σ := Nat × Value) (fun f0 w0 ⟨k, o⟩ f wz => f 3 = o ∧ f 4 = .int .i64 (k) ∧ f 0 = f0 0 ∧ f 2 = f0 2 ∧ Le w wz ∧ OwnF byteF 5 w.heap.size wz o (Cn.num l.length ++ (l.take k).flatMap Cn.dotB) ∧ k ≤ l.length) (fun ⟨k, o⟩ => l.length - k) (0, v_8) ?_ ?_
  ·
    refine ⟨rfl, rfl, rfl, rfl, e1, ((h8).lst (by simp)), ?_⟩
    exact Nat.zero_le _
  ·
    rintro ⟨k, o⟩ f_1 w2 ⟨s3_1, s4_1, s0_1, s2_1, e_1, r0_1, hk⟩
    have z_1 := e_1.size
    have r0_1s := r0_1.sl
    have hfl := Cn.flatMap_take_le (f := Cn.dotB) (b := 20) (l := l) (fun x _ => Cn.dotB_le x) hk
    refine C.seqK fun K6 hK6 => ?_
    refine C.seqK fun K7 hK7 => ?_
    refine C.region ?_
    refine O.mv ?_
    refine O.mv ?_
    refine O.len Tryz.underlying22 s0_1 (hl.keep e_1) ?_
    refine O.lssI s4_1 rfl ?_
    refine O.nil ?_
    refine hK7 _ _ ?_
    refine C.condD rfl (fun c12 => ?_) (fun c12 => ?_)
    ·
      have hk2 : k < l.length := by omega
      have hn1 := Cn.num_u (BitVec.ofInt 64 (l[k]'hk2).1)
      have hn2 := Cn.num_u (BitVec.ofInt 64 (l[k]'hk2).2)
      refine C.skip ?_
      refine hK6 _ _ ?_
      refine C.seqK fun K8 hK8 => ?_
      refine C.block fun K9 hK9 => ?_
      refine C.drawB (wB := w) (by kernel_rfl) fun w3 e3 => ?_
      have z3 := e3.size
      refine D.take (i := 0) rfl rfl rfl rfl (by kernel_rfl) (Ext.trans e_1 e3) ⟨pure _, rfl⟩ (fun w_ hw_ N_ hN => (O.mv (O.nil hN))) ?_
      refine D.take (i := 1) rfl rfl rfl rfl (by kernel_rfl) (Ext.trans e_1 e3) ⟨pure _, rfl⟩ (fun w_ hw_ N_ hN => (O.mv (O.nil hN))) ?_
      refine D.take (i := 2) rfl rfl rfl rfl (by kernel_rfl) (Ext.trans e_1 e3) ⟨pure _, rfl⟩ (fun w_ hw_ N_ hN => (O.mv (O.nil hN))) ?_
      obtain ⟨a18, h18, hr18⟩ := Sl.at (i := (k : Int)) (P := Tryz.prog) Tryz.underlying22 Tryz.sizeOf51 rfl hl (by omega)
      refine D.take (i := 3) rfl rfl rfl rfl (by kernel_rfl) (Ext.trans e_1 e3) ⟨_, rfl⟩ (fun w_ hw_ N_ hN => (O.idxR s0_1 s4_1 hr18 (O.nil hN))) ?_
      refine D.take (i := 4) rfl rfl rfl rfl (by kernel_rfl) (Ext.trans e_1 e3) ⟨_, rfl⟩ (fun w_ hw_ N_ hN => (O.fieldAt Tryz.underlying51 rfl Tryz.sizeOf3 (by decide) rfl (O.nil hN))) ?_
      refine D.take (i := 5) rfl rfl rfl rfl (by kernel_rfl) (Ext.trans e_1 e3) ⟨_, rfl⟩ (fun w_ hw_ N_ hN => (O.loadAtF (G := Dt.dotF) Tryz.isAgg3 rfl rfl (h18.keep hw_) (O.nil hN))) ?_
      refine D.take (i := 6) rfl rfl rfl rfl (by kernel_rfl) (Ext.trans e_1 e3) ⟨_, rfl⟩ (fun w_ hw_ N_ hN => (O.convIU (m' := 64) Tryz.underlying3 Tryz.underlying49 rfl rfl rfl (O.nil hN))) ?_
      refine D.take (i := 9) rfl rfl rfl rfl (by kernel_rfl) (Ext.trans e_1 e3) ⟨pure _, rfl⟩ (fun w_ hw_ N_ hN => (O.mv (O.nil hN))) ?_
      refine D.take (i := 10) rfl rfl rfl rfl (by kernel_rfl) (Ext.trans e_1 e3) ⟨pure _, rfl⟩ (fun w_ hw_ N_ hN => (O.mv (O.nil hN))) ?_
      obtain ⟨a26, h26, hr26⟩ := Sl.at (i := (k : Int)) (P := Tryz.prog) Tryz.underlying22 Tryz.sizeOf51 rfl hl (by omega)
      refine D.take (i := 11) rfl rfl rfl rfl (by kernel_rfl) (Ext.trans e_1 e3) ⟨_, rfl⟩ (fun w_ hw_ N_ hN => (O.idxR s0_1 s4_1 hr26 (O.nil hN))) ?_
      refine D.take (i := 12) rfl rfl rfl rfl (by kernel_rfl) (Ext.trans e_1 e3) ⟨_, rfl⟩ (fun w_ hw_ N_ hN => (O.fieldAt Tryz.underlying51 rfl Tryz.sizeOf3 (by decide) rfl (O.nil hN))) ?_
      refine D.take (i := 13) rfl rfl rfl rfl (by kernel_rfl) (Ext.trans e_1 e3) ⟨_, rfl⟩ (fun w_ hw_ N_ hN => (O.loadAtF (G := Dt.dotF) Tryz.isAgg3 rfl rfl (h26.keep hw_) (O.nil hN))) ?_
      refine D.take (i := 14) rfl rfl rfl rfl (by kernel_rfl) (Ext.trans e_1 e3) ⟨_, rfl⟩ (fun w_ hw_ N_ hN => (O.convIU (m' := 64) Tryz.underlying3 Tryz.underlying49 rfl rfl rfl (O.nil hN))) ?_
      refine D.one (i := 7) rfl rfl (by kernel_rfl) ?_
      refine O.call Tryz.call33 (args1 rfl) (rnum_spec (BitVec.ofInt 64 (l[k]'hk2).1) _) ?_
      rintro v_22 w4 ⟨e4, h22⟩
      have z4 := e4.size
      refine O.nil ⟨(Ext.trans (Ext.trans e_1 e3) e4), ?_⟩
      have h22s := h22.sl
      refine D.one (i := 8) rfl rfl (by kernel_rfl) ?_
      refine O.appF (G := byteF) Tryz.underlying32 ti5 tz5 ts5 rfl s3_1 rfl ((r0_1.keep e3).keep e4) h22s (by rw [tb5]; (try simp only [List.length_append]); omega) (by unfold maxLen; (try simp only [List.length_append]); omega) (by omega) (fun v23 w5 h23 e5 => ?_)
      have z5 := e5.size
      have h23s := h23.sl
      refine O.nil ⟨(Ext.new (Ext.trans (Ext.trans e_1 e3) e4) e5 (by intro i hi h; have := ((r0_1.keep e3).keep e4).bk_ge i h; omega)), ?_⟩
      refine D.one (i := 15) rfl rfl (by kernel_rfl) ?_
      refine O.call Tryz.call33 (args1 rfl) (rnum_spec (BitVec.ofInt 64 (l[k]'hk2).2) _) ?_
      rintro v_30 w6 ⟨e6, h30⟩
      have z6 := e6.size
      refine O.nil ⟨(Ext.trans (Ext.new (Ext.trans (Ext.trans e_1 e3) e4) e5 (by intro i hi h; have := ((r0_1.keep e3).keep e4).bk_ge i h; omega)) e6), ?_⟩
      have h30s := h30.sl
      refine D.one (i := 16) rfl rfl (by kernel_rfl) ?_
      refine O.appF (G := byteF) Tryz.underlying32 ti5 tz5 ts5 rfl rfl rfl (h23.keep e6) h30s (by rw [tb5]; (try simp only [List.length_append]); omega) (by unfold maxLen; (try simp only [List.length_append]); omega) (by omega) (fun v31 w7 h31 e7 => ?_)
      have z7 := e7.size
      have h31s := h31.sl
      refine O.nil ⟨(Ext.new (Ext.trans (Ext.new (Ext.trans (Ext.trans e_1 e3) e4) e5 (by intro i hi h; have := ((r0_1.keep e3).keep e4).bk_ge i h; omega)) e6) e7 (by intro i hi h; have := (h23.keep e6).bk_ge i h; omega)), ?_⟩
      refine D.take (i := 17) rfl rfl rfl rfl (by kernel_rfl) (Ext.new (Ext.trans (Ext.new (Ext.trans (Ext.trans e_1 e3) e4) e5 (by intro i hi h; have := ((r0_1.keep e3).keep e4).bk_ge i h; omega)) e6) e7 (by intro i hi h; have := (h23.keep e6).bk_ge i h; omega)) ⟨pure _, rfl⟩ (fun w_ hw_ N_ hN => (O.asg (O.nil hN))) ?_
      refine D.done (by kernel_rfl) ?_
      refine hK9 _ _ ?_
      refine hK8 _ _ ?_
      refine C.region ?_
      refine O.mv ?_
      refine O.addI s4_1 rfl (by unfold InI; omega) ?_
      refine O.asg ?_
      refine O.nil ?_
      refine ⟨(k + 1, _), ⟨rfl, rfl, s0_1, s2_1, (Ext.new (Ext.trans (Ext.new (Ext.trans (Ext.trans e_1 e3) e4) e5 (by intro i hi h; have := ((r0_1.keep e3).keep e4).bk_ge i h; omega)) e6) e7 (by intro i hi h; have := (h23.keep e6).bk_ge i h; omega)), ((h31).lst (by rw [Cn.flatMap_take _ hk2, Cn.u_def, Cn.u_def]; unfold Cn.dotB; simp only [List.append_assoc])), ?_⟩, by first | omega | (simp only []; omega)⟩
      omega
    ·
      refine C.exit ?_
      refine hK5 _ _ ?_
      refine hK3 _ _ ?_
      refine C.seqK fun K10 hK10 => ?_
      refine C.region ?_
      refine O.mv ?_
      refine O.asg ?_
      refine O.nil ?_
      refine hK10 _ _ ?_
      refine C.ret ?_
      refine Outs.one rfl s3_1 ?_
      obtain rfl : k = l.length := by omega
      rw [List.take_length] at r0_1
      exact ⟨e_1, r0_1⟩

theorem rctx_spec (v1 v2 : Value) (x : Cn.Ctx) (F : Nat → Prop) (w : World) (hv : Sl Dt.dotF.enc w F v1 x.1) (hc : Sl Dt.dotF.enc w F v2 x.2) (hn1 : x.1.length ≤ 1000000) (hn2 : x.2.length ≤ 1000000) :
    Ret Tryz.prog 18 #[.agg #[v1, v2]] w (fun v w' => Le w w' ∧ OwnF byteF 5 w.heap.size w' v (Cn.ctxB x)) := by
  have hd1 := Cn.dotsB_le hn1
  have hd2 := Cn.dotsB_le hn2
  obtain ⟨ie5, ti5, ts5, tb5, tz5⟩ := inf5
  refine enter (args := [.agg #[v1, v2]]) (n := 10) Tryz.func18 rfl rfl (Nat.le_of_ble_eq_true rfl) ?_
  refine C.seqK fun K1 hK1 => ?_
  refine C.region ?_
  refine O.box (v := .agg #[v1, v2]) rfl (fun b1 w1 hb1 hz1 e1 => ?_)
  have z1 := e1.size
  have h1 := hz1.own
  have hl1 := h1.lt
  refine O.asg ?_
  refine O.nil ?_
  refine hK1 _ _ ?_
  refine C.seqK fun K2 hK2 => ?_
  refine C.draw (by kernel_rfl) fun w2 e2 => ?_
  have z2 := e2.size
  refine D.take (i := 0) rfl rfl rfl rfl (by kernel_rfl) (Le.refl _) ⟨_, rfl⟩ (fun w_ hw_ N_ hN => (O.fieldAd Tryz.underlying25 rfl Tryz.sizeOf23 (by decide) rfl (O.nil hN))) ?_
  refine D.take (i := 1) rfl rfl rfl rfl (by kernel_rfl) (Le.refl _) ⟨_, rfl⟩ (fun w_ hw_ N_ hN => (O.loadO Tryz.isAgg23 rfl ((h1.keep e2).keep hw_) rfl (O.nil hN))) ?_
  refine D.take (i := 3) rfl rfl rfl rfl (by kernel_rfl) (Le.refl _) ⟨_, rfl⟩ (fun w_ hw_ N_ hN => (O.fieldAd Tryz.underlying25 rfl Tryz.sizeOf22 (by decide) rfl (O.nil hN))) ?_
  refine D.take (i := 4) rfl rfl rfl rfl (by kernel_rfl) (Le.refl _) ⟨_, rfl⟩ (fun w_ hw_ N_ hN => (O.loadO Tryz.isAgg22 rfl ((h1.keep e2).keep hw_) rfl (O.nil hN))) ?_
  refine D.one (i := 2) rfl rfl (by kernel_rfl) ?_
  refine O.call Tryz.call44 (args1 rfl) (rdots_spec v1 x.1 F _ ((hv.keep e1).keep e2) hn1) ?_
  rintro v_5 w3 ⟨e3, h5⟩
  have z3 := e3.size
  refine O.nil ⟨e3, ?_⟩
  have h5s := h5.sl
  refine D.one (i := 5) rfl rfl (by kernel_rfl) ?_
  refine O.call Tryz.call44 (args1 rfl) (rdots_spec v2 x.2 F _ (((hc.keep e1).keep e2).keep e3) hn2) ?_
  rintro v_8 w4 ⟨e4, h8⟩
  have z4 := e4.size
  refine O.nil ⟨(Ext.trans e3 e4), ?_⟩
  have h8s := h8.sl
  refine D.one (i := 6) rfl rfl (by kernel_rfl) ?_
  refine O.appF (G := byteF) Tryz.underlying32 ti5 tz5 ts5 rfl rfl rfl (h5.keep e4) h8s (by rw [tb5]; (try simp only [List.length_append]); omega) (by unfold maxLen; (try simp only [List.length_append]); omega) (by omega) (fun v9 w5 h9 e5 => ?_)
  have z5 := e5.size
  have h9s := h9.sl
  refine O.nil ⟨(Ext.new (Ext.trans e3 e4) e5 (by intro i hi h; have := (h5.keep e4).bk_ge i h; omega)), ?_⟩
  refine D.take (i := 7) rfl rfl rfl rfl (by kernel_rfl) (Ext.new (Ext.trans e3 e4) e5 (by intro i hi h; have := (h5.keep e4).bk_ge i h; omega)) ⟨pure _, rfl⟩ (fun w_ hw_ N_ hN => (O.asg (O.nil hN))) ?_
  refine D.done (by kernel_rfl) ?_
  refine hK2 _ _ ?_
  refine C.ret ?_
  refine Outs.one rfl rfl ?_
  exact ⟨(Ext.new (Ext.trans (Ext.trans (Ext.trans e1 e2) e3) e4) e5 (by intro i hi h; have := (h5.keep e4).bk_ge i h; omega)), h9.low (by omega)⟩

theorem rstr_spec (s : List UInt8) (w : World) (hn : s.length ≤ 1000000) :
    Ret Tryz.prog 49 #[str (s)] w (fun v w' => Le w w' ∧ OwnF byteF 5 w.heap.size w' v (Cn.strB s)) := by
  have hnl := Cn.num_le s.length (by omega)
  obtain ⟨ie5, ti5, ts5, tb5, tz5⟩ := inf5
  refine enter (args := [str (s)]) (n := 9) Tryz.func49 rfl rfl (Nat.le_of_ble_eq_true rfl) ?_
  refine C.seqK fun K1 hK1 => ?_
  refine C.region ?_
  refine O.asg ?_
  refine O.nil ?_
  refine hK1 _ _ ?_
  refine C.seqK fun K2 hK2 => ?_
  refine C.region ?_
  refine O.mv ?_
  refine O.lenS Tryz.underlying9 rfl ?_
  refine O.convIU (m' := 64) Tryz.underlying3 Tryz.underlying49 rfl rfl rfl ?_
  refine O.call Tryz.call33 (args1 rfl) (rnum_spec (BitVec.ofInt 64 (s.length : Int)) _) ?_
  rintro v_6 w1 ⟨e1, h6⟩
  have z1 := e1.size
  rw [Cn.u_def, Cn.u_nat (by omega)] at h6
  refine O.mv ?_
  refine O.appS Tryz.underlying32 Tryz.underlying9 ti5 tz5 ts5 tb5 rfl rfl h6 (by omega) (by unfold maxLen; omega) (by omega) (fun v8 w2 h8 e2 => ?_)
  have z2 := e2.size
  have h8s := h8.sl
  refine O.asg ?_
  refine O.nil ?_
  refine hK2 _ _ ?_
  refine C.ret ?_
  refine Outs.one rfl rfl ?_
  exact ⟨(Ext.new e1 e2 (by intro i hi h; have := h6.bk_ge i h; omega)), h8.low (by omega)⟩

end Go.Proofs.YtnkcmaoaagnopaaGreatDoor
