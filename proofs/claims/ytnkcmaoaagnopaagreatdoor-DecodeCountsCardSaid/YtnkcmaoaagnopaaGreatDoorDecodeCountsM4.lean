/-
  The walks of the package of carts' bytes. Conditions: slices as they lie in memory.
-/
import Derived.Test.YtnkcmaoaagnopaaGreatDoorDecodeCountsM3
import Derived.Test.YtnkcmaoaagnopaaGreatDoorDecodeCountsM2
import Derived.Test.YtnkcmaoaagnopaaGreatDoorDecodeCountsM1
import Derived.Test.YtnkcmaoaagnopaaGreatDoorCards
import Derived.Test.YtnkcmaoaagnopaaGreatDoorTie
section
namespace Go.Proofs.YtnkcmaoaagnopaaGreatDoor
open Go.Pn Go.RowKit Go.Proofs
attribute [local irreducible] O C D

set_option maxHeartbeats 1000000 in
theorem append_spec (v0 : Value) (bs : List UInt8) (F2 : Nat → Prop) (va1 va2 va3 : Value) (a : Cn.Cart) (F : Nat → Prop) (w : World) (hb : Sl byteE w F2 v0 bs) (hbn : bs.length ≤ 1000000) (hav : Sl Dt.dotF.enc w F va1 a.1.1) (hac : Sl Dt.dotF.enc w F va2 a.1.2) (hai : Sl itemE w F va3 a.2) (hF : ∀ k, F k → k < w.heap.size) (hn : a.2.length ≤ 1000000) (hS : ∀ x ∈ a.2, x.1.length ≤ 1000000 ∧ x.2.length ≤ 1000000) (hp : a.1.1.length ≤ 1000000) (hq : a.1.2.length ≤ 1000000) (mx : Mx w) :
    Ret Tryz.prog 23 #[v0, .agg #[va1, va2, va3]] w (fun v w' => ∃ r : Value, v = .tuple #[r, .int .i64 (if Cn.valid a then 0 else 2)] ∧ OwnF byteF 5 w.heap.size w' r (if Cn.valid a then bs ++ Cn.bytes a else []) ∧ Le w w') := by
  have hbl := Cn.bytes_le hn hS hp hq
  refine enter (args := [v0, .agg #[va1, va2, va3]]) (n := 15) Tryz.func23 rfl rfl (Nat.le_of_ble_eq_true rfl) ?_
  refine C.seqK fun K1 hK1 => ?_
  refine C.region ?_
  refine O.box (v := .agg #[va1, va2, va3]) rfl (fun b3 w1 hb3 hz3 e1 => ?_)
  have z1 := e1.size
  have h3 := hz3.own
  have hl3 := h3.lt
  refine O.asg ?_
  refine O.asg ?_
  refine O.nil ?_
  refine hK1 _ _ ?_
  refine C.seqK fun K2 hK2 => ?_
  refine C.seqK fun K3 hK3 => ?_
  refine C.region ?_
  refine O.loadOA Tryz.isAgg28 Tryz.sizeOf28 rfl h3 (Nat.le_of_ble_eq_true rfl) ?_
  refine O.call Tryz.call19 (args1 rfl) (cartValid_spec va1 va2 va3 a F _ (hav.keep e1) (hac.keep e1) (hai.keep e1) (fun k hk => by have q1 := hF k hk; omega) hn hS (mx.keep e1)) ?_
  rintro v_8 w2 ⟨rfl, e2⟩
  have z2 := e2.size
  refine O.not rfl ?_
  refine O.nil ?_
  refine hK3 _ _ ?_
  refine C.cond rfl (fun c9 => ?_) (fun c9 => ?_)
  ·
    have hva : Cn.valid a = false := by simpa using c9
    refine C.seqK fun K4 hK4 => ?_
    refine C.region ?_
    refine O.asg ?_
    refine O.asg ?_
    refine O.nil ?_
    refine hK4 _ _ ?_
    refine C.ret ?_
    refine Outs.two rfl rfl rfl ?_
    first
    | (refine ⟨_, by rw [hva]; rfl, ?_, (Ext.trans e1 e2)⟩
       rw [hva]
       exact OwnF.nil _ _ _ _)
    | (refine ⟨_, by rw [hva]; rfl, ?_, (Ext.trans e1 e2)⟩
       rw [hva]
       exact (({app:14}).low (by omega)).lst rfl)
  ·
    have hva : Cn.valid a = true := by simpa using c9
    refine C.skip ?_
    refine hK2 _ _ ?_
    refine C.seqK fun K5 hK5 => ?_
    refine C.region ?_
    refine O.alloc Tryz.zeroValue77 (fun b6 w3 hb6 hz6 e3 => ?_)
    have z3 := e3.size
    have h6 := hz6.own
    have hl6 := h6.lt
    have hwr6 : Wr 77 5 w3 b6 b6 [] := Wr.new h6
    refine O.nil ?_
    refine hK5 _ _ ?_
    refine C.seqK fun K6 hK6 => ?_
    refine C.region ?_
    refine O.mv ?_
    refine O.call Tryz.call50 (args2 rfl rfl) (wput_spec b6 b6 [] v0 bs F2 _ hwr6 (by simp) (((hb.keep e1).keep e2).keep e3) (by omega)) ?_
    rintro v_11 w4 ⟨rfl, gv11, hv11, hgv11, hlv11, e4⟩
    have z4 := e4.size
    refine O.nil ?_
    refine hK6 _ _ ?_
    refine C.seqK fun K7 hK7 => ?_
    refine C.region ?_
    refine O.loadOA Tryz.isAgg28 Tryz.sizeOf28 rfl (((h3.keep e2).keep e3).keepM e4 (by intro h; (try dsimp only at h); omega)) (Nat.le_of_ble_eq_true rfl) ?_
    refine O.call Tryz.call51 (args2 rfl rfl) (whole_spec b6 gv11 _ va1 va2 va3 a F _ (hav.keep (Ext.new (Ext.trans (Ext.trans e1 e2) e3) e4 (by intro i hi h; (try dsimp only at h); omega))) (hac.keep (Ext.new (Ext.trans (Ext.trans e1 e2) e3) e4 (by intro i hi h; (try dsimp only at h); omega))) (hai.keep (Ext.new (Ext.trans (Ext.trans e1 e2) e3) e4 (by intro i hi h; (try dsimp only at h); omega))) hv11 (by simp; omega) (fun k hk => by have q1 := hF k hk; omega) hn hS hp hq) ?_
    rintro v_13 w5 ⟨rfl, gv13, hv13, hgv13, hlv13, e5⟩
    have z5 := e5.size
    refine O.nil ?_
    refine hK7 _ _ ?_
    refine C.seqK fun K8 hK8 => ?_
    refine C.region ?_
    refine O.call Tryz.call39 (args1 rfl) (wbytes_spec b6 gv13 _ _ hv13 (by simp only [List.length_append, List.length_nil]; omega)) ?_
    rintro v_14 w6 ⟨e6, h14⟩
    have z6 := e6.size
    refine O.asg ?_
    refine O.asg ?_
    refine O.nil ?_
    refine hK8 _ _ ?_
    refine C.ret ?_
    refine Outs.two rfl rfl rfl ?_
    first
    | (refine ⟨_, by rw [hva]; rfl, ?_, (Ext.trans (Ext.new (Ext.new (Ext.trans (Ext.trans e1 e2) e3) e4 (by intro i hi h; (try dsimp only at h); omega)) e5 (by intro i hi h; (try dsimp only at h); omega)) e6)⟩
       rw [hva]
       exact OwnF.nil _ _ _ _)
    | (refine ⟨_, by rw [hva]; rfl, ?_, (Ext.trans (Ext.new (Ext.new (Ext.trans (Ext.trans e1 e2) e3) e4 (by intro i hi h; (try dsimp only at h); omega)) e5 (by intro i hi h; (try dsimp only at h); omega)) e6)⟩
       rw [hva]
       exact ((h14).low (by omega)).lst rfl)

theorem encode_spec (va1 va2 va3 : Value) (a : Cn.Cart) (F : Nat → Prop) (w : World) (hav : Sl Dt.dotF.enc w F va1 a.1.1) (hac : Sl Dt.dotF.enc w F va2 a.1.2) (hai : Sl itemE w F va3 a.2) (hF : ∀ k, F k → k < w.heap.size) (hn : a.2.length ≤ 1000000) (hS : ∀ x ∈ a.2, x.1.length ≤ 1000000 ∧ x.2.length ≤ 1000000) (hp : a.1.1.length ≤ 1000000) (hq : a.1.2.length ≤ 1000000) (mx : Mx w) :
    Ret Tryz.prog 27 #[.agg #[va1, va2, va3]] w (fun v w' => ∃ r : Value, v = .tuple #[r, .int .i64 (if Cn.valid a then 0 else 2)] ∧ OwnF byteF 5 w.heap.size w' r (if Cn.valid a then Cn.bytes a else []) ∧ Le w w') := by
  refine enter (args := [.agg #[va1, va2, va3]]) (n := 8) Tryz.func27 rfl rfl (Nat.le_of_ble_eq_true rfl) ?_
  refine C.seqK fun K1 hK1 => ?_
  refine C.region ?_
  refine O.box (v := .agg #[va1, va2, va3]) rfl (fun b1 w1 hb1 hz1 e1 => ?_)
  have z1 := e1.size
  have h1 := hz1.own
  have hl1 := h1.lt
  refine O.asg ?_
  refine O.asg ?_
  refine O.nil ?_
  refine hK1 _ _ ?_
  refine C.seqK fun K2 hK2 => ?_
  refine C.region ?_
  refine O.loadOA Tryz.isAgg28 Tryz.sizeOf28 rfl h1 (Nat.le_of_ble_eq_true rfl) ?_
  refine O.call Tryz.call23 (args2 rfl rfl) (append_spec (.slice none 0 0) [] (fun _ => False) va1 va2 va3 a F _ (Sl.nil _ _ _) (by simp) (hav.keep e1) (hac.keep e1) (hai.keep e1) (fun k hk => by have q1 := hF k hk; omega) hn hS hp hq (mx.keep e1)) ?_
  rintro v_5 w2 ⟨rv5, rfl, hv5, e2⟩
  have z2 := e2.size
  refine O.extract rfl rfl ?_
  refine O.extract rfl rfl ?_
  refine O.asg ?_
  refine O.asg ?_
  refine O.nil ?_
  refine hK2 _ _ ?_
  refine C.ret ?_
  refine Outs.two rfl rfl rfl ?_
  exact ⟨_, rfl, hv5.low (by omega), (Ext.trans e1 e2)⟩

theorem size_spec (va1 va2 va3 : Value) (a : Cn.Cart) (F : Nat → Prop) (w : World) (hav : Sl Dt.dotF.enc w F va1 a.1.1) (hac : Sl Dt.dotF.enc w F va2 a.1.2) (hai : Sl itemE w F va3 a.2) (hF : ∀ k, F k → k < w.heap.size) (hn : a.2.length ≤ 1000000) (hS : ∀ x ∈ a.2, x.1.length ≤ 1000000 ∧ x.2.length ≤ 1000000) (hp : a.1.1.length ≤ 1000000) (hq : a.1.2.length ≤ 1000000) (mx : Mx w) :
    Ret Tryz.prog 24 #[.agg #[va1, va2, va3]] w (fun v w' => v = .tuple #[.int .i64 (if Cn.valid a then ((Cn.bytes a).length : Int) else 0), .int .i64 (if Cn.valid a then 0 else 2)] ∧ Le w w') := by
  refine enter (args := [.agg #[va1, va2, va3]]) (n := 14) Tryz.func24 rfl rfl (Nat.le_of_ble_eq_true rfl) ?_
  refine C.seqK fun K1 hK1 => ?_
  refine C.region ?_
  refine O.box (v := .agg #[va1, va2, va3]) rfl (fun b1 w1 hb1 hz1 e1 => ?_)
  have z1 := e1.size
  have h1 := hz1.own
  have hl1 := h1.lt
  refine O.asg ?_
  refine O.asg ?_
  refine O.nil ?_
  refine hK1 _ _ ?_
  refine C.seqK fun K2 hK2 => ?_
  refine C.region ?_
  refine O.loadOA Tryz.isAgg28 Tryz.sizeOf28 rfl h1 (Nat.le_of_ble_eq_true rfl) ?_
  refine O.call Tryz.call27 (args1 rfl) (encode_spec va1 va2 va3 a F _ (hav.keep e1) (hac.keep e1) (hai.keep e1) (fun k hk => by have q1 := hF k hk; omega) hn hS hp hq (mx.keep e1)) ?_
  rintro v_8 w2 ⟨rv8, rfl, hv8, e2⟩
  have z2 := e2.size
  have h8s := hv8.sl
  refine O.mv ?_
  refine O.extract rfl rfl ?_
  refine O.extract rfl rfl ?_
  refine O.asg ?_
  refine O.asg ?_
  refine O.nil ?_
  refine hK2 _ _ ?_
  refine C.seqK fun K3 hK3 => ?_
  refine C.region ?_
  refine O.mv ?_
  refine O.len Tryz.underlying32 rfl h8s ?_
  refine O.mv ?_
  refine O.asg ?_
  refine O.asg ?_
  refine O.nil ?_
  refine hK3 _ _ ?_
  refine C.ret ?_
  refine Outs.two rfl rfl rfl ?_
  refine ⟨?_, (Ext.trans e1 e2)⟩
  by_cases hva : Cn.valid a = true
  · rw [if_pos hva, if_pos hva, if_pos hva]; rfl
  · rw [if_neg hva, if_neg hva, if_neg hva]; rfl

end Go.Proofs.YtnkcmaoaagnopaaGreatDoor
end
section
/-
  The walks of the reference's bytes of carts. Conditions: slices as they lie in memory.
-/
namespace Go.Proofs.YtnkcmaoaagnopaaGreatDoor
open Go.Pn Go.RowKit Go.Proofs
attribute [local irreducible] O C D

theorem inf49 : ∃ ie, Tryz.prog.info? 49 = some ie ∧ ie.size = 1 ∧ ie.bytes = 8 ∧ ie.zero = some (.int .u64 0) := by
  have h : (Tryz.prog.info? 49).isSome = true := by kernel_rfl
  exact ⟨(Tryz.prog.info? 49).get h, (Option.some_get h).symm, by kernel_rfl, by kernel_rfl, by kernel_rfl⟩
theorem rnum_a_spec (n : BitVec 64) (w : World) (ih : ∀ m : BitVec 64, m.toNat < n.toNat → ∀ w : World, Ret Tryz.prog 33 #[.int .u64 (m.toNat : Int)] w (fun v w' => Le w w' ∧ OwnF byteF 5 w.heap.size w' v (Cn.num m.toNat))) :
    Ret Tryz.prog 33 #[.int .u64 ((n).toNat : Int)] w (fun v w' => Le w w' ∧ OwnF byteF 5 w.heap.size w' v (Cn.num n.toNat)) := by
  obtain ⟨ie5, ti5, ts5, tb5, tz5⟩ := inf5
  refine enter (args := [.int .u64 ((n).toNat : Int)]) (n := 17) Tryz.func33 rfl rfl (Nat.le_of_ble_eq_true rfl) ?_
  refine C.seqK fun K1 hK1 => ?_
  refine C.region ?_
  refine O.asg ?_
  refine O.nil ?_
  refine hK1 _ _ ?_
  refine C.seqK fun K2 hK2 => ?_
  refine C.seqK fun K3 hK3 => ?_
  refine C.region ?_
  refine O.mv ?_
  refine O.lssU (m := 64) (b := 128#64) rfl rfl ?_
  refine O.nil ?_
  refine hK3 _ _ ?_
  refine C.condD rfl (fun c4 => ?_) (fun c4 => ?_)
  ·
    have hs4 : n.toNat < 128 := by simpa [BitVec.lt_def] using c4
    refine C.seqK fun K4 hK4 => ?_
    refine C.region ?_
    refine O.mv ?_
    refine O.convUU (m := 64) (m' := 8) Tryz.underlying49 Tryz.underlying5 rfl rfl rfl ?_
    refine O.lit1 Tryz.underlying32 ti5 ts5 tz5 rfl rfl (fun b7 w1 hb7 hz7 e1 => ?_)
    have z1 := e1.size
    have h7 := hz7.own
    have hl7 := h7.lt
    have h1007 : OwnF byteF 5 w.heap.size w1 _ [UInt8.ofBitVec (n.setWidth 8)] := OwnF.lit1 rfl hz7 rfl (by omega)
    refine O.asg ?_
    refine O.nil ?_
    refine hK4 _ _ ?_
    refine C.ret ?_
    refine Outs.one rfl rfl ?_
    first
    | exact ⟨e1, h1007.lst (Cn.num_last hs4).symm⟩
    | exact ⟨e1, ({app:16}).lst (Cn.num_step2 hs4).symm⟩
  ·
    have hs4 : ¬ n.toNat < 128 := by simpa [BitVec.lt_def, BitVec.le_def] using c4
    have hlt : (n / 128#64).toNat < n.toNat := by rw [BitVec.toNat_udiv]; show n.toNat / 128 < n.toNat; omega
    refine C.skip ?_
    refine hK2 _ _ ?_
    refine C.seqK fun K5 hK5 => ?_
    refine C.region ?_
    refine O.mv ?_
    refine O.remU (m := 64) (b := 128#64) rfl rfl rfl rfl (by decide) ?_
    refine O.addU (m := 64) (a := 128#64) rfl rfl rfl rfl ?_
    refine O.convUU (m := 64) (m' := 8) Tryz.underlying49 Tryz.underlying5 rfl rfl rfl ?_
    refine O.lit1 Tryz.underlying32 ti5 ts5 tz5 rfl rfl (fun b12 w2 hb12 hz12 e2 => ?_)
    have z2 := e2.size
    have h12 := hz12.own
    have hl12 := h12.lt
    have h1012 : OwnF byteF 5 w.heap.size w2 _ [UInt8.ofBitVec ((128#64 + n % 128#64).setWidth 8)] := OwnF.lit1 rfl hz12 rfl (by omega)
    refine O.mv ?_
    refine O.quoU (m := 64) (b := 128#64) rfl rfl rfl rfl (by decide) ?_
    refine O.call Tryz.call33 (args1 rfl) (ih (n / 128#64) hlt _) ?_
    rintro v_15 w3 ⟨e3, h15⟩
    have z3 := e3.size
    have h15s := h15.sl
    refine O.appF (G := byteF) Tryz.underlying32 ti5 tz5 ts5 rfl rfl rfl (h1012.keep e3) h15s (by rw [tb5]; have := Cn.num_u (n / 128#64); simp only [List.length_cons, List.length_nil]; omega) (by unfold maxLen; have := Cn.num_u (n / 128#64); simp only [List.length_cons, List.length_nil]; omega) (by omega) (fun v16 w4 h16 e4 => ?_)
    have z4 := e4.size
    have h16s := h16.sl
    refine O.asg ?_
    refine O.nil ?_
    refine hK5 _ _ ?_
    refine C.ret ?_
    refine Outs.one rfl rfl ?_
    first
    | exact ⟨(Ext.new (Ext.trans e2 e3) e4 (by intro i hi h; have := (h1012.keep e3).bk_ge i h; omega)), h1007.lst (Cn.num_last hs4).symm⟩
    | exact ⟨(Ext.new (Ext.trans e2 e3) e4 (by intro i hi h; have := (h1012.keep e3).bk_ge i h; omega)), (h16).lst (Cn.num_step2 hs4).symm⟩


theorem rnum_spec (n : BitVec 64) (w : World) : Ret Tryz.prog 33 #[.int .u64 (n.toNat : Int)] w (fun v w' => Le w w' ∧ OwnF byteF 5 w.heap.size w' v (Cn.num n.toNat)) := by
  have key : ∀ (k : Nat) (n : BitVec 64), n.toNat = k → ∀ w : World, Ret Tryz.prog 33 #[.int .u64 (n.toNat : Int)] w (fun v w' => Le w w' ∧ OwnF byteF 5 w.heap.size w' v (Cn.num n.toNat)) := by
    intro k
    induction k using Nat.strongRecOn with
    | _ k ih => exact fun n hn w => rnum_a_spec n w fun m hm w => ih m.toNat (hn ▸ hm) m rfl w
  exact key _ n rfl w

set_option maxHeartbeats 2000000 in
theorem rdots_spec (v0 : Value) (l : List Dt.Dot) (F : Nat → Prop) (w : World) (hl : Sl Dt.dotF.enc w F v0 l) (hn : l.length ≤ 1000000) :
    Ret Tryz.prog 44 #[v0] w (fun v w' => Le w w' ∧ OwnF byteF 5 w.heap.size w' v (Cn.dotsB l)) := by
  have hle := hl.le
  have hnl := Cn.num_le l.length (by omega)
  obtain ⟨ie5, ti5, ts5, tb5, tz5⟩ := inf5
  refine enter (args := [v0]) (n := 33) Tryz.func44 rfl rfl (Nat.le_of_ble_eq_true rfl) ?_
  refine C.seqK fun K1 hK1 => ?_
  refine C.region ?_
  refine O.asg ?_
  refine O.nil ?_
  refine hK1 _ _ ?_
  refine C.seqK fun K2 hK2 => ?_
  refine C.region ?_
  refine O.mv ?_
  refine O.len Tryz.underlying22 rfl hl ?_
  refine O.convIU (m' := 64) Tryz.underlying3 Tryz.underlying49 rfl rfl rfl ?_
  refine O.call Tryz.call33 (args1 rfl) (rnum_spec (BitVec.ofInt 64 (l.length : Int)) _) ?_
  rintro v_8 w1 ⟨e1, h8⟩
  have z1 := e1.size
  rw [Cn.u_def, Cn.u_nat (by omega)] at h8
  refine O.asg ?_
  refine O.nil ?_
  refine hK2 _ _ ?_
  refine C.seqK fun K3 hK3 => ?_
  refine C.seqK fun K4 hK4 => ?_
  refine C.region ?_
  refine O.asg ?_
  refine O.nil ?_
  refine hK4 _ _ ?_
  refine C.block fun K5 hK5 => ?_
  refine C.loop0 (σ := Nat × Value) (fun f0 w0 ⟨k, o⟩ f wz => f 3 = o ∧ f 4 = .int .i64 (k) ∧ f 0 = f0 0 ∧ f 2 = f0 2 ∧ Le w wz ∧ OwnF byteF 5 w.heap.size wz o (Cn.num l.length ++ (l.take k).flatMap Cn.dotB) ∧ k ≤ l.length) (fun ⟨k, o⟩ => l.length - k) (0, v_8) ?_ ?_
  ·
    refine ⟨rfl, rfl, rfl, rfl, e1, ((h8).lst (by simp)), ?_⟩
    exact Nat.zero_le _
  ·
    rintro ⟨k, o⟩ f_1 w2 ⟨s3_1, s4_1, s0_1, s2_1, e_1, r0_1, hk⟩
    have z_1 := e_1.size
    have r0_1s := r0_1.sl
    have hfl := Cn.flatMap_take_le (f := Cn.dotB) (b := 20) (l := l) (fun x _ => Cn.dotB_le x) hk
    refine C.seqK fun K6 hK6 => ?_
    refine C.seqK fun K7 hK7 => ?_
    refine C.region ?_
    refine O.mv ?_
    refine O.mv ?_
    refine O.len Tryz.underlying22 s0_1 (hl.keep e_1) ?_
    refine O.lssI s4_1 rfl ?_
    refine O.nil ?_
    refine hK7 _ _ ?_
    refine C.condD rfl (fun c12 => ?_) (fun c12 => ?_)
    ·
      have hk2 : k < l.length := by omega
      have hn1 := Cn.num_u (BitVec.ofInt 64 (l[k]'hk2).1)
      have hn2 := Cn.num_u (BitVec.ofInt 64 (l[k]'hk2).2)
      refine C.skip ?_
      refine hK6 _ _ ?_
      refine C.seqK fun K8 hK8 => ?_
      refine C.block fun K9 hK9 => ?_
      refine C.drawB (wB := w) (by kernel_rfl) fun w3 e3 => ?_
      have z3 := e3.size
      refine D.take (i := 0) rfl rfl rfl rfl (by kernel_rfl) (Ext.trans e_1 e3) ⟨pure _, rfl⟩ (fun w_ hw_ N_ hN => (O.mv (O.nil hN))) ?_
      refine D.take (i := 1) rfl rfl rfl rfl (by kernel_rfl) (Ext.trans e_1 e3) ⟨pure _, rfl⟩ (fun w_ hw_ N_ hN => (O.mv (O.nil hN))) ?_
      refine D.take (i := 2) rfl rfl rfl rfl (by kernel_rfl) (Ext.trans e_1 e3) ⟨pure _, rfl⟩ (fun w_ hw_ N_ hN => (O.mv (O.nil hN))) ?_
      obtain ⟨a18, h18, hr18⟩ := Sl.at (i := (k : Int)) (P := Tryz.prog) Tryz.underlying22 Tryz.sizeOf51 rfl hl (by omega)
      refine D.take (i := 3) rfl rfl rfl rfl (by kernel_rfl) (Ext.trans e_1 e3) ⟨_, rfl⟩ (fun w_ hw_ N_ hN => (O.idxR s0_1 s4_1 hr18 (O.nil hN))) ?_
      refine D.take (i := 4) rfl rfl rfl rfl (by kernel_rfl) (Ext.trans e_1 e3) ⟨_, rfl⟩ (fun w_ hw_ N_ hN => (O.fieldAt Tryz.underlying51 rfl Tryz.sizeOf3 (by decide) rfl (O.nil hN))) ?_
      refine D.take (i := 5) rfl rfl rfl rfl (by kernel_rfl) (Ext.trans e_1 e3) ⟨_, rfl⟩ (fun w_ hw_ N_ hN => (O.loadAtF (G := Dt.dotF) Tryz.isAgg3 rfl rfl (h18.keep hw_) (O.nil hN))) ?_
      refine D.take (i := 6) rfl rfl rfl rfl (by kernel_rfl) (Ext.trans e_1 e3) ⟨_, rfl⟩ (fun w_ hw_ N_ hN => (O.convIU (m' := 64) Tryz.underlying3 Tryz.underlying49 rfl rfl rfl (O.nil hN))) ?_
      refine D.take (i := 9) rfl rfl rfl rfl (by kernel_rfl) (Ext.trans e_1 e3) ⟨pure _, rfl⟩ (fun w_ hw_ N_ hN => (O.mv (O.nil hN))) ?_
      refine D.take (i := 10) rfl rfl rfl rfl (by kernel_rfl) (Ext.trans e_1 e3) ⟨pure _, rfl⟩ (fun w_ hw_ N_ hN => (O.mv (O.nil hN))) ?_
      obtain ⟨a26, h26, hr26⟩ := Sl.at (i := (k : Int)) (P := Tryz.prog) Tryz.underlying22 Tryz.sizeOf51 rfl hl (by omega)
      refine D.take (i := 11) rfl rfl rfl rfl (by kernel_rfl) (Ext.trans e_1 e3) ⟨_, rfl⟩ (fun w_ hw_ N_ hN => (O.idxR s0_1 s4_1 hr26 (O.nil hN))) ?_
      refine D.take (i := 12) rfl rfl rfl rfl (by kernel_rfl) (Ext.trans e_1 e3) ⟨_, rfl⟩ (fun w_ hw_ N_ hN => (O.fieldAt Tryz.underlying51 rfl Tryz.sizeOf3 (by decide) rfl (O.nil hN))) ?_
      refine D.take (i := 13) rfl rfl rfl rfl (by kernel_rfl) (Ext.trans e_1 e3) ⟨_, rfl⟩ (fun w_ hw_ N_ hN => (O.loadAtF (G := Dt.dotF) Tryz.isAgg3 rfl rfl (h26.keep hw_) (O.nil hN))) ?_
      refine D.take (i := 14) rfl rfl rfl rfl (by kernel_rfl) (Ext.trans e_1 e3) ⟨_, rfl⟩ (fun w_ hw_ N_ hN => (O.convIU (m' := 64) Tryz.underlying3 Tryz.underlying49 rfl rfl rfl (O.nil hN))) ?_
      refine D.one (i := 7) rfl rfl (by kernel_rfl) ?_
      refine O.call Tryz.call33 (args1 rfl) (rnum_spec (BitVec.ofInt 64 (l[k]'hk2).1) _) ?_
      rintro v_22 w4 ⟨e4, h22⟩
      have z4 := e4.size
      refine O.nil ⟨(Ext.trans (Ext.trans e_1 e3) e4), ?_⟩
      have h22s := h22.sl
      refine D.one (i := 8) rfl rfl (by kernel_rfl) ?_
      refine O.appF (G := byteF) Tryz.underlying32 ti5 tz5 ts5 rfl s3_1 rfl ((r0_1.keep e3).keep e4) h22s (by rw [tb5]; (try simp only [List.length_append]); omega) (by unfold maxLen; (try simp only [List.length_append]); omega) (by omega) (fun v23 w5 h23 e5 => ?_)
      have z5 := e5.size
      have h23s := h23.sl
      refine O.nil ⟨(Ext.new (Ext.trans (Ext.trans e_1 e3) e4) e5 (by intro i hi h; have := ((r0_1.keep e3).keep e4).bk_ge i h; omega)), ?_⟩
      refine D.one (i := 15) rfl rfl (by kernel_rfl) ?_
      refine O.call Tryz.call33 (args1 rfl) (rnum_spec (BitVec.ofInt 64 (l[k]'hk2).2) _) ?_
      rintro v_30 w6 ⟨e6, h30⟩
      have z6 := e6.size
      refine O.nil ⟨(Ext.trans (Ext.new (Ext.trans (Ext.trans e_1 e3) e4) e5 (by intro i hi h; have := ((r0_1.keep e3).keep e4).bk_ge i h; omega)) e6), ?_⟩
      have h30s := h30.sl
      refine D.one (i := 16) rfl rfl (by kernel_rfl) ?_
      refine O.appF (G := byteF) Tryz.underlying32 ti5 tz5 ts5 rfl rfl rfl (h23.keep e6) h30s (by rw [tb5]; (try simp only [List.length_append]); omega) (by unfold maxLen; (try simp only [List.length_append]); omega) (by omega) (fun v31 w7 h31 e7 => ?_)
      have z7 := e7.size
      have h31s := h31.sl
      refine O.nil ⟨(Ext.new (Ext.trans (Ext.new (Ext.trans (Ext.trans e_1 e3) e4) e5 (by intro i hi h; have := ((r0_1.keep e3).keep e4).bk_ge i h; omega)) e6) e7 (by intro i hi h; have := (h23.keep e6).bk_ge i h; omega)), ?_⟩
      refine D.take (i := 17) rfl rfl rfl rfl (by kernel_rfl) (Ext.new (Ext.trans (Ext.new (Ext.trans (Ext.trans e_1 e3) e4) e5 (by intro i hi h; have := ((r0_1.keep e3).keep e4).bk_ge i h; omega)) e6) e7 (by intro i hi h; have := (h23.keep e6).bk_ge i h; omega)) ⟨pure _, rfl⟩ (fun w_ hw_ N_ hN => (O.asg (O.nil hN))) ?_
      refine D.done (by kernel_rfl) ?_
      refine hK9 _ _ ?_
      refine hK8 _ _ ?_
      refine C.region ?_
      refine O.mv ?_
      refine O.addI s4_1 rfl (by unfold InI; omega) ?_
      refine O.asg ?_
      refine O.nil ?_
      refine ⟨(k + 1, _), ⟨rfl, rfl, s0_1, s2_1, (Ext.new (Ext.trans (Ext.new (Ext.trans (Ext.trans e_1 e3) e4) e5 (by intro i hi h; have := ((r0_1.keep e3).keep e4).bk_ge i h; omega)) e6) e7 (by intro i hi h; have := (h23.keep e6).bk_ge i h; omega)), ((h31).lst (by rw [Cn.flatMap_take _ hk2, Cn.u_def, Cn.u_def]; unfold Cn.dotB; simp only [List.append_assoc])), ?_⟩, by first | omega | (simp only []; omega)⟩
      omega
    ·
      refine C.exit ?_
      refine hK5 _ _ ?_
      refine hK3 _ _ ?_
      refine C.seqK fun K10 hK10 => ?_
      refine C.region ?_
      refine O.mv ?_
      refine O.asg ?_
      refine O.nil ?_
      refine hK10 _ _ ?_
      refine C.ret ?_
      refine Outs.one rfl s3_1 ?_
      obtain rfl : k = l.length := by omega
      rw [List.take_length] at r0_1
      exact ⟨e_1, r0_1⟩

theorem rctx_spec (v1 v2 : Value) (x : Cn.Ctx) (F : Nat → Prop) (w : World) (hv : Sl Dt.dotF.enc w F v1 x.1) (hc : Sl Dt.dotF.enc w F v2 x.2) (hn1 : x.1.length ≤ 1000000) (hn2 : x.2.length ≤ 1000000) :
    Ret Tryz.prog 18 #[.agg #[v1, v2]] w (fun v w' => Le w w' ∧ OwnF byteF 5 w.heap.size w' v (Cn.ctxB x)) := by
  have hd1 := Cn.dotsB_le hn1
  have hd2 := Cn.dotsB_le hn2
  obtain ⟨ie5, ti5, ts5, tb5, tz5⟩ := inf5
  refine enter (args := [.agg #[v1, v2]]) (n := 10) Tryz.func18 rfl rfl (Nat.le_of_ble_eq_true rfl) ?_
  refine C.seqK fun K1 hK1 => ?_
  refine C.region ?_
  refine O.box (v := .agg #[v1, v2]) rfl (fun b1 w1 hb1 hz1 e1 => ?_)
  have z1 := e1.size
  have h1 := hz1.own
  have hl1 := h1.lt
  refine O.asg ?_
  refine O.nil ?_
  refine hK1 _ _ ?_
  refine C.seqK fun K2 hK2 => ?_
  refine C.draw (by kernel_rfl) fun w2 e2 => ?_
  have z2 := e2.size
  refine D.take (i := 0) rfl rfl rfl rfl (by kernel_rfl) (Le.refl _) ⟨_, rfl⟩ (fun w_ hw_ N_ hN => (O.fieldAd Tryz.underlying25 rfl Tryz.sizeOf23 (by decide) rfl (O.nil hN))) ?_
  refine D.take (i := 1) rfl rfl rfl rfl (by kernel_rfl) (Le.refl _) ⟨_, rfl⟩ (fun w_ hw_ N_ hN => (O.loadO Tryz.isAgg23 rfl ((h1.keep e2).keep hw_) rfl (O.nil hN))) ?_
  refine D.take (i := 3) rfl rfl rfl rfl (by kernel_rfl) (Le.refl _) ⟨_, rfl⟩ (fun w_ hw_ N_ hN => (O.fieldAd Tryz.underlying25 rfl Tryz.sizeOf22 (by decide) rfl (O.nil hN))) ?_
  refine D.take (i := 4) rfl rfl rfl rfl (by kernel_rfl) (Le.refl _) ⟨_, rfl⟩ (fun w_ hw_ N_ hN => (O.loadO Tryz.isAgg22 rfl ((h1.keep e2).keep hw_) rfl (O.nil hN))) ?_
  refine D.one (i := 2) rfl rfl (by kernel_rfl) ?_
  refine O.call Tryz.call44 (args1 rfl) (rdots_spec v1 x.1 F _ ((hv.keep e1).keep e2) hn1) ?_
  rintro v_5 w3 ⟨e3, h5⟩
  have z3 := e3.size
  refine O.nil ⟨e3, ?_⟩
  have h5s := h5.sl
  refine D.one (i := 5) rfl rfl (by kernel_rfl) ?_
  refine O.call Tryz.call44 (args1 rfl) (rdots_spec v2 x.2 F _ (((hc.keep e1).keep e2).keep e3) hn2) ?_
  rintro v_8 w4 ⟨e4, h8⟩
  have z4 := e4.size
  refine O.nil ⟨(Ext.trans e3 e4), ?_⟩
  have h8s := h8.sl
  refine D.one (i := 6) rfl rfl (by kernel_rfl) ?_
  refine O.appF (G := byteF) Tryz.underlying32 ti5 tz5 ts5 rfl rfl rfl (h5.keep e4) h8s (by rw [tb5]; (try simp only [List.length_append]); omega) (by unfold maxLen; (try simp only [List.length_append]); omega) (by omega) (fun v9 w5 h9 e5 => ?_)
  have z5 := e5.size
  have h9s := h9.sl
  refine O.nil ⟨(Ext.new (Ext.trans e3 e4) e5 (by intro i hi h; have := (h5.keep e4).bk_ge i h; omega)), ?_⟩
  refine D.take (i := 7) rfl rfl rfl rfl (by kernel_rfl) (Ext.new (Ext.trans e3 e4) e5 (by intro i hi h; have := (h5.keep e4).bk_ge i h; omega)) ⟨pure _, rfl⟩ (fun w_ hw_ N_ hN => (O.asg (O.nil hN))) ?_
  refine D.done (by kernel_rfl) ?_
  refine hK2 _ _ ?_
  refine C.ret ?_
  refine Outs.one rfl rfl ?_
  exact ⟨(Ext.new (Ext.trans (Ext.trans (Ext.trans e1 e2) e3) e4) e5 (by intro i hi h; have := (h5.keep e4).bk_ge i h; omega)), h9.low (by omega)⟩

theorem rstr_spec (s : List UInt8) (w : World) (hn : s.length ≤ 1000000) :
    Ret Tryz.prog 49 #[str (s)] w (fun v w' => Le w w' ∧ OwnF byteF 5 w.heap.size w' v (Cn.strB s)) := by
  have hnl := Cn.num_le s.length (by omega)
  obtain ⟨ie5, ti5, ts5, tb5, tz5⟩ := inf5
  refine enter (args := [str (s)]) (n := 9) Tryz.func49 rfl rfl (Nat.le_of_ble_eq_true rfl) ?_
  refine C.seqK fun K1 hK1 => ?_
  refine C.region ?_
  refine O.asg ?_
  refine O.nil ?_
  refine hK1 _ _ ?_
  refine C.seqK fun K2 hK2 => ?_
  refine C.region ?_
  refine O.mv ?_
  refine O.lenS Tryz.underlying9 rfl ?_
  refine O.convIU (m' := 64) Tryz.underlying3 Tryz.underlying49 rfl rfl rfl ?_
  refine O.call Tryz.call33 (args1 rfl) (rnum_spec (BitVec.ofInt 64 (s.length : Int)) _) ?_
  rintro v_6 w1 ⟨e1, h6⟩
  have z1 := e1.size
  rw [Cn.u_def, Cn.u_nat (by omega)] at h6
  refine O.mv ?_
  refine O.appS Tryz.underlying32 Tryz.underlying9 ti5 tz5 ts5 tb5 rfl rfl h6 (by omega) (by unfold maxLen; omega) (by omega) (fun v8 w2 h8 e2 => ?_)
  have z2 := e2.size
  have h8s := h8.sl
  refine O.asg ?_
  refine O.nil ?_
  refine hK2 _ _ ?_
  refine C.ret ?_
  refine Outs.one rfl rfl ?_
  exact ⟨(Ext.new e1 e2 (by intro i hi h; have := h6.bk_ge i h; omega)), h8.low (by omega)⟩

end Go.Proofs.YtnkcmaoaagnopaaGreatDoor
end
section
/-
  The walks of the reference's bytes of carts, and of its order of bytes. Conditions: slices as they lie in memory.
-/
namespace Go.Proofs.YtnkcmaoaagnopaaGreatDoor
open Go.Pn Go.RowKit Go.Proofs
attribute [local irreducible] O C D

set_option maxHeartbeats 8000000 in
theorem rbytes_spec (va1 va2 va3 : Value) (a : Cn.Cart) (F : Nat → Prop) (w : World) (hav : Sl Dt.dotF.enc w F va1 a.1.1) (hac : Sl Dt.dotF.enc w F va2 a.1.2) (hai : Sl itemE w F va3 a.2) (hF : ∀ k, F k → k < w.heap.size) (hn : a.2.length ≤ 1000000) (hS : ∀ x ∈ a.2, x.1.length ≤ 1000000 ∧ x.2.length ≤ 1000000) (hp : a.1.1.length ≤ 1000000) (hq : a.1.2.length ≤ 1000000) :
    Ret Tryz.prog 22 #[.agg #[va1, va2, va3]] w (fun v w' => Le w w' ∧ OwnF byteF 5 w.heap.size w' v (Cn.bytes a)) := by
  have hle := hai.le
  have hd1 := Cn.dotsB_le hp
  have hd2 := Cn.dotsB_le hq
  have hcl : (Cn.ctxB a.1).length ≤ 40000020 := by unfold Cn.ctxB; rw [List.length_append]; omega
  have hnl := Cn.num_le a.2.length (by omega)
  obtain ⟨ie5, ti5, ts5, tb5, tz5⟩ := inf5
  obtain ⟨ie49, ti49, ts49, tb49, tz49⟩ := inf49
  refine enter (args := [.agg #[va1, va2, va3]]) (n := 79) Tryz.func22 rfl rfl (Nat.le_of_ble_eq_true rfl) ?_
  refine C.seqK fun K1 hK1 => ?_
  refine C.region ?_
  refine O.box (v := .agg #[va1, va2, va3]) rfl (fun b1 w1 hb1 hz1 e1 => ?_)
  have z1 := e1.size
  have h1 := hz1.own
  have hl1 := h1.lt
  refine O.asg ?_
  refine O.nil ?_
  refine hK1 _ _ ?_
  refine C.seqK fun K2 hK2 => ?_
  refine C.draw (by kernel_rfl) fun w2 e2 => ?_
  have z2 := e2.size
  refine D.take (i := 0) rfl rfl rfl rfl (by kernel_rfl) (Le.refl _) ⟨_, rfl⟩ (fun w_ hw_ N_ hN => (O.fieldAd Tryz.underlying28 rfl Tryz.sizeOf25 (by decide) rfl (O.nil hN))) ?_
  refine D.take (i := 1) rfl rfl rfl rfl (by kernel_rfl) (Le.refl _) ⟨_, rfl⟩ (fun w_ hw_ N_ hN => (O.loadOA Tryz.isAgg25 Tryz.sizeOf25 rfl ((h1.keep e2).keep hw_) (Nat.le_of_ble_eq_true rfl) (O.nil hN))) ?_
  refine D.take (i := 3) rfl rfl rfl rfl (by kernel_rfl) (Le.refl _) ⟨_, rfl⟩ (fun w_ hw_ N_ hN => (O.fieldAd Tryz.underlying28 rfl Tryz.sizeOf26 (by decide) rfl (O.nil hN))) ?_
  refine D.take (i := 4) rfl rfl rfl rfl (by kernel_rfl) (Le.refl _) ⟨_, rfl⟩ (fun w_ hw_ N_ hN => (O.loadO Tryz.isAgg26 rfl ((h1.keep e2).keep hw_) rfl (O.nil hN))) ?_
  refine D.take (i := 5) rfl rfl rfl rfl (by kernel_rfl) (Le.refl _) len_form (fun w_ hw_ N_ hN => (O.len Tryz.underlying26 rfl (((hai.keep e1).keep e2).keep hw_) (O.nil hN))) ?_
  refine D.take (i := 6) rfl rfl rfl rfl (by kernel_rfl) (Le.refl _) ⟨_, rfl⟩ (fun w_ hw_ N_ hN => (O.convIU (m' := 64) Tryz.underlying3 Tryz.underlying49 rfl rfl rfl (O.nil hN))) ?_
  refine D.one (i := 2) rfl rfl (by kernel_rfl) ?_
  refine O.call Tryz.call18 (args1 rfl) (rctx_spec va1 va2 a.1 F _ ((hav.keep e1).keep e2) ((hac.keep e1).keep e2) hp hq) ?_
  rintro v_12 w3 ⟨e3, h12⟩
  have z3 := e3.size
  refine O.nil ⟨e3, ?_⟩
  have h12s := h12.sl
  refine D.one (i := 7) rfl rfl (by kernel_rfl) ?_
  refine O.call Tryz.call33 (args1 rfl) (rnum_spec (BitVec.ofInt 64 (a.2.length : Int)) _) ?_
  rintro v_17 w4 ⟨e4, h17⟩
  have z4 := e4.size
  refine O.nil ⟨(Ext.trans e3 e4), ?_⟩
  rw [Cn.u_def, Cn.u_nat (by omega)] at h17
  have h17s := h17.sl
  refine D.one (i := 8) rfl rfl (by kernel_rfl) ?_
  refine O.appF (G := byteF) Tryz.underlying32 ti5 tz5 ts5 rfl rfl rfl (h12.keep e4) h17s (by rw [tb5]; (try simp only [List.length_append]); omega) (by unfold maxLen; (try simp only [List.length_append]); omega) (by omega) (fun v18 w5 h18 e5 => ?_)
  have z5 := e5.size
  have h18s := h18.sl
  refine O.nil ⟨(Ext.new (Ext.trans e3 e4) e5 (by intro i hi h; have := (h12.keep e4).bk_ge i h; omega)), ?_⟩
  obtain ⟨g18, ho18, hb18⟩ := OG.of h18 (by have := Cn.num_len a.2.length; simp only [List.length_append]; omega)
  have hc18 := ho18.2.2
  refine D.take (i := 9) rfl rfl rfl rfl (by kernel_rfl) (Ext.new (Ext.trans e3 e4) e5 (by intro i hi h; have := (h12.keep e4).bk_ge i h; omega)) ⟨pure _, rfl⟩ (fun w_ hw_ N_ hN => (O.asg (O.nil hN))) ?_
  refine D.done (by kernel_rfl) ?_
  refine hK2 _ _ ?_
  refine C.seqK fun K3 hK3 => ?_
  refine C.seqK fun K4 hK4 => ?_
  refine C.region ?_
  refine O.asg ?_
  refine O.nil ?_
  refine hK4 _ _ ?_
  refine C.block fun K5 hK5 => ?_
  refine C.loop0 (σ := Nat × Value × Nat) (fun f0 w0 ⟨k, o, gl⟩ f w => f 3 = o ∧ f 4 = .int .i64 (k) ∧ f 1 = f0 1 ∧ f 2 = f0 2 ∧ Ext (fun k => k = g18) w0 w ∧ OG byteF 5 w o gl (Cn.ctxB a.1 ++ (Cn.num a.2.length ++ (a.2.take k).flatMap Cn.itemB)) ∧ k ≤ a.2.length ∧ (gl = g18 ∨ w0.heap.size ≤ gl) ∧ gl < w.heap.size) (fun ⟨k, o, gl⟩ => a.2.length - k) (0, v18, g18) ?_ ?_
  ·
    refine ⟨rfl, rfl, rfl, rfl, Ext.refl _ _, ((ho18).lst (by simp)), ?_⟩
    exact ⟨Nat.zero_le _, .inl rfl, by omega⟩
  ·
    rintro ⟨k, o, gl⟩ f_1 w6 ⟨s3_1, s4_1, s1_1, s2_1, e_1, r0_1, ⟨hk, hbgl, hcgl⟩⟩
    have z_1 := e_1.size
    have hfl := Cn.flatMap_take_le (f := Cn.itemB) (b := 41000020) (l := a.2) (fun x hx => Cn.itemB_le (hS x hx)) hk
    refine C.seqK fun K6 hK6 => ?_
    refine C.seqK fun K7 hK7 => ?_
    refine C.region ?_
    refine O.mv ?_
    refine O.fieldAd Tryz.underlying28 rfl Tryz.sizeOf26 (by decide) s1_1 ?_
    refine O.loadO Tryz.isAgg26 rfl (((((h1.keep e2).keep e3).keep e4).keepM e5 (by intro h; have := (h12.keep e4).bk_ge _ h; omega)).keepM e_1 (by intro h; (try dsimp only at h); omega)) rfl ?_
    refine O.len Tryz.underlying26 rfl (hai.keep (Ext.new (Ext.new (Ext.trans (Ext.trans (Ext.trans e1 e2) e3) e4) e5 (by intro i hi h; have := (h12.keep e4).bk_ge i h; omega)) e_1 (by rintro i hi rfl; omega))) ?_
    refine O.lssI s4_1 rfl ?_
    refine O.nil ?_
    refine hK7 _ _ ?_
    refine C.condD rfl (fun c23 => ?_) (fun c23 => ?_)
    ·
      have hk2 : k < a.2.length := by omega
      refine C.skip ?_
      refine hK6 _ _ ?_
      refine C.seqK fun K8 hK8 => ?_
      refine C.block fun K9 hK9 => ?_
      refine C.seqK fun K10 hK10 => ?_
      refine C.region ?_
      refine O.fieldAd Tryz.underlying28 rfl Tryz.sizeOf26 (by decide) s1_1 ?_
      refine O.loadO Tryz.isAgg26 rfl (((((h1.keep e2).keep e3).keep e4).keepM e5 (by intro h; have := (h12.keep e4).bk_ge _ h; omega)).keepM e_1 (by intro h; (try dsimp only at h); omega)) rfl ?_
      refine O.mv ?_
      refine O.idx Tryz.underlying26 Tryz.sizeOf56 rfl rfl (hai.keep (Ext.new (Ext.new (Ext.trans (Ext.trans (Ext.trans e1 e2) e3) e4) e5 (by intro i hi h; have := (h12.keep e4).bk_ge i h; omega)) e_1 (by rintro i hi rfl; omega))) s4_1 (by omega) (fun a29 h29 => ?_)
      refine O.loadE (E := itemE) Tryz.isAgg56 Tryz.sizeOf56 rfl rfl h29 (fun cs30 hcs30 => ?_)
      obtain ⟨vm30, rfl, hm30⟩ := hcs30
      obtain ⟨u, hu⟩ : ∃ u : ItemT, u = a.2[k] := ⟨_, rfl⟩
      have hSu := hS u (by rw [hu]; exact List.getElem_mem _)
      refine O.cast (v' := .agg #[str u.1, vm30]) (by rw [hu]; rfl) ?_
      have hm30 : Sl markF.enc w6 F vm30 u.2 := by rw [hu]; exact hm30
      obtain ⟨ml, mc, rfl, hmc⟩ := hm30.val
      have hsl30 : (Cn.strB u.1).length ≤ 1000010 := by have := Cn.num_le u.1.length (by omega); unfold Cn.strB; rw [List.length_append]; omega
      have hnl30 := Cn.num_le u.2.length (by omega)
      refine O.alloc Tryz.zeroValue56 (fun b5 w7 hb5 hz5 e7 => ?_)
      have z7 := e7.size
      have h5 := hz5.own
      have hl5 := h5.lt
      refine O.storeA (vs := [str u.1, .slice ml u.2.length mc]) Tryz.sizeOf56 rfl rfl rfl (ones2 rfl) h5 (Nat.le_of_ble_eq_true rfl) (fun w8 hs8 e8 z8 => ?_)
      refine O.nil ?_
      refine hK10 _ _ ?_
      refine C.seqK fun K11 hK11 => ?_
      refine C.join (fun f w f' w' => Ext (fun k => k = gl) w w' ∧ f' 1 = f 1 ∧ f' 2 = f 2 ∧ f' 4 = f 4 ∧ f' 5 = f 5 ∧ ∃ (v3m : Value) (g3m : Nat), f' 3 = v3m ∧ OG byteF 5 w' v3m g3m (Cn.ctxB a.1 ++ (Cn.num a.2.length ++ (a.2.take k).flatMap Cn.itemB) ++ Cn.strB u.1 ++ Cn.num u.2.length) ∧ (g3m = gl ∨ w.heap.size ≤ g3m)) ?_ ?_
      ·
        refine C.drawB (wB := w) (by kernel_rfl) fun w9 e9 => ?_
        have z9 := e9.size
        refine D.take (i := 0) rfl rfl rfl rfl (by kernel_rfl) (Ext.trans (Ext.new (Ext.trans (Ext.new (Ext.new (Ext.trans (Ext.trans (Ext.trans e1 e2) e3) e4) e5 (by intro i hi h; have := (h12.keep e4).bk_ge i h; omega)) e_1 (by rintro i hi rfl; omega)) e7) e8 (by rintro i hi rfl; omega)) e9) ⟨pure _, rfl⟩ (fun w_ hw_ N_ hN => (O.mv (O.nil hN))) ?_
        refine D.take (i := 1) rfl rfl rfl rfl (by kernel_rfl) (Ext.trans (Ext.new (Ext.trans (Ext.new (Ext.new (Ext.trans (Ext.trans (Ext.trans e1 e2) e3) e4) e5 (by intro i hi h; have := (h12.keep e4).bk_ge i h; omega)) e_1 (by rintro i hi rfl; omega)) e7) e8 (by rintro i hi rfl; omega)) e9) ⟨_, rfl⟩ (fun w_ hw_ N_ hN => (O.fieldAd Tryz.underlying56 rfl Tryz.sizeOf9 (by decide) rfl (O.nil hN))) ?_
        refine D.take (i := 5) rfl rfl rfl rfl (by kernel_rfl) (Ext.trans (Ext.new (Ext.trans (Ext.new (Ext.new (Ext.trans (Ext.trans (Ext.trans e1 e2) e3) e4) e5 (by intro i hi h; have := (h12.keep e4).bk_ge i h; omega)) e_1 (by rintro i hi rfl; omega)) e7) e8 (by rintro i hi rfl; omega)) e9) ⟨_, rfl⟩ (fun w_ hw_ N_ hN => (O.fieldAd Tryz.underlying56 rfl Tryz.sizeOf54 (by decide) rfl (O.nil hN))) ?_
        refine D.many [2, 6] (by kernel_rfl) (by decide) ⟨?_, ?_, trivial⟩
        ·
          refine D.stepU rfl rfl ?_
          refine O.loadO Tryz.isAgg9 rfl (hs8.keep e9) rfl ?_
          refine O.nil ⟨(Ext.trans (Ext.new (Ext.trans (Ext.new (Ext.new (Ext.trans (Ext.trans (Ext.trans e1 e2) e3) e4) e5 (by intro i hi h; have := (h12.keep e4).bk_ge i h; omega)) e_1 (by rintro i hi rfl; omega)) e7) e8 (by rintro i hi rfl; omega)) e9), ?_⟩
          refine D.many [3, 6] (by kernel_rfl) (by decide) ⟨?_, ?_, trivial⟩
          ·
            refine D.stepU rfl rfl ?_
            refine O.call Tryz.call49 (args1 rfl) (rstr_spec u.1 _ (by omega)) ?_
            rintro v_34 w10 ⟨e10, h34⟩
            have z10 := e10.size
            refine O.nil ⟨(Ext.trans (Ext.trans (Ext.new (Ext.trans (Ext.new (Ext.new (Ext.trans (Ext.trans (Ext.trans e1 e2) e3) e4) e5 (by intro i hi h; have := (h12.keep e4).bk_ge i h; omega)) e_1 (by rintro i hi rfl; omega)) e7) e8 (by rintro i hi rfl; omega)) e9) e10), ?_⟩
            have h34s := h34.sl
            refine D.many [4, 6] (by kernel_rfl) (by decide) ⟨?_, ?_, trivial⟩
            ·
              refine D.stepU rfl rfl ?_
              refine O.appG (G := byteF) Tryz.underlying32 ti5 tz5 ts5 rfl s3_1 rfl ((((r0_1.keep e7).keepM e8 (by intro k hk h; (try dsimp only at h); omega)).keep e9).keep e10) h34s (by rw [tb5]; (try simp only [List.length_append]); omega) (by unfold maxLen; (try simp only [List.length_append]); omega) (fun v35 gg35 w11 h35 hg35 e11 hw35 => ?_)
              have e11m := e11.mono (M' := fun k => k = _) (fun k _ hk => ((((r0_1.keep e7).keepM e8 (by intro k hk h; (try dsimp only at h); omega)).keep e9).keep e10).2.1 k hk)
              have z11 := e11.size
              have hgl35 := h35.2.2
              refine O.nil ⟨(Ext.new (Ext.trans (Ext.trans (Ext.new (Ext.trans (Ext.new (Ext.new (Ext.trans (Ext.trans (Ext.trans e1 e2) e3) e4) e5 (by intro i hi h; have := (h12.keep e4).bk_ge i h; omega)) e_1 (by rintro i hi rfl; omega)) e7) e8 (by rintro i hi rfl; omega)) e9) e10) e11 (by intro i hi h; replace h := ((((r0_1.keep e7).keepM e8 (by intro k hk h; (try dsimp only at h); omega)).keep e9).keep e10).2.1 _ h; (try dsimp only at h); omega)), ?_⟩
              refine D.one (i := 6) rfl rfl (by kernel_rfl) ?_
              refine O.loadO Tryz.isAgg54 rfl (((hs8.keep e9).keep e10).keepM e11 (by intro h; replace h := ((((r0_1.keep e7).keepM e8 (by intro k hk h; (try dsimp only at h); omega)).keep e9).keep e10).2.1 _ h; (try dsimp only at h); omega)) rfl ?_
              refine O.nil ⟨(Ext.new (Ext.trans (Ext.trans (Ext.new (Ext.trans (Ext.new (Ext.new (Ext.trans (Ext.trans (Ext.trans e1 e2) e3) e4) e5 (by intro i hi h; have := (h12.keep e4).bk_ge i h; omega)) e_1 (by rintro i hi rfl; omega)) e7) e8 (by rintro i hi rfl; omega)) e9) e10) e11 (by intro i hi h; replace h := ((((r0_1.keep e7).keepM e8 (by intro k hk h; (try dsimp only at h); omega)).keep e9).keep e10).2.1 _ h; (try dsimp only at h); omega)), ?_⟩
              refine D.take (i := 7) rfl rfl rfl rfl (by kernel_rfl) (Ext.new (Ext.trans (Ext.trans (Ext.new (Ext.trans (Ext.new (Ext.new (Ext.trans (Ext.trans (Ext.trans e1 e2) e3) e4) e5 (by intro i hi h; have := (h12.keep e4).bk_ge i h; omega)) e_1 (by rintro i hi rfl; omega)) e7) e8 (by rintro i hi rfl; omega)) e9) e10) e11 (by intro i hi h; replace h := ((((r0_1.keep e7).keepM e8 (by intro k hk h; (try dsimp only at h); omega)).keep e9).keep e10).2.1 _ h; (try dsimp only at h); omega)) len_form (fun w_ hw_ N_ hN => (O.lenL Tryz.underlying54 rfl (O.nil hN))) ?_
              refine D.take (i := 8) rfl rfl rfl rfl (by kernel_rfl) (Ext.new (Ext.trans (Ext.trans (Ext.new (Ext.trans (Ext.new (Ext.new (Ext.trans (Ext.trans (Ext.trans e1 e2) e3) e4) e5 (by intro i hi h; have := (h12.keep e4).bk_ge i h; omega)) e_1 (by rintro i hi rfl; omega)) e7) e8 (by rintro i hi rfl; omega)) e9) e10) e11 (by intro i hi h; replace h := ((((r0_1.keep e7).keepM e8 (by intro k hk h; (try dsimp only at h); omega)).keep e9).keep e10).2.1 _ h; (try dsimp only at h); omega)) ⟨_, rfl⟩ (fun w_ hw_ N_ hN => (O.convIU (m' := 64) Tryz.underlying3 Tryz.underlying49 rfl rfl rfl (O.nil hN))) ?_
              refine D.one (i := 9) rfl rfl (by kernel_rfl) ?_
              refine O.call Tryz.call33 (args1 rfl) (rnum_spec (BitVec.ofInt 64 (u.2.length : Int)) _) ?_
              rintro v_40 w12 ⟨e12, h40⟩
              have z12 := e12.size
              refine O.nil ⟨(Ext.trans (Ext.new (Ext.trans (Ext.trans (Ext.new (Ext.trans (Ext.new (Ext.new (Ext.trans (Ext.trans (Ext.trans e1 e2) e3) e4) e5 (by intro i hi h; have := (h12.keep e4).bk_ge i h; omega)) e_1 (by rintro i hi rfl; omega)) e7) e8 (by rintro i hi rfl; omega)) e9) e10) e11 (by intro i hi h; replace h := ((((r0_1.keep e7).keepM e8 (by intro k hk h; (try dsimp only at h); omega)).keep e9).keep e10).2.1 _ h; (try dsimp only at h); omega)) e12), ?_⟩
              rw [Cn.u_def, Cn.u_nat (by omega)] at h40
              have h40s := h40.sl
              refine D.one (i := 10) rfl rfl (by kernel_rfl) ?_
              refine O.appG (G := byteF) Tryz.underlying32 ti5 tz5 ts5 rfl rfl rfl (h35.keep e12) h40s (by rw [tb5]; (try simp only [List.length_append]); omega) (by unfold maxLen; (try simp only [List.length_append]); omega) (fun v41 gg41 w13 h41 hg41 e13 hw41 => ?_)
              have e13m := e13.mono (M' := fun k => k = _) (fun k _ hk => (h35.keep e12).2.1 k hk)
              have z13 := e13.size
              have hgl41 := h41.2.2
              refine O.nil ⟨(Ext.new (Ext.trans (Ext.new (Ext.trans (Ext.trans (Ext.new (Ext.trans (Ext.new (Ext.new (Ext.trans (Ext.trans (Ext.trans e1 e2) e3) e4) e5 (by intro i hi h; have := (h12.keep e4).bk_ge i h; omega)) e_1 (by rintro i hi rfl; omega)) e7) e8 (by rintro i hi rfl; omega)) e9) e10) e11 (by intro i hi h; replace h := ((((r0_1.keep e7).keepM e8 (by intro k hk h; (try dsimp only at h); omega)).keep e9).keep e10).2.1 _ h; (try dsimp only at h); omega)) e12) e13 (by intro i hi h; replace h := (h35.keep e12).2.1 _ h; (try dsimp only at h); omega)), ?_⟩
              refine D.take (i := 11) rfl rfl rfl rfl (by kernel_rfl) (Ext.new (Ext.trans (Ext.new (Ext.trans (Ext.trans (Ext.new (Ext.trans (Ext.new (Ext.new (Ext.trans (Ext.trans (Ext.trans e1 e2) e3) e4) e5 (by intro i hi h; have := (h12.keep e4).bk_ge i h; omega)) e_1 (by rintro i hi rfl; omega)) e7) e8 (by rintro i hi rfl; omega)) e9) e10) e11 (by intro i hi h; replace h := ((((r0_1.keep e7).keepM e8 (by intro k hk h; (try dsimp only at h); omega)).keep e9).keep e10).2.1 _ h; (try dsimp only at h); omega)) e12) e13 (by intro i hi h; replace h := (h35.keep e12).2.1 _ h; (try dsimp only at h); omega)) ⟨pure _, rfl⟩ (fun w_ hw_ N_ hN => (O.asg (O.nil hN))) ?_
              refine D.done (by kernel_rfl) ?_
              exact ⟨(Ext.new (Ext.new (Ext.new (Ext.new (Ext.new (Ext.refl _ _) e9 (by intro i hi hk; first | exact hk.elim | ((try dsimp only at hk); (try dsimp only); omega))) e10 (by intro i hi hk; first | exact hk.elim | ((try dsimp only at hk); (try dsimp only); omega))) e11m (by intro i hi hk; first | exact hk.elim | ((try dsimp only at hk); (try dsimp only); omega))) e12 (by intro i hi hk; first | exact hk.elim | ((try dsimp only at hk); (try dsimp only); omega))) e13m (by intro i hi hk; first | exact hk.elim | ((try dsimp only at hk); (try dsimp only); omega))), rfl, rfl, rfl, rfl, ⟨_, _, rfl, ⟨h41, by omega⟩⟩⟩
            ·
              refine D.stepU rfl rfl ?_
              refine O.loadO Tryz.isAgg54 rfl ((hs8.keep e9).keep e10) rfl ?_
              refine O.nil ⟨(Ext.trans (Ext.trans (Ext.new (Ext.trans (Ext.new (Ext.new (Ext.trans (Ext.trans (Ext.trans e1 e2) e3) e4) e5 (by intro i hi h; have := (h12.keep e4).bk_ge i h; omega)) e_1 (by rintro i hi rfl; omega)) e7) e8 (by rintro i hi rfl; omega)) e9) e10), ?_⟩
              refine D.take (i := 7) rfl rfl rfl rfl (by kernel_rfl) (Ext.trans (Ext.trans (Ext.new (Ext.trans (Ext.new (Ext.new (Ext.trans (Ext.trans (Ext.trans e1 e2) e3) e4) e5 (by intro i hi h; have := (h12.keep e4).bk_ge i h; omega)) e_1 (by rintro i hi rfl; omega)) e7) e8 (by rintro i hi rfl; omega)) e9) e10) len_form (fun w_ hw_ N_ hN => (O.lenL Tryz.underlying54 rfl (O.nil hN))) ?_
              refine D.take (i := 8) rfl rfl rfl rfl (by kernel_rfl) (Ext.trans (Ext.trans (Ext.new (Ext.trans (Ext.new (Ext.new (Ext.trans (Ext.trans (Ext.trans e1 e2) e3) e4) e5 (by intro i hi h; have := (h12.keep e4).bk_ge i h; omega)) e_1 (by rintro i hi rfl; omega)) e7) e8 (by rintro i hi rfl; omega)) e9) e10) ⟨_, rfl⟩ (fun w_ hw_ N_ hN => (O.convIU (m' := 64) Tryz.underlying3 Tryz.underlying49 rfl rfl rfl (O.nil hN))) ?_
              refine D.one (i := 4) rfl rfl (by kernel_rfl) ?_
              refine O.appG (G := byteF) Tryz.underlying32 ti5 tz5 ts5 rfl s3_1 rfl ((((r0_1.keep e7).keepM e8 (by intro k hk h; (try dsimp only at h); omega)).keep e9).keep e10) h34s (by rw [tb5]; (try simp only [List.length_append]); omega) (by unfold maxLen; (try simp only [List.length_append]); omega) (fun v35 gg35 w14 h35 hg35 e14 hw35 => ?_)
              have e14m := e14.mono (M' := fun k => k = _) (fun k _ hk => ((((r0_1.keep e7).keepM e8 (by intro k hk h; (try dsimp only at h); omega)).keep e9).keep e10).2.1 k hk)
              have z14 := e14.size
              have hgl35 := h35.2.2
              refine O.nil ⟨(Ext.new (Ext.trans (Ext.trans (Ext.new (Ext.trans (Ext.new (Ext.new (Ext.trans (Ext.trans (Ext.trans e1 e2) e3) e4) e5 (by intro i hi h; have := (h12.keep e4).bk_ge i h; omega)) e_1 (by rintro i hi rfl; omega)) e7) e8 (by rintro i hi rfl; omega)) e9) e10) e14 (by intro i hi h; replace h := ((((r0_1.keep e7).keepM e8 (by intro k hk h; (try dsimp only at h); omega)).keep e9).keep e10).2.1 _ h; (try dsimp only at h); omega)), ?_⟩
              refine D.one (i := 9) rfl rfl (by kernel_rfl) ?_
              refine O.call Tryz.call33 (args1 rfl) (rnum_spec (BitVec.ofInt 64 (u.2.length : Int)) _) ?_
              rintro v_40 w15 ⟨e15, h40⟩
              have z15 := e15.size
              refine O.nil ⟨(Ext.trans (Ext.new (Ext.trans (Ext.trans (Ext.new (Ext.trans (Ext.new (Ext.new (Ext.trans (Ext.trans (Ext.trans e1 e2) e3) e4) e5 (by intro i hi h; have := (h12.keep e4).bk_ge i h; omega)) e_1 (by rintro i hi rfl; omega)) e7) e8 (by rintro i hi rfl; omega)) e9) e10) e14 (by intro i hi h; replace h := ((((r0_1.keep e7).keepM e8 (by intro k hk h; (try dsimp only at h); omega)).keep e9).keep e10).2.1 _ h; (try dsimp only at h); omega)) e15), ?_⟩
              rw [Cn.u_def, Cn.u_nat (by omega)] at h40
              have h40s := h40.sl
              refine D.one (i := 10) rfl rfl (by kernel_rfl) ?_
              refine O.appG (G := byteF) Tryz.underlying32 ti5 tz5 ts5 rfl rfl rfl (h35.keep e15) h40s (by rw [tb5]; (try simp only [List.length_append]); omega) (by unfold maxLen; (try simp only [List.length_append]); omega) (fun v41 gg41 w16 h41 hg41 e16 hw41 => ?_)
              have e16m := e16.mono (M' := fun k => k = _) (fun k _ hk => (h35.keep e15).2.1 k hk)
              have z16 := e16.size
              have hgl41 := h41.2.2
              refine O.nil ⟨(Ext.new (Ext.trans (Ext.new (Ext.trans (Ext.trans (Ext.new (Ext.trans (Ext.new (Ext.new (Ext.trans (Ext.trans (Ext.trans e1 e2) e3) e4) e5 (by intro i hi h; have := (h12.keep e4).bk_ge i h; omega)) e_1 (by rintro i hi rfl; omega)) e7) e8 (by rintro i hi rfl; omega)) e9) e10) e14 (by intro i hi h; replace h := ((((r0_1.keep e7).keepM e8 (by intro k hk h; (try dsimp only at h); omega)).keep e9).keep e10).2.1 _ h; (try dsimp only at h); omega)) e15) e16 (by intro i hi h; replace h := (h35.keep e15).2.1 _ h; (try dsimp only at h); omega)), ?_⟩
              refine D.take (i := 11) rfl rfl rfl rfl (by kernel_rfl) (Ext.new (Ext.trans (Ext.new (Ext.trans (Ext.trans (Ext.new (Ext.trans (Ext.new (Ext.new (Ext.trans (Ext.trans (Ext.trans e1 e2) e3) e4) e5 (by intro i hi h; have := (h12.keep e4).bk_ge i h; omega)) e_1 (by rintro i hi rfl; omega)) e7) e8 (by rintro i hi rfl; omega)) e9) e10) e14 (by intro i hi h; replace h := ((((r0_1.keep e7).keepM e8 (by intro k hk h; (try dsimp only at h); omega)).keep e9).keep e10).2.1 _ h; (try dsimp only at h); omega)) e15) e16 (by intro i hi h; replace h := (h35.keep e15).2.1 _ h; (try dsimp only at h); omega)) ⟨pure _, rfl⟩ (fun w_ hw_ N_ hN => (O.asg (O.nil hN))) ?_
              refine D.done (by kernel_rfl) ?_
              exact ⟨(Ext.new (Ext.new (Ext.new (Ext.new (Ext.new (Ext.refl _ _) e9 (by intro i hi hk; first | exact hk.elim | ((try dsimp only at hk); (try dsimp only); omega))) e10 (by intro i hi hk; first | exact hk.elim | ((try dsimp only at hk); (try dsimp only); omega))) e14m (by intro i hi hk; first | exact hk.elim | ((try dsimp only at hk); (try dsimp only); omega))) e15 (by intro i hi hk; first | exact hk.elim | ((try dsimp only at hk); (try dsimp only); omega))) e16m (by intro i hi hk; first | exact hk.elim | ((try dsimp only at hk); (try dsimp only); omega))), rfl, rfl, rfl, rfl, ⟨_, _, rfl, ⟨h41, by omega⟩⟩⟩
          ·
            refine D.stepU rfl rfl ?_
            refine O.loadO Tryz.isAgg54 rfl (hs8.keep e9) rfl ?_
            refine O.nil ⟨(Ext.trans (Ext.new (Ext.trans (Ext.new (Ext.new (Ext.trans (Ext.trans (Ext.trans e1 e2) e3) e4) e5 (by intro i hi h; have := (h12.keep e4).bk_ge i h; omega)) e_1 (by rintro i hi rfl; omega)) e7) e8 (by rintro i hi rfl; omega)) e9), ?_⟩
            refine D.take (i := 7) rfl rfl rfl rfl (by kernel_rfl) (Ext.trans (Ext.new (Ext.trans (Ext.new (Ext.new (Ext.trans (Ext.trans (Ext.trans e1 e2) e3) e4) e5 (by intro i hi h; have := (h12.keep e4).bk_ge i h; omega)) e_1 (by rintro i hi rfl; omega)) e7) e8 (by rintro i hi rfl; omega)) e9) len_form (fun w_ hw_ N_ hN => (O.lenL Tryz.underlying54 rfl (O.nil hN))) ?_
            refine D.take (i := 8) rfl rfl rfl rfl (by kernel_rfl) (Ext.trans (Ext.new (Ext.trans (Ext.new (Ext.new (Ext.trans (Ext.trans (Ext.trans e1 e2) e3) e4) e5 (by intro i hi h; have := (h12.keep e4).bk_ge i h; omega)) e_1 (by rintro i hi rfl; omega)) e7) e8 (by rintro i hi rfl; omega)) e9) ⟨_, rfl⟩ (fun w_ hw_ N_ hN => (O.convIU (m' := 64) Tryz.underlying3 Tryz.underlying49 rfl rfl rfl (O.nil hN))) ?_
            refine D.one (i := 3) rfl rfl (by kernel_rfl) ?_
            refine O.call Tryz.call49 (args1 rfl) (rstr_spec u.1 _ (by omega)) ?_
            rintro v_34 w17 ⟨e17, h34⟩
            have z17 := e17.size
            refine O.nil ⟨(Ext.trans (Ext.trans (Ext.new (Ext.trans (Ext.new (Ext.new (Ext.trans (Ext.trans (Ext.trans e1 e2) e3) e4) e5 (by intro i hi h; have := (h12.keep e4).bk_ge i h; omega)) e_1 (by rintro i hi rfl; omega)) e7) e8 (by rintro i hi rfl; omega)) e9) e17), ?_⟩
            have h34s := h34.sl
            refine D.one (i := 4) rfl rfl (by kernel_rfl) ?_
            refine O.appG (G := byteF) Tryz.underlying32 ti5 tz5 ts5 rfl s3_1 rfl ((((r0_1.keep e7).keepM e8 (by intro k hk h; (try dsimp only at h); omega)).keep e9).keep e17) h34s (by rw [tb5]; (try simp only [List.length_append]); omega) (by unfold maxLen; (try simp only [List.length_append]); omega) (fun v35 gg35 w18 h35 hg35 e18 hw35 => ?_)
            have e18m := e18.mono (M' := fun k => k = _) (fun k _ hk => ((((r0_1.keep e7).keepM e8 (by intro k hk h; (try dsimp only at h); omega)).keep e9).keep e17).2.1 k hk)
            have z18 := e18.size
            have hgl35 := h35.2.2
            refine O.nil ⟨(Ext.new (Ext.trans (Ext.trans (Ext.new (Ext.trans (Ext.new (Ext.new (Ext.trans (Ext.trans (Ext.trans e1 e2) e3) e4) e5 (by intro i hi h; have := (h12.keep e4).bk_ge i h; omega)) e_1 (by rintro i hi rfl; omega)) e7) e8 (by rintro i hi rfl; omega)) e9) e17) e18 (by intro i hi h; replace h := ((((r0_1.keep e7).keepM e8 (by intro k hk h; (try dsimp only at h); omega)).keep e9).keep e17).2.1 _ h; (try dsimp only at h); omega)), ?_⟩
            refine D.one (i := 9) rfl rfl (by kernel_rfl) ?_
            refine O.call Tryz.call33 (args1 rfl) (rnum_spec (BitVec.ofInt 64 (u.2.length : Int)) _) ?_
            rintro v_40 w19 ⟨e19, h40⟩
            have z19 := e19.size
            refine O.nil ⟨(Ext.trans (Ext.new (Ext.trans (Ext.trans (Ext.new (Ext.trans (Ext.new (Ext.new (Ext.trans (Ext.trans (Ext.trans e1 e2) e3) e4) e5 (by intro i hi h; have := (h12.keep e4).bk_ge i h; omega)) e_1 (by rintro i hi rfl; omega)) e7) e8 (by rintro i hi rfl; omega)) e9) e17) e18 (by intro i hi h; replace h := ((((r0_1.keep e7).keepM e8 (by intro k hk h; (try dsimp only at h); omega)).keep e9).keep e17).2.1 _ h; (try dsimp only at h); omega)) e19), ?_⟩
            rw [Cn.u_def, Cn.u_nat (by omega)] at h40
            have h40s := h40.sl
            refine D.one (i := 10) rfl rfl (by kernel_rfl) ?_
            refine O.appG (G := byteF) Tryz.underlying32 ti5 tz5 ts5 rfl rfl rfl (h35.keep e19) h40s (by rw [tb5]; (try simp only [List.length_append]); omega) (by unfold maxLen; (try simp only [List.length_append]); omega) (fun v41 gg41 w20 h41 hg41 e20 hw41 => ?_)
            have e20m := e20.mono (M' := fun k => k = _) (fun k _ hk => (h35.keep e19).2.1 k hk)
            have z20 := e20.size
            have hgl41 := h41.2.2
            refine O.nil ⟨(Ext.new (Ext.trans (Ext.new (Ext.trans (Ext.trans (Ext.new (Ext.trans (Ext.new (Ext.new (Ext.trans (Ext.trans (Ext.trans e1 e2) e3) e4) e5 (by intro i hi h; have := (h12.keep e4).bk_ge i h; omega)) e_1 (by rintro i hi rfl; omega)) e7) e8 (by rintro i hi rfl; omega)) e9) e17) e18 (by intro i hi h; replace h := ((((r0_1.keep e7).keepM e8 (by intro k hk h; (try dsimp only at h); omega)).keep e9).keep e17).2.1 _ h; (try dsimp only at h); omega)) e19) e20 (by intro i hi h; replace h := (h35.keep e19).2.1 _ h; (try dsimp only at h); omega)), ?_⟩
            refine D.take (i := 11) rfl rfl rfl rfl (by kernel_rfl) (Ext.new (Ext.trans (Ext.new (Ext.trans (Ext.trans (Ext.new (Ext.trans (Ext.new (Ext.new (Ext.trans (Ext.trans (Ext.trans e1 e2) e3) e4) e5 (by intro i hi h; have := (h12.keep e4).bk_ge i h; omega)) e_1 (by rintro i hi rfl; omega)) e7) e8 (by rintro i hi rfl; omega)) e9) e17) e18 (by intro i hi h; replace h := ((((r0_1.keep e7).keepM e8 (by intro k hk h; (try dsimp only at h); omega)).keep e9).keep e17).2.1 _ h; (try dsimp only at h); omega)) e19) e20 (by intro i hi h; replace h := (h35.keep e19).2.1 _ h; (try dsimp only at h); omega)) ⟨pure _, rfl⟩ (fun w_ hw_ N_ hN => (O.asg (O.nil hN))) ?_
            refine D.done (by kernel_rfl) ?_
            exact ⟨(Ext.new (Ext.new (Ext.new (Ext.new (Ext.new (Ext.refl _ _) e9 (by intro i hi hk; first | exact hk.elim | ((try dsimp only at hk); (try dsimp only); omega))) e17 (by intro i hi hk; first | exact hk.elim | ((try dsimp only at hk); (try dsimp only); omega))) e18m (by intro i hi hk; first | exact hk.elim | ((try dsimp only at hk); (try dsimp only); omega))) e19 (by intro i hi hk; first | exact hk.elim | ((try dsimp only at hk); (try dsimp only); omega))) e20m (by intro i hi hk; first | exact hk.elim | ((try dsimp only at hk); (try dsimp only); omega))), rfl, rfl, rfl, rfl, ⟨_, _, rfl, ⟨h41, by omega⟩⟩⟩
        ·
          refine D.stepU rfl rfl ?_
          refine O.loadO Tryz.isAgg54 rfl (hs8.keep e9) rfl ?_
          refine O.nil ⟨(Ext.trans (Ext.new (Ext.trans (Ext.new (Ext.new (Ext.trans (Ext.trans (Ext.trans e1 e2) e3) e4) e5 (by intro i hi h; have := (h12.keep e4).bk_ge i h; omega)) e_1 (by rintro i hi rfl; omega)) e7) e8 (by rintro i hi rfl; omega)) e9), ?_⟩
          refine D.take (i := 7) rfl rfl rfl rfl (by kernel_rfl) (Ext.trans (Ext.new (Ext.trans (Ext.new (Ext.new (Ext.trans (Ext.trans (Ext.trans e1 e2) e3) e4) e5 (by intro i hi h; have := (h12.keep e4).bk_ge i h; omega)) e_1 (by rintro i hi rfl; omega)) e7) e8 (by rintro i hi rfl; omega)) e9) len_form (fun w_ hw_ N_ hN => (O.lenL Tryz.underlying54 rfl (O.nil hN))) ?_
          refine D.take (i := 8) rfl rfl rfl rfl (by kernel_rfl) (Ext.trans (Ext.new (Ext.trans (Ext.new (Ext.new (Ext.trans (Ext.trans (Ext.trans e1 e2) e3) e4) e5 (by intro i hi h; have := (h12.keep e4).bk_ge i h; omega)) e_1 (by rintro i hi rfl; omega)) e7) e8 (by rintro i hi rfl; omega)) e9) ⟨_, rfl⟩ (fun w_ hw_ N_ hN => (O.convIU (m' := 64) Tryz.underlying3 Tryz.underlying49 rfl rfl rfl (O.nil hN))) ?_
          refine D.one (i := 2) rfl rfl (by kernel_rfl) ?_
          refine O.loadO Tryz.isAgg9 rfl (hs8.keep e9) rfl ?_
          refine O.nil ⟨(Ext.trans (Ext.new (Ext.trans (Ext.new (Ext.new (Ext.trans (Ext.trans (Ext.trans e1 e2) e3) e4) e5 (by intro i hi h; have := (h12.keep e4).bk_ge i h; omega)) e_1 (by rintro i hi rfl; omega)) e7) e8 (by rintro i hi rfl; omega)) e9), ?_⟩
          refine D.one (i := 3) rfl rfl (by kernel_rfl) ?_
          refine O.call Tryz.call49 (args1 rfl) (rstr_spec u.1 _ (by omega)) ?_
          rintro v_34 w21 ⟨e21, h34⟩
          have z21 := e21.size
          refine O.nil ⟨(Ext.trans (Ext.trans (Ext.new (Ext.trans (Ext.new (Ext.new (Ext.trans (Ext.trans (Ext.trans e1 e2) e3) e4) e5 (by intro i hi h; have := (h12.keep e4).bk_ge i h; omega)) e_1 (by rintro i hi rfl; omega)) e7) e8 (by rintro i hi rfl; omega)) e9) e21), ?_⟩
          have h34s := h34.sl
          refine D.one (i := 4) rfl rfl (by kernel_rfl) ?_
          refine O.appG (G := byteF) Tryz.underlying32 ti5 tz5 ts5 rfl s3_1 rfl ((((r0_1.keep e7).keepM e8 (by intro k hk h; (try dsimp only at h); omega)).keep e9).keep e21) h34s (by rw [tb5]; (try simp only [List.length_append]); omega) (by unfold maxLen; (try simp only [List.length_append]); omega) (fun v35 gg35 w22 h35 hg35 e22 hw35 => ?_)
          have e22m := e22.mono (M' := fun k => k = _) (fun k _ hk => ((((r0_1.keep e7).keepM e8 (by intro k hk h; (try dsimp only at h); omega)).keep e9).keep e21).2.1 k hk)
          have z22 := e22.size
          have hgl35 := h35.2.2
          refine O.nil ⟨(Ext.new (Ext.trans (Ext.trans (Ext.new (Ext.trans (Ext.new (Ext.new (Ext.trans (Ext.trans (Ext.trans e1 e2) e3) e4) e5 (by intro i hi h; have := (h12.keep e4).bk_ge i h; omega)) e_1 (by rintro i hi rfl; omega)) e7) e8 (by rintro i hi rfl; omega)) e9) e21) e22 (by intro i hi h; replace h := ((((r0_1.keep e7).keepM e8 (by intro k hk h; (try dsimp only at h); omega)).keep e9).keep e21).2.1 _ h; (try dsimp only at h); omega)), ?_⟩
          refine D.one (i := 9) rfl rfl (by kernel_rfl) ?_
          refine O.call Tryz.call33 (args1 rfl) (rnum_spec (BitVec.ofInt 64 (u.2.length : Int)) _) ?_
          rintro v_40 w23 ⟨e23, h40⟩
          have z23 := e23.size
          refine O.nil ⟨(Ext.trans (Ext.new (Ext.trans (Ext.trans (Ext.new (Ext.trans (Ext.new (Ext.new (Ext.trans (Ext.trans (Ext.trans e1 e2) e3) e4) e5 (by intro i hi h; have := (h12.keep e4).bk_ge i h; omega)) e_1 (by rintro i hi rfl; omega)) e7) e8 (by rintro i hi rfl; omega)) e9) e21) e22 (by intro i hi h; replace h := ((((r0_1.keep e7).keepM e8 (by intro k hk h; (try dsimp only at h); omega)).keep e9).keep e21).2.1 _ h; (try dsimp only at h); omega)) e23), ?_⟩
          rw [Cn.u_def, Cn.u_nat (by omega)] at h40
          have h40s := h40.sl
          refine D.one (i := 10) rfl rfl (by kernel_rfl) ?_
          refine O.appG (G := byteF) Tryz.underlying32 ti5 tz5 ts5 rfl rfl rfl (h35.keep e23) h40s (by rw [tb5]; (try simp only [List.length_append]); omega) (by unfold maxLen; (try simp only [List.length_append]); omega) (fun v41 gg41 w24 h41 hg41 e24 hw41 => ?_)
          have e24m := e24.mono (M' := fun k => k = _) (fun k _ hk => (h35.keep e23).2.1 k hk)
          have z24 := e24.size
          have hgl41 := h41.2.2
          refine O.nil ⟨(Ext.new (Ext.trans (Ext.new (Ext.trans (Ext.trans (Ext.new (Ext.trans (Ext.new (Ext.new (Ext.trans (Ext.trans (Ext.trans e1 e2) e3) e4) e5 (by intro i hi h; have := (h12.keep e4).bk_ge i h; omega)) e_1 (by rintro i hi rfl; omega)) e7) e8 (by rintro i hi rfl; omega)) e9) e21) e22 (by intro i hi h; replace h := ((((r0_1.keep e7).keepM e8 (by intro k hk h; (try dsimp only at h); omega)).keep e9).keep e21).2.1 _ h; (try dsimp only at h); omega)) e23) e24 (by intro i hi h; replace h := (h35.keep e23).2.1 _ h; (try dsimp only at h); omega)), ?_⟩
          refine D.take (i := 11) rfl rfl rfl rfl (by kernel_rfl) (Ext.new (Ext.trans (Ext.new (Ext.trans (Ext.trans (Ext.new (Ext.trans (Ext.new (Ext.new (Ext.trans (Ext.trans (Ext.trans e1 e2) e3) e4) e5 (by intro i hi h; have := (h12.keep e4).bk_ge i h; omega)) e_1 (by rintro i hi rfl; omega)) e7) e8 (by rintro i hi rfl; omega)) e9) e21) e22 (by intro i hi h; replace h := ((((r0_1.keep e7).keepM e8 (by intro k hk h; (try dsimp only at h); omega)).keep e9).keep e21).2.1 _ h; (try dsimp only at h); omega)) e23) e24 (by intro i hi h; replace h := (h35.keep e23).2.1 _ h; (try dsimp only at h); omega)) ⟨pure _, rfl⟩ (fun w_ hw_ N_ hN => (O.asg (O.nil hN))) ?_
          refine D.done (by kernel_rfl) ?_
          exact ⟨(Ext.new (Ext.new (Ext.new (Ext.new (Ext.new (Ext.refl _ _) e9 (by intro i hi hk; first | exact hk.elim | ((try dsimp only at hk); (try dsimp only); omega))) e21 (by intro i hi hk; first | exact hk.elim | ((try dsimp only at hk); (try dsimp only); omega))) e22m (by intro i hi hk; first | exact hk.elim | ((try dsimp only at hk); (try dsimp only); omega))) e23 (by intro i hi hk; first | exact hk.elim | ((try dsimp only at hk); (try dsimp only); omega))) e24m (by intro i hi hk; first | exact hk.elim | ((try dsimp only at hk); (try dsimp only); omega))), rfl, rfl, rfl, rfl, ⟨_, _, rfl, ⟨h41, by omega⟩⟩⟩
      ·
        rintro f_2 w25 ⟨e_2, s1_2, s2_2, s4_2, s5_2, ⟨v3m, g3m, s3_2, q0_2⟩⟩
        have z_2 := e_2.size
        obtain ⟨h41, hg41⟩ := q0_2
        have hgl41 := h41.2.2
        refine hK11 _ _ ?_
        refine C.seqK fun K12 hK12 => ?_
        refine C.region ?_
        refine O.asg ?_
        refine O.nil ?_
        refine hK12 _ _ ?_
        refine C.block fun K13 hK13 => ?_
        refine C.loop0 (σ := Nat × Value × Nat) (fun f0 w0 ⟨j, o1, gm⟩ f w => f 3 = o1 ∧ f 6 = .int .i64 (j) ∧ f 1 = f0 1 ∧ f 2 = f0 2 ∧ f 4 = f0 4 ∧ f 5 = f0 5 ∧ Ext (fun k => k = g3m) w0 w ∧ OG byteF 5 w o1 gm (Cn.ctxB a.1 ++ (Cn.num a.2.length ++ (a.2.take k).flatMap Cn.itemB) ++ Cn.strB u.1 ++ (Cn.num u.2.length ++ (u.2.take j).flatMap Cn.markB)) ∧ j ≤ u.2.length ∧ (gm = g3m ∨ w0.heap.size ≤ gm) ∧ gm < w.heap.size) (fun ⟨j, o1, gm⟩ => u.2.length - j) (0, v3m, g3m) ?_ ?_
        ·
          refine ⟨s3_2, rfl, rfl, rfl, rfl, rfl, Ext.refl _ _, ((h41).lst (by simp)), ?_⟩
          exact ⟨Nat.zero_le _, .inl rfl, by omega⟩
        ·
          rintro ⟨j, o1, gm⟩ f_3 w26 ⟨s3_3, s6_3, s1_3, s2_3, s4_3, s5_3, e_3, r0_3, ⟨hj, hbgm, hcgm⟩⟩
          have z_3 := e_3.size
          have hfm := Cn.flatMap_take_le (f := Cn.markB) (b := 40) (l := u.2) (fun x _ => Cn.markB_le x) hj
          refine C.seqK fun K14 hK14 => ?_
          refine C.seqK fun K15 hK15 => ?_
          refine C.region ?_
          refine O.mv ?_
          refine O.fieldAd Tryz.underlying56 rfl Tryz.sizeOf54 (by decide) (Eq.trans s5_3 s5_2) ?_
          refine O.loadO Tryz.isAgg54 rfl ((hs8.keepM e_2 (by intro h; (try dsimp only at h); omega)).keepM e_3 (by intro h; (try dsimp only at h); omega)) rfl ?_
          refine O.len Tryz.underlying54 rfl ((((hm30.keep e7).keepM e8 (by intro k hk h; first | (have q1 := hF k hk; (try dsimp only at h); omega) | (have q1 := hF2 k hk; (try dsimp only at h); omega) | (have q1 := hFb k hk; (try dsimp only at h); omega) | ((try dsimp only at hk); (try dsimp only at h); omega))).keepM e_2 (by intro k hk h; have q1 := hF k hk; (try dsimp only at h); omega)).keepM e_3 (by intro k hk h; have q1 := hF k hk; (try dsimp only at h); omega)) ?_
          refine O.lssI s6_3 rfl ?_
          refine O.nil ?_
          refine hK15 _ _ ?_
          refine C.condD rfl (fun c46 => ?_) (fun c46 => ?_)
          ·
            have hj2 : j < u.2.length := by omega
            refine C.skip ?_
            refine hK14 _ _ ?_
            refine C.seqK fun K16 hK16 => ?_
            refine C.block fun K17 hK17 => ?_
            refine C.seqK fun K18 hK18 => ?_
            refine C.region ?_
            refine O.fieldAd Tryz.underlying56 rfl Tryz.sizeOf54 (by decide) (Eq.trans s5_3 s5_2) ?_
            refine O.loadO Tryz.isAgg54 rfl ((hs8.keepM e_2 (by intro h; (try dsimp only at h); omega)).keepM e_3 (by intro h; (try dsimp only at h); omega)) rfl ?_
            refine O.mv ?_
            refine O.idx Tryz.underlying54 Tryz.sizeOf53 rfl rfl ((((hm30.keep e7).keepM e8 (by intro k hk h; first | (have q1 := hF k hk; (try dsimp only at h); omega) | (have q1 := hF2 k hk; (try dsimp only at h); omega) | (have q1 := hFb k hk; (try dsimp only at h); omega) | ((try dsimp only at hk); (try dsimp only at h); omega))).keepM e_2 (by intro k hk h; have q1 := hF k hk; (try dsimp only at h); omega)).keepM e_3 (by intro k hk h; have q1 := hF k hk; (try dsimp only at h); omega)) s6_3 (by omega) (fun a52 h52 => ?_)
            refine O.loadG (G := markF) Tryz.isAgg53 Tryz.sizeOf53 rfl h52 ?_
            obtain ⟨m, hm⟩ : ∃ m : MarkT, m = u.2[j] := ⟨_, rfl⟩
            refine O.cast (v' := mv m) (by rw [hm]; rfl) ?_
            refine O.alloc Tryz.zeroValue53 (fun b7 w27 hb7 hz7 e27 => ?_)
            have z27 := e27.size
            have h7 := hz7.own
            have hl7 := h7.lt
            refine O.storeA (vs := [.int .i64 m.1.1, .int .i64 m.1.2, .int .i64 m.2.1, .int .u64 (m.2.2.toNat : Int)]) Tryz.sizeOf53 rfl rfl rfl (by simp [Value.oneCell']) h7 (Nat.le_of_ble_eq_true rfl) (fun w28 hs28 e28 z28 => ?_)
            refine O.nil ?_
            refine hK18 _ _ ?_
            refine C.seqK fun K19 hK19 => ?_
            refine C.region ?_
            refine O.fieldAd Tryz.underlying53 rfl Tryz.sizeOf51 (by decide) rfl ?_
            refine O.fieldAd Tryz.underlying51 rfl Tryz.sizeOf3 (by decide) rfl ?_
            refine O.loadO Tryz.isAgg3 rfl hs28 rfl ?_
            refine O.convIU (m' := 64) Tryz.underlying3 Tryz.underlying49 rfl rfl rfl ?_
            refine O.fieldAd Tryz.underlying53 rfl Tryz.sizeOf51 (by decide) rfl ?_
            refine O.fieldAd Tryz.underlying51 rfl Tryz.sizeOf3 (by decide) rfl ?_
            refine O.loadO Tryz.isAgg3 rfl hs28 rfl ?_
            refine O.convIU (m' := 64) Tryz.underlying3 Tryz.underlying49 rfl rfl rfl ?_
            refine O.fieldAd Tryz.underlying53 rfl Tryz.sizeOf3 (by decide) rfl ?_
            refine O.loadO Tryz.isAgg3 rfl hs28 rfl ?_
            refine O.convIU (m' := 64) Tryz.underlying3 Tryz.underlying49 rfl rfl rfl ?_
            refine O.fieldAd Tryz.underlying53 rfl Tryz.sizeOf49 (by decide) rfl ?_
            refine O.loadO Tryz.isAgg49 rfl hs28 rfl ?_
            refine O.litn [.int .u64 ((BitVec.ofInt 64 m.1.1).toNat : Int), .int .u64 ((BitVec.ofInt 64 m.1.2).toNat : Int), .int .u64 ((BitVec.ofInt 64 m.2.1).toNat : Int), .int .u64 (m.2.2.toNat : Int)] Tryz.underlying90 ti49 ts49 tz49 rfl (by decide) (by decide) rfl (by simp [Value.oneCell']) (fun b67 w29 hb67 hz67 e29 => ?_)
            have z29 := e29.size
            have h67 := hz67.own
            have hl67 := h67.lt
            obtain ⟨ys, hys⟩ : ∃ ys : List (BitVec 64), ys = [BitVec.ofInt 64 m.1.1, BitVec.ofInt 64 m.1.2, BitVec.ofInt 64 m.2.1, m.2.2] := ⟨_, rfl⟩
            have hy4 : ys.length = 4 := by rw [hys]; rfl
            have hq67 : Sl u64F.enc w29 (fun k => k = b67) (.slice (some ⟨b67, 0, none⟩) 4 4) ys := by
              rw [hys]
              exact Sl.of_own (G := u64F) h67 rfl (Nat.le_refl _) (by unfold maxLen; omega) (by simp [u64F])
            refine O.len Tryz.underlying90 rfl hq67 ?_
            refine O.mv ?_
            refine O.nil ?_
            refine hK19 _ _ ?_
            refine C.block fun K20 hK20 => ?_
            refine C.loop0 (σ := Nat × Value × Nat) (fun f0 w0 ⟨i, o2, gq⟩ f w => f 3 = o2 ∧ f 69 = .int .i64 (i) ∧ f 1 = f0 1 ∧ f 2 = f0 2 ∧ f 4 = f0 4 ∧ f 5 = f0 5 ∧ f 6 = f0 6 ∧ f 67 = f0 67 ∧ f 68 = f0 68 ∧ Ext (fun k => k = gm) w0 w ∧ OG byteF 5 w o2 gq (Cn.ctxB a.1 ++ (Cn.num a.2.length ++ (a.2.take k).flatMap Cn.itemB) ++ Cn.strB u.1 ++ (Cn.num u.2.length ++ (u.2.take j).flatMap Cn.markB) ++ (ys.take i).flatMap (fun x : BitVec 64 => Cn.num x.toNat)) ∧ i ≤ ys.length ∧ (gq = gm ∨ w0.heap.size ≤ gq) ∧ gq < w.heap.size) (fun ⟨i, o2, gq⟩ => ys.length - i) (0, o1, gm) ?_ ?_
            ·
              refine ⟨s3_3, rfl, rfl, rfl, rfl, rfl, rfl, rfl, rfl, Ext.refl _ _, (((((r0_3.keep e27).keepM e28 (by intro k hk h; (try dsimp only at h); omega)).keep e29)).lst (by simp)), ?_⟩
              exact ⟨Nat.zero_le _, .inl rfl, by omega⟩
            ·
              rintro ⟨i, o2, gq⟩ f_4 w30 ⟨s3_4, s69_4, s1_4, s2_4, s4_4, s5_4, s6_4, s67_4, s68_4, e_4, r0_4, ⟨hi, hbgq, hcgq⟩⟩
              have z_4 := e_4.size
              have hfi := Cn.flatMap_take_le (f := fun x : BitVec 64 => Cn.num x.toNat) (b := 10) (l := ys) (fun x _ => Cn.num_u x) hi
              refine C.seqK fun K21 hK21 => ?_
              refine C.region ?_
              refine O.lssI s69_4 s68_4 ?_
              refine O.nil ?_
              refine hK21 _ _ ?_
              refine C.seqK fun K22 hK22 => ?_
              refine C.condD rfl (fun c70 => ?_) (fun c70 => ?_)
              ·
                have hi2 : i < ys.length := by omega
                have hni := Cn.num_u ys[i]
                refine C.skip ?_
                refine hK22 _ _ ?_
                refine C.seqK fun K23 hK23 => ?_
                refine C.block fun K24 hK24 => ?_
                refine C.seqK fun K25 hK25 => ?_
                refine C.region ?_
                refine O.idx Tryz.underlying90 Tryz.sizeOf49 rfl s67_4 (hq67.keepM e_4 (by intro k hk h; (try dsimp only at hk); (try dsimp only at h); omega)) s69_4 (by omega) (fun a71 h71 => ?_)
                refine O.loadU64 Tryz.isAgg49 rfl h71 ?_
                refine O.asg ?_
                refine O.nil ?_
                refine hK25 _ _ ?_
                refine C.region ?_
                refine O.mv ?_
                refine O.mv ?_
                refine O.call Tryz.call33 (args1 rfl) (rnum_spec (ys[i]'hi2) _) ?_
                rintro v_75 w31 ⟨e31, h75⟩
                have z31 := e31.size
                have h75s := h75.sl
                refine O.appG (G := byteF) Tryz.underlying32 ti5 tz5 ts5 rfl s3_4 rfl (r0_4.keep e31) h75s (by rw [tb5]; (try simp only [List.length_append]); omega) (by unfold maxLen; (try simp only [List.length_append]); omega) (fun v76 gg76 w32 h76 hg76 e32 hw76 => ?_)
                have e32m := e32.mono (M' := fun k => k = _) (fun k _ hk => (r0_4.keep e31).2.1 k hk)
                have z32 := e32.size
                have hgl76 := h76.2.2
                refine O.asg ?_
                refine O.nil ?_
                refine hK24 _ _ ?_
                refine hK23 _ _ ?_
                refine C.region ?_
                refine O.addI s69_4 rfl (by unfold InI; omega) ?_
                refine O.mv ?_
                refine O.nil ?_
                refine ⟨(i + 1, _, _), ⟨rfl, rfl, s1_4, s2_4, s4_4, s5_4, s6_4, s67_4, s68_4, (Ext.new (Ext.new (Ext.new (Ext.refl _ _) e_4 (by intro i hi hk; first | exact hk.elim | ((try dsimp only at hk); (try dsimp only); omega))) e31 (by intro i hi hk; first | exact hk.elim | ((try dsimp only at hk); (try dsimp only); omega))) e32m (by intro i hi hk; first | exact hk.elim | ((try dsimp only at hk); (try dsimp only); omega))), ((h76).lst (by rw [Cn.flatMap_take _ hi2, List.append_assoc])), ?_⟩, by first | omega | (simp only []; omega)⟩
                exact ⟨by omega, by omega, by omega⟩
              ·
                have hi4 : i = ys.length := by omega
                refine C.exit ?_
                refine hK20 _ _ ?_
                refine hK17 _ _ ?_
                refine hK16 _ _ ?_
                refine C.region ?_
                refine O.mv ?_
                refine O.addI (Eq.trans s6_4 s6_3) rfl (by unfold InI; omega) ?_
                refine O.asg ?_
                refine O.nil ?_
                refine ⟨(j + 1, _, _), ⟨s3_4, rfl, (Eq.trans s1_4 s1_3), (Eq.trans s2_4 s2_3), (Eq.trans s4_4 s4_3), (Eq.trans s5_4 s5_3), (Ext.new (Ext.new (Ext.new (Ext.new (Ext.new (Ext.refl _ _) e_3 (by intro i hi hk; first | exact hk.elim | ((try dsimp only at hk); (try dsimp only); omega))) e27 (by intro i hi hk; first | exact hk.elim | ((try dsimp only at hk); (try dsimp only); omega))) e28 (by intro i hi hk; first | exact hk.elim | ((try dsimp only at hk); (try dsimp only); omega))) e29 (by intro i hi hk; first | exact hk.elim | ((try dsimp only at hk); (try dsimp only); omega))) e_4 (by intro i hi hk; first | exact hk.elim | ((try dsimp only at hk); (try dsimp only); omega))), ((r0_4).lst (by rw [Cn.flatMap_take _ hj2, ← hm, hi4, List.take_length, hys]; unfold Cn.markB Cn.u; simp)), ?_⟩, by first | omega | (simp only []; omega)⟩
                exact ⟨by omega, by omega, by omega⟩
          ·
            have hj3 : j = u.2.length := by omega
            refine C.exit ?_
            refine hK13 _ _ ?_
            refine hK9 _ _ ?_
            refine hK8 _ _ ?_
            refine C.region ?_
            refine O.mv ?_
            refine O.addI (Eq.trans s4_3 (Eq.trans s4_2 s4_1)) rfl (by unfold InI; omega) ?_
            refine O.asg ?_
            refine O.nil ?_
            refine ⟨(k + 1, _, _), ⟨s3_3, rfl, (Eq.trans s1_3 (Eq.trans s1_2 s1_1)), (Eq.trans s2_3 (Eq.trans s2_2 s2_1)), (Ext.new (Ext.new (Ext.new (Ext.new (Ext.new (Ext.refl _ _) e_1 (by intro i hi hk; first | exact hk.elim | ((try dsimp only at hk); (try dsimp only); omega))) e7 (by intro i hi hk; first | exact hk.elim | ((try dsimp only at hk); (try dsimp only); omega))) e8 (by intro i hi hk; first | exact hk.elim | ((try dsimp only at hk); (try dsimp only); omega))) e_2 (by intro i hi hk; first | exact hk.elim | ((try dsimp only at hk); (try dsimp only); omega))) e_3 (by intro i hi hk; first | exact hk.elim | ((try dsimp only at hk); (try dsimp only); omega))), ((r0_3).lst (by rw [Cn.flatMap_take _ hk2, ← hu, hj3, List.take_length]; unfold Cn.itemB; simp only [List.append_assoc])), ?_⟩, by first | omega | (simp only []; omega)⟩
            exact ⟨by omega, by omega, by omega⟩
    ·
      have hk3 : k = a.2.length := by omega
      refine C.exit ?_
      refine hK5 _ _ ?_
      refine hK3 _ _ ?_
      refine C.seqK fun K26 hK26 => ?_
      refine C.region ?_
      refine O.mv ?_
      refine O.asg ?_
      refine O.nil ?_
      refine hK26 _ _ ?_
      refine C.ret ?_
      refine Outs.one rfl s3_1 ?_
      exact ⟨(Ext.new (Ext.new (Ext.trans (Ext.trans (Ext.trans e1 e2) e3) e4) e5 (by intro i hi h; have := (h12.keep e4).bk_ge i h; omega)) e_1 (by rintro i hi rfl; omega)), ((r0_1).own (by omega)).lst (by rw [hk3, List.take_length]; rfl)⟩

end Go.Proofs.YtnkcmaoaagnopaaGreatDoor
end
section
/-
  The walks of the reference: order of bytes, small carts, carts compared and copied. Conditions: slices as they lie in memory.
-/
namespace Go.Proofs.YtnkcmaoaagnopaaGreatDoor
open Go.Pn Go.RowKit Go.Proofs
attribute [local irreducible] O C D

theorem small_spec (va1 va2 va3 : Value) (a : Cn.Cart) (F : Nat → Prop) (w : World) (hav : Sl Dt.dotF.enc w F va1 a.1.1) (hac : Sl Dt.dotF.enc w F va2 a.1.2) (hai : Sl itemE w F va3 a.2) :
    Ret Tryz.prog 13 #[.agg #[va1, va2, va3]] w (fun v w' => v = .bool (Cn.small a) ∧ Le w w') := by
  have hle := hai.le
  have hle1 := hav.le
  have hle2 := hac.le
  refine enter (args := [.agg #[va1, va2, va3]]) (n := 51) Tryz.func13 rfl rfl (Nat.le_of_ble_eq_true rfl) ?_
  refine C.seqK fun K1 hK1 => ?_
  refine C.region ?_
  refine O.box (v := .agg #[va1, va2, va3]) rfl (fun b1 w1 hb1 hz1 e1 => ?_)
  have z1 := e1.size
  have h1 := hz1.own
  have hl1 := h1.lt
  refine O.asg ?_
  refine O.nil ?_
  refine hK1 _ _ ?_
  refine C.seqK fun K2 hK2 => ?_
  refine C.seqK fun K3 hK3 => ?_
  refine C.region ?_
  refine O.asg ?_
  refine O.nil ?_
  refine hK3 _ _ ?_
  refine C.block fun K4 hK4 => ?_
  refine C.loop0 (σ := Nat) (fun f0 w0 k f w => f 3 = .int .i64 (k) ∧ f 1 = f0 1 ∧ Le w0 w ∧ k ≤ a.2.length ∧ ∀ i, ∀ h : i < a.2.length, i < k → Cn.smallI a.2[i] = true) (fun k => a.2.length - k) 0 ?_ ?_
  ·
    refine ⟨rfl, rfl, Le.refl _, ?_⟩
    exact ⟨Nat.zero_le _, fun i h k => absurd k (Nat.not_lt_zero _)⟩
  ·
    rintro k f_1 w2 ⟨s3_1, s1_1, e_1, ⟨hk, hI⟩⟩
    have z_1 := e_1.size
    refine C.seqK fun K5 hK5 => ?_
    refine C.seqK fun K6 hK6 => ?_
    refine C.region ?_
    refine O.mv ?_
    refine O.fieldAd Tryz.underlying28 rfl Tryz.sizeOf26 (by decide) s1_1 ?_
    refine O.loadO Tryz.isAgg26 rfl (h1.keep e_1) rfl ?_
    refine O.len Tryz.underlying26 rfl ((hai.keep e1).keep e_1) ?_
    refine O.lssI s3_1 rfl ?_
    refine O.mv ?_
    refine O.cut 3 (fun f f' => f' 12 = .bool (decide ((k : Int) < (a.2.length : Int) ∧ (k : Int) < 21)) ∧ f' 1 = f 1 ∧ f' 3 = f 3) ?_ ?_
    ·
      refine O.splitD (x := .tmp 9) rfl (fun c9 => ?_) (fun c9 => ?_)
      ·
        refine O.yes rfl (isT rfl c9) ?_
        refine O.mv ?_
        refine O.yes rfl (isT rfl c9) ?_
        refine O.lssI s3_1 rfl ?_
        refine O.pickT (isT rfl c9) ?_
        refine O.nil ?_
        refine ⟨⟨?_, rfl, rfl⟩, rfl⟩
        first | exact rfl | exact Eq.trans rfl (congrArg Value.bool (dAnd (by assumption))) | exact Eq.trans rfl (congrArg Value.bool (dAndF (by assumption))) | exact Eq.trans rfl (congrArg Value.bool (dOr (by assumption))) | exact Eq.trans rfl (congrArg Value.bool (dOrT (by assumption)))
      ·
        refine O.no rfl (noB (isF rfl c9) rfl) ?_
        refine O.no rfl (noB (isF rfl c9) rfl) ?_
        refine O.pickF (isF rfl c9) ?_
        refine O.nil ?_
        refine ⟨⟨?_, rfl, rfl⟩, rfl⟩
        first | exact rfl | exact Eq.trans rfl (congrArg Value.bool (dAnd (by assumption))) | exact Eq.trans rfl (congrArg Value.bool (dAndF (by assumption))) | exact Eq.trans rfl (congrArg Value.bool (dOr (by assumption))) | exact Eq.trans rfl (congrArg Value.bool (dOrT (by assumption)))
    ·
      rintro f_2 ⟨s12_2, s1_2, s3_2⟩
      refine O.nil ?_
      refine hK6 _ _ ?_
      refine C.condD s12_2 (fun c12 => ?_) (fun c12 => ?_)
      ·
        have hk2 : k < a.2.length := by omega
        refine C.skip ?_
        refine hK5 _ _ ?_
        refine C.seqK fun K7 hK7 => ?_
        refine C.block fun K8 hK8 => ?_
        refine C.seqK fun K9 hK9 => ?_
        refine C.region ?_
        refine O.fieldAd Tryz.underlying28 rfl Tryz.sizeOf26 (by decide) (Eq.trans s1_2 s1_1) ?_
        refine O.loadO Tryz.isAgg26 rfl (h1.keep e_1) rfl ?_
        refine O.mv ?_
        refine O.idx Tryz.underlying26 Tryz.sizeOf56 rfl rfl ((hai.keep e1).keep e_1) (Eq.trans s3_2 s3_1) (by omega) (fun a18 h18 => ?_)
        refine O.fieldAt Tryz.underlying56 rfl Tryz.sizeOf54 (by decide) rfl ?_
        refine O.loadMarks Tryz.isAgg54 rfl h18 (fun vm20 hm20 => ?_)
        refine O.len Tryz.underlying54 rfl hm20 ?_
        refine O.gtrI rfl rfl ?_
        refine O.mv ?_
        refine O.splitD (x := .tmp 23) rfl (fun c23 => ?_) (fun c23 => ?_)
        ·
          simp only [Int.toNat_natCast] at c23
          refine O.no rfl (noB (isT rfl c23) rfl) ?_
          refine O.no rfl (noB (isT rfl c23) rfl) ?_
          refine O.no rfl (noB (isT rfl c23) rfl) ?_
          refine O.no rfl (noB (isT rfl c23) rfl) ?_
          refine O.no rfl (noB (isT rfl c23) rfl) ?_
          refine O.no rfl (noB (isT rfl c23) rfl) ?_
          refine O.no rfl (noB (isT rfl c23) rfl) ?_
          refine O.no rfl (noB (isT rfl c23) rfl) ?_
          refine O.pickT (isT rfl c23) ?_
          refine O.nil ?_
          refine hK9 _ _ ?_
          refine C.condT rfl ?_
          refine C.seqK fun K10 hK10 => ?_
          refine C.region ?_
          refine O.asg ?_
          refine O.nil ?_
          refine hK10 _ _ ?_
          refine C.ret ?_
          refine Outs.one rfl rfl ?_
          first
          | (refine ⟨congrArg Value.bool ?_, (Ext.trans e1 e_1)⟩
             have q : a.2.all Cn.smallI = false := Cn.all_no hk2 (Cn.smallI_no (by omega))
             unfold Cn.small
             rw [q, Bool.and_false])
          | (refine ⟨congrArg Value.bool ?_, (Ext.trans e1 e_1)⟩
             exact Cn.small_of (fun h i hi => hI i hi (by omega)))
        ·
          simp only [Int.toNat_natCast] at c23
          refine O.yes rfl (isF rfl c23) ?_
          refine O.fieldAd Tryz.underlying28 rfl Tryz.sizeOf26 (by decide) (Eq.trans s1_2 s1_1) ?_
          refine O.yes rfl (isF rfl c23) ?_
          refine O.loadO Tryz.isAgg26 rfl (h1.keep e_1) rfl ?_
          refine O.yes rfl (isF rfl c23) ?_
          refine O.mv ?_
          refine O.yes rfl (isF rfl c23) ?_
          refine O.idx Tryz.underlying26 Tryz.sizeOf56 rfl rfl ((hai.keep e1).keep e_1) (Eq.trans s3_2 s3_1) (by omega) (fun a27 h27 => ?_)
          refine O.yes rfl (isF rfl c23) ?_
          refine O.fieldAt Tryz.underlying56 rfl Tryz.sizeOf9 (by decide) rfl ?_
          refine O.yes rfl (isF rfl c23) ?_
          refine O.loadName Tryz.isAgg9 rfl h27 ?_
          refine O.yes rfl (isF rfl c23) ?_
          refine O.lenS Tryz.underlying9 rfl ?_
          refine O.yes rfl (isF rfl c23) ?_
          refine O.gtrI rfl rfl ?_
          refine O.pickF (isF rfl c23) ?_
          refine O.nil ?_
          refine hK9 _ _ ?_
          refine C.condD rfl (fun c32 => ?_) (fun c32 => ?_)
          ·
            simp only [Int.toNat_natCast] at c32
            refine C.seqK fun K11 hK11 => ?_
            refine C.region ?_
            refine O.asg ?_
            refine O.nil ?_
            refine hK11 _ _ ?_
            refine C.ret ?_
            refine Outs.one rfl rfl ?_
            first
            | (refine ⟨congrArg Value.bool ?_, (Ext.trans e1 e_1)⟩
               have q : a.2.all Cn.smallI = false := Cn.all_no hk2 (Cn.smallI_no (by omega))
               unfold Cn.small
               rw [q, Bool.and_false])
            | (refine ⟨congrArg Value.bool ?_, (Ext.trans e1 e_1)⟩
               exact Cn.small_of (fun h i hi => hI i hi (by omega)))
          ·
            simp only [Int.toNat_natCast] at c32
            refine C.skip ?_
            refine hK8 _ _ ?_
            refine hK7 _ _ ?_
            refine C.region ?_
            refine O.mv ?_
            refine O.addI (Eq.trans s3_2 s3_1) rfl (by unfold InI; omega) ?_
            refine O.asg ?_
            refine O.nil ?_
            refine ⟨k + 1, ⟨rfl, (Eq.trans s1_2 s1_1), e_1, ?_⟩, by first | omega | (simp only []; omega)⟩
            refine ⟨by omega, fun i hi hik => ?_⟩
            rcases Nat.lt_or_eq_of_le (Nat.le_of_lt_succ hik) with h | rfl
            · exact hI i hi h
            · exact Cn.smallI_yes (by omega) (by omega)
      ·
        refine C.exit ?_
        refine hK4 _ _ ?_
        refine hK2 _ _ ?_
        refine C.seqK fun K12 hK12 => ?_
        refine C.region ?_
        refine O.fieldAd Tryz.underlying28 rfl Tryz.sizeOf25 (by decide) (Eq.trans s1_2 s1_1) ?_
        refine O.fieldAd Tryz.underlying25 rfl Tryz.sizeOf23 (by decide) rfl ?_
        refine O.loadO Tryz.isAgg23 rfl (h1.keep e_1) rfl ?_
        refine O.len Tryz.underlying23 rfl ((hav.keep e1).keep e_1) ?_
        refine O.leqI rfl rfl ?_
        refine O.mv ?_
        refine O.cut 6 (fun f f' => f' 44 = .bool (decide ((a.1.1.length : Int) ≤ 40 ∧ (a.1.2.length : Int) ≤ 40)) ∧ f' 1 = f 1) ?_ ?_
        ·
          refine O.splitD (x := .tmp 38) rfl (fun c38 => ?_) (fun c38 => ?_)
          ·
            refine O.yes rfl (isT rfl c38) ?_
            refine O.fieldAd Tryz.underlying28 rfl Tryz.sizeOf25 (by decide) (Eq.trans s1_2 s1_1) ?_
            refine O.yes rfl (isT rfl c38) ?_
            refine O.fieldAd Tryz.underlying25 rfl Tryz.sizeOf22 (by decide) rfl ?_
            refine O.yes rfl (isT rfl c38) ?_
            refine O.loadO Tryz.isAgg22 rfl (h1.keep e_1) rfl ?_
            refine O.yes rfl (isT rfl c38) ?_
            refine O.len Tryz.underlying22 rfl ((hac.keep e1).keep e_1) ?_
            refine O.yes rfl (isT rfl c38) ?_
            refine O.leqI rfl rfl ?_
            refine O.pickT (isT rfl c38) ?_
            refine O.nil ?_
            refine ⟨⟨?_, rfl⟩, rfl⟩
            first | exact rfl | exact Eq.trans rfl (congrArg Value.bool (dAnd (by assumption))) | exact Eq.trans rfl (congrArg Value.bool (dAndF (by assumption))) | exact Eq.trans rfl (congrArg Value.bool (dOr (by assumption))) | exact Eq.trans rfl (congrArg Value.bool (dOrT (by assumption)))
          ·
            refine O.no rfl (noB (isF rfl c38) rfl) ?_
            refine O.no rfl (noB (isF rfl c38) rfl) ?_
            refine O.no rfl (noB (isF rfl c38) rfl) ?_
            refine O.no rfl (noB (isF rfl c38) rfl) ?_
            refine O.no rfl (noB (isF rfl c38) rfl) ?_
            refine O.pickF (isF rfl c38) ?_
            refine O.nil ?_
            refine ⟨⟨?_, rfl⟩, rfl⟩
            first | exact rfl | exact Eq.trans rfl (congrArg Value.bool (dAnd (by assumption))) | exact Eq.trans rfl (congrArg Value.bool (dAndF (by assumption))) | exact Eq.trans rfl (congrArg Value.bool (dOr (by assumption))) | exact Eq.trans rfl (congrArg Value.bool (dOrT (by assumption)))
        ·
          rintro f_3 ⟨s44_3, s1_3⟩
          refine O.mv ?_
          refine O.cut 5 (fun f f' => f' 50 = .bool (decide (((a.1.1.length : Int) ≤ 40 ∧ (a.1.2.length : Int) ≤ 40) ∧ (a.2.length : Int) ≤ 20))) ?_ ?_
          ·
            refine O.splitD (x := .tmp 45) s44_3 (fun c45 => ?_) (fun c45 => ?_)
            ·
              refine O.yes rfl (isT s44_3 c45) ?_
              refine O.fieldAd Tryz.underlying28 rfl Tryz.sizeOf26 (by decide) (Eq.trans s1_3 (Eq.trans s1_2 s1_1)) ?_
              refine O.yes rfl (isT s44_3 c45) ?_
              refine O.loadO Tryz.isAgg26 rfl (h1.keep e_1) rfl ?_
              refine O.yes rfl (isT s44_3 c45) ?_
              refine O.len Tryz.underlying26 rfl ((hai.keep e1).keep e_1) ?_
              refine O.yes rfl (isT s44_3 c45) ?_
              refine O.leqI rfl rfl ?_
              refine O.pickT (isT s44_3 c45) ?_
              refine O.nil ?_
              refine ⟨?_, rfl⟩
              first | exact rfl | exact Eq.trans rfl (congrArg Value.bool (dAnd (by assumption))) | exact Eq.trans rfl (congrArg Value.bool (dAndF (by assumption))) | exact Eq.trans rfl (congrArg Value.bool (dOr (by assumption))) | exact Eq.trans rfl (congrArg Value.bool (dOrT (by assumption)))
            ·
              refine O.no rfl (noB (isF s44_3 c45) rfl) ?_
              refine O.no rfl (noB (isF s44_3 c45) rfl) ?_
              refine O.no rfl (noB (isF s44_3 c45) rfl) ?_
              refine O.no rfl (noB (isF s44_3 c45) rfl) ?_
              refine O.pickF (isF s44_3 c45) ?_
              refine O.nil ?_
              refine ⟨?_, rfl⟩
              first | exact rfl | exact Eq.trans rfl (congrArg Value.bool (dAnd (by assumption))) | exact Eq.trans rfl (congrArg Value.bool (dAndF (by assumption))) | exact Eq.trans rfl (congrArg Value.bool (dOr (by assumption))) | exact Eq.trans rfl (congrArg Value.bool (dOrT (by assumption)))
          ·
            intro f_4 s50_4
            refine O.asg ?_
            refine O.nil ?_
            refine hK12 _ _ ?_
            refine C.ret ?_
            refine Outs.one rfl s50_4 ?_
            first
            | (refine ⟨congrArg Value.bool ?_, (Ext.trans e1 e_1)⟩
               have q : a.2.all Cn.smallI = false := Cn.all_no hk2 (Cn.smallI_no (by omega))
               unfold Cn.small
               rw [q, Bool.and_false])
            | (refine ⟨congrArg Value.bool ?_, (Ext.trans e1 e_1)⟩
               exact Cn.small_of (fun h i hi => hI i hi (by omega)))

set_option maxHeartbeats 4000000 in
theorem same_spec (va1 va2 va3 : Value) (a : Cn.Cart) (F : Nat → Prop) (vb1 vb2 vb3 : Value) (b : Cn.Cart) (F2 : Nat → Prop) (w : World) (hav : Sl Dt.dotF.enc w F va1 a.1.1) (hac : Sl Dt.dotF.enc w F va2 a.1.2) (hai : Sl itemE w F va3 a.2) (hbv : Sl Dt.dotF.enc w F2 vb1 b.1.1) (hbc : Sl Dt.dotF.enc w F2 vb2 b.1.2) (hbi : Sl itemE w F2 vb3 b.2) (hF : ∀ k, F k → k < w.heap.size) (hF2 : ∀ k, F2 k → k < w.heap.size) :
    Ret Tryz.prog 21 #[.agg #[va1, va2, va3], .agg #[vb1, vb2, vb3]] w (fun v w' => v = .bool (decide (a = b)) ∧ Le w w') := by
  have hle := hai.le
  have hle2 := hbi.le
  refine enter (args := [.agg #[va1, va2, va3], .agg #[vb1, vb2, vb3]]) (n := 85) Tryz.func21 rfl rfl (Nat.le_of_ble_eq_true rfl) ?_
  refine C.seqK fun K1 hK1 => ?_
  refine C.region ?_
  refine O.box (v := .agg #[va1, va2, va3]) rfl (fun b2 w1 hb2 hz2 e1 => ?_)
  have z1 := e1.size
  have h2 := hz2.own
  have hl2 := h2.lt
  refine O.box (v := .agg #[vb1, vb2, vb3]) rfl (fun b3 w2 hb3 hz3 e2 => ?_)
  have z2 := e2.size
  have h3 := hz3.own
  have hl3 := h3.lt
  refine O.asg ?_
  refine O.nil ?_
  refine hK1 _ _ ?_
  refine C.seqK fun K2 hK2 => ?_
  refine C.seqK fun K3 hK3 => ?_
  refine C.region ?_
  refine O.fieldAd Tryz.underlying28 rfl Tryz.sizeOf25 (by decide) rfl ?_
  refine O.fieldAd Tryz.underlying25 rfl Tryz.sizeOf23 (by decide) rfl ?_
  refine O.loadO Tryz.isAgg23 rfl (h2.keep e2) rfl ?_
  refine O.fieldAd Tryz.underlying28 rfl Tryz.sizeOf25 (by decide) rfl ?_
  refine O.fieldAd Tryz.underlying25 rfl Tryz.sizeOf23 (by decide) rfl ?_
  refine O.loadO Tryz.isAgg23 rfl h3 rfl ?_
  refine O.call Tryz.call48 (args2 rfl rfl) (sameD_spec va1 a.1.1 vb1 b.1.1 F F2 _ ((hav.keep e1).keep e2) ((hbv.keep e1).keep e2)) ?_
  rintro v_15 w3 ⟨rfl, e3⟩
  have z3 := e3.size
  refine O.not rfl ?_
  refine O.mv ?_
  refine O.split (x := .tmp 17) rfl (fun c17 => ?_) (fun c17 => ?_)
  ·
    refine O.no rfl (noB (isT' rfl c17) rfl) ?_
    refine O.no rfl (noB (isT' rfl c17) rfl) ?_
    refine O.no rfl (noB (isT' rfl c17) rfl) ?_
    refine O.no rfl (noB (isT' rfl c17) rfl) ?_
    refine O.no rfl (noB (isT' rfl c17) rfl) ?_
    refine O.no rfl (noB (isT' rfl c17) rfl) ?_
    refine O.no rfl (noB (isT' rfl c17) rfl) ?_
    refine O.no rfl (noB (isT' rfl c17) rfl) ?_
    refine O.pickT (isT' rfl c17) ?_
    refine O.mv ?_
    refine O.no rfl (noB rfl rfl) ?_
    refine O.no rfl (noB rfl rfl) ?_
    refine O.no rfl (noB rfl rfl) ?_
    refine O.no rfl (noB rfl rfl) ?_
    refine O.no rfl (noB rfl rfl) ?_
    refine O.no rfl (noB rfl rfl) ?_
    refine O.no rfl (noB rfl rfl) ?_
    refine O.pickT rfl ?_
    refine O.nil ?_
    refine hK3 _ _ ?_
    refine C.condT rfl ?_
    refine C.seqK fun K4 hK4 => ?_
    refine C.region ?_
    refine O.asg ?_
    refine O.nil ?_
    refine hK4 _ _ ?_
    refine C.ret ?_
    refine Outs.one rfl rfl ?_
    first
    | exact ⟨congrArg Value.bool (decide_eq_false (fun h => Cn.ne_of c17 (congrArg (fun x : Cn.Cart => x.1.1) h))).symm, (Ext.trans (Ext.trans e1 e2) e3)⟩
    | exact ⟨congrArg Value.bool (decide_eq_false (fun h => Cn.ne_of c27 (congrArg (fun x : Cn.Cart => x.1.2) h))).symm, (Ext.trans (Ext.trans e1 e2) e3)⟩
    | exact ⟨congrArg Value.bool (decide_eq_false (fun h => c35 (congrArg (fun x : Cn.Cart => (x.2.length : Int)) h))).symm, (Ext.trans (Ext.trans e1 e2) e3)⟩
    | exact ⟨congrArg Value.bool (decide_eq_false (fun h => c58 (congrArg Prod.fst (Cn.item_of h hi2 hi3)))).symm, (Ext.trans (Ext.trans e1 e2) e3)⟩
    | exact ⟨congrArg Value.bool (decide_eq_false (fun h => c66 (congrArg (fun x : ItemT => (x.2.length : Int)) (Cn.item_of h hi2 hi3)))).symm, (Ext.trans (Ext.trans e1 e2) e3)⟩
    | exact ⟨congrArg Value.bool (decide_eq_false (fun h => c84 (Cn.mark_of (Cn.item_of h hi2 hi3) hj2 hj3))).symm, (Ext.trans (Ext.trans e1 e2) e3)⟩
    | (obtain rfl : i = a.2.length := by omega
       rw [List.take_length, List.take_of_length_le (by omega)] at hI
       exact ⟨congrArg Value.bool (decide_eq_true (Prod.ext (Prod.ext q1 q2) hI)).symm, (Ext.trans (Ext.trans e1 e2) e3)⟩)
  ·
    refine O.yes rfl (isF' rfl c17) ?_
    refine O.fieldAd Tryz.underlying28 rfl Tryz.sizeOf25 (by decide) rfl ?_
    refine O.yes rfl (isF' rfl c17) ?_
    refine O.fieldAd Tryz.underlying25 rfl Tryz.sizeOf22 (by decide) rfl ?_
    refine O.yes rfl (isF' rfl c17) ?_
    refine O.loadO Tryz.isAgg22 rfl ((h2.keep e2).keep e3) rfl ?_
    refine O.yes rfl (isF' rfl c17) ?_
    refine O.fieldAd Tryz.underlying28 rfl Tryz.sizeOf25 (by decide) rfl ?_
    refine O.yes rfl (isF' rfl c17) ?_
    refine O.fieldAd Tryz.underlying25 rfl Tryz.sizeOf22 (by decide) rfl ?_
    refine O.yes rfl (isF' rfl c17) ?_
    refine O.loadO Tryz.isAgg22 rfl (h3.keep e3) rfl ?_
    refine O.yes rfl (isF' rfl c17) ?_
    refine O.call Tryz.call48 (args2 rfl rfl) (sameD_spec va2 a.1.2 vb2 b.1.2 F F2 _ (((hac.keep e1).keep e2).keep e3) (((hbc.keep e1).keep e2).keep e3)) ?_
    rintro v_24 w4 ⟨rfl, e4⟩
    have z4 := e4.size
    refine O.yes rfl (isF' rfl c17) ?_
    refine O.not rfl ?_
    refine O.pickF (isF' rfl c17) ?_
    refine O.mv ?_
    refine O.split (x := .tmp 27) rfl (fun c27 => ?_) (fun c27 => ?_)
    ·
      refine O.no rfl (noB (isT' rfl c27) rfl) ?_
      refine O.no rfl (noB (isT' rfl c27) rfl) ?_
      refine O.no rfl (noB (isT' rfl c27) rfl) ?_
      refine O.no rfl (noB (isT' rfl c27) rfl) ?_
      refine O.no rfl (noB (isT' rfl c27) rfl) ?_
      refine O.no rfl (noB (isT' rfl c27) rfl) ?_
      refine O.no rfl (noB (isT' rfl c27) rfl) ?_
      refine O.pickT (isT' rfl c27) ?_
      refine O.nil ?_
      refine hK3 _ _ ?_
      refine C.condT rfl ?_
      refine C.seqK fun K5 hK5 => ?_
      refine C.region ?_
      refine O.asg ?_
      refine O.nil ?_
      refine hK5 _ _ ?_
      refine C.ret ?_
      refine Outs.one rfl rfl ?_
      first
      | exact ⟨congrArg Value.bool (decide_eq_false (fun h => Cn.ne_of c17 (congrArg (fun x : Cn.Cart => x.1.1) h))).symm, (Ext.trans (Ext.trans (Ext.trans e1 e2) e3) e4)⟩
      | exact ⟨congrArg Value.bool (decide_eq_false (fun h => Cn.ne_of c27 (congrArg (fun x : Cn.Cart => x.1.2) h))).symm, (Ext.trans (Ext.trans (Ext.trans e1 e2) e3) e4)⟩
      | exact ⟨congrArg Value.bool (decide_eq_false (fun h => c35 (congrArg (fun x : Cn.Cart => (x.2.length : Int)) h))).symm, (Ext.trans (Ext.trans (Ext.trans e1 e2) e3) e4)⟩
      | exact ⟨congrArg Value.bool (decide_eq_false (fun h => c58 (congrArg Prod.fst (Cn.item_of h hi2 hi3)))).symm, (Ext.trans (Ext.trans (Ext.trans e1 e2) e3) e4)⟩
      | exact ⟨congrArg Value.bool (decide_eq_false (fun h => c66 (congrArg (fun x : ItemT => (x.2.length : Int)) (Cn.item_of h hi2 hi3)))).symm, (Ext.trans (Ext.trans (Ext.trans e1 e2) e3) e4)⟩
      | exact ⟨congrArg Value.bool (decide_eq_false (fun h => c84 (Cn.mark_of (Cn.item_of h hi2 hi3) hj2 hj3))).symm, (Ext.trans (Ext.trans (Ext.trans e1 e2) e3) e4)⟩
      | (obtain rfl : i = a.2.length := by omega
         rw [List.take_length, List.take_of_length_le (by omega)] at hI
         exact ⟨congrArg Value.bool (decide_eq_true (Prod.ext (Prod.ext q1 q2) hI)).symm, (Ext.trans (Ext.trans (Ext.trans e1 e2) e3) e4)⟩)
    ·
      refine O.yes rfl (isF' rfl c27) ?_
      refine O.fieldAd Tryz.underlying28 rfl Tryz.sizeOf26 (by decide) rfl ?_
      refine O.yes rfl (isF' rfl c27) ?_
      refine O.loadO Tryz.isAgg26 rfl (((h2.keep e2).keep e3).keep e4) rfl ?_
      refine O.yes rfl (isF' rfl c27) ?_
      refine O.len Tryz.underlying26 rfl ((((hai.keep e1).keep e2).keep e3).keep e4) ?_
      refine O.yes rfl (isF' rfl c27) ?_
      refine O.fieldAd Tryz.underlying28 rfl Tryz.sizeOf26 (by decide) rfl ?_
      refine O.yes rfl (isF' rfl c27) ?_
      refine O.loadO Tryz.isAgg26 rfl ((h3.keep e3).keep e4) rfl ?_
      refine O.yes rfl (isF' rfl c27) ?_
      refine O.len Tryz.underlying26 rfl ((((hbi.keep e1).keep e2).keep e3).keep e4) ?_
      refine O.yes rfl (isF' rfl c27) ?_
      refine O.neqI rfl rfl ?_
      refine O.pickF (isF' rfl c27) ?_
      refine O.nil ?_
      refine hK3 _ _ ?_
      refine C.condD rfl (fun c35 => ?_) (fun c35 => ?_)
      ·
        refine C.seqK fun K6 hK6 => ?_
        refine C.region ?_
        refine O.asg ?_
        refine O.nil ?_
        refine hK6 _ _ ?_
        refine C.ret ?_
        refine Outs.one rfl rfl ?_
        first
        | exact ⟨congrArg Value.bool (decide_eq_false (fun h => Cn.ne_of c17 (congrArg (fun x : Cn.Cart => x.1.1) h))).symm, (Ext.trans (Ext.trans (Ext.trans e1 e2) e3) e4)⟩
        | exact ⟨congrArg Value.bool (decide_eq_false (fun h => Cn.ne_of c27 (congrArg (fun x : Cn.Cart => x.1.2) h))).symm, (Ext.trans (Ext.trans (Ext.trans e1 e2) e3) e4)⟩
        | exact ⟨congrArg Value.bool (decide_eq_false (fun h => c35 (congrArg (fun x : Cn.Cart => (x.2.length : Int)) h))).symm, (Ext.trans (Ext.trans (Ext.trans e1 e2) e3) e4)⟩
        | exact ⟨congrArg Value.bool (decide_eq_false (fun h => c58 (congrArg Prod.fst (Cn.item_of h hi2 hi3)))).symm, (Ext.trans (Ext.trans (Ext.trans e1 e2) e3) e4)⟩
        | exact ⟨congrArg Value.bool (decide_eq_false (fun h => c66 (congrArg (fun x : ItemT => (x.2.length : Int)) (Cn.item_of h hi2 hi3)))).symm, (Ext.trans (Ext.trans (Ext.trans e1 e2) e3) e4)⟩
        | exact ⟨congrArg Value.bool (decide_eq_false (fun h => c84 (Cn.mark_of (Cn.item_of h hi2 hi3) hj2 hj3))).symm, (Ext.trans (Ext.trans (Ext.trans e1 e2) e3) e4)⟩
        | (obtain rfl : i = a.2.length := by omega
           rw [List.take_length, List.take_of_length_le (by omega)] at hI
           exact ⟨congrArg Value.bool (decide_eq_true (Prod.ext (Prod.ext q1 q2) hI)).symm, (Ext.trans (Ext.trans (Ext.trans e1 e2) e3) e4)⟩)
      ·
        have q1 : a.1.1 = b.1.1 := by simpa using c17
        have q2 : a.1.2 = b.1.2 := by simpa using c27
        have q3 : a.2.length = b.2.length := by omega
        refine C.skip ?_
        refine hK2 _ _ ?_
        refine C.seqK fun K7 hK7 => ?_
        refine C.seqK fun K8 hK8 => ?_
        refine C.region ?_
        refine O.asg ?_
        refine O.nil ?_
        refine hK8 _ _ ?_
        refine C.block fun K9 hK9 => ?_
        refine C.loop0 (σ := Nat) (fun f0 w0 i f w => f 5 = .int .i64 (i) ∧ f 2 = f0 2 ∧ f 3 = f0 3 ∧ Le w0 w ∧ i ≤ a.2.length ∧ a.2.take i = b.2.take i) (fun i => a.2.length - i) 0 ?_ ?_
        ·
          refine ⟨rfl, rfl, rfl, Le.refl _, ?_⟩
          exact ⟨Nat.zero_le _, rfl⟩
        ·
          rintro i f_1 w5 ⟨s5_1, s2_1, s3_1, e_1, ⟨hi, hI⟩⟩
          have z_1 := e_1.size
          refine C.seqK fun K10 hK10 => ?_
          refine C.seqK fun K11 hK11 => ?_
          refine C.region ?_
          refine O.mv ?_
          refine O.fieldAd Tryz.underlying28 rfl Tryz.sizeOf26 (by decide) s2_1 ?_
          refine O.loadO Tryz.isAgg26 rfl ((((h2.keep e2).keep e3).keep e4).keep e_1) rfl ?_
          refine O.len Tryz.underlying26 rfl (((((hai.keep e1).keep e2).keep e3).keep e4).keep e_1) ?_
          refine O.lssI s5_1 rfl ?_
          refine O.nil ?_
          refine hK11 _ _ ?_
          refine C.condD rfl (fun c40 => ?_) (fun c40 => ?_)
          ·
            have hi2 : i < a.2.length := by omega
            have hi3 : i < b.2.length := by omega
            refine C.skip ?_
            refine hK10 _ _ ?_
            refine C.seqK fun K12 hK12 => ?_
            refine C.block fun K13 hK13 => ?_
            refine C.seqK fun K14 hK14 => ?_
            refine C.join (fun f w f' w' => Le w w' ∧ f' 2 = f 2 ∧ f' 3 = f 3 ∧ f' 5 = f 5 ∧ ∃ (b6 : Nat) (b7 : Nat) (vx : Value) (vy : Value), f' 6 = .pointer (some ⟨b6, 0, none⟩) ∧ f' 7 = .pointer (some ⟨b7, 0, none⟩) ∧ Own w' b6 56 [str (a.2[i]'hi2).1, vx] ∧ Own w' b7 56 [str (b.2[i]'hi3).1, vy] ∧ Sl markF.enc w' F vx (a.2[i]'hi2).2 ∧ Sl markF.enc w' F2 vy (b.2[i]'hi3).2) ?_ ?_
            ·
              refine C.draw (by kernel_rfl) fun w6 e6 => ?_
              have z6 := e6.size
              refine D.take (i := 0) rfl rfl rfl rfl (by kernel_rfl) (Le.refl _) ⟨_, rfl⟩ (fun w_ hw_ N_ hN => (O.fieldAd Tryz.underlying28 rfl Tryz.sizeOf26 (by decide) s2_1 (O.nil hN))) ?_
              refine D.take (i := 1) rfl rfl rfl rfl (by kernel_rfl) (Le.refl _) ⟨_, rfl⟩ (fun w_ hw_ N_ hN => (O.loadO Tryz.isAgg26 rfl ((((((h2.keep e2).keep e3).keep e4).keep e_1).keep e6).keep hw_) rfl (O.nil hN))) ?_
              refine D.take (i := 2) rfl rfl rfl rfl (by kernel_rfl) (Le.refl _) ⟨pure _, rfl⟩ (fun w_ hw_ N_ hN => (O.mv (O.nil hN))) ?_
              obtain ⟨a46, h46, hr46⟩ := Sl.at (i := (i : Int)) (P := Tryz.prog) Tryz.underlying26 Tryz.sizeOf56 rfl ((((((hai.keep e1).keep e2).keep e3).keep e4).keep e_1).keep e6) (by omega)
              refine D.take (i := 3) rfl rfl rfl rfl (by kernel_rfl) (Le.refl _) ⟨_, rfl⟩ (fun w_ hw_ N_ hN => (O.idxR rfl s5_1 hr46 (O.nil hN))) ?_
              obtain ⟨s47, ha47, hm47⟩ := At.raw h46
              refine D.take (i := 4) rfl rfl rfl rfl (by kernel_rfl) (Le.refl _) ⟨_, rfl⟩ (fun w_ hw_ N_ hN => (O.loadG (G := itemF) Tryz.isAgg56 Tryz.sizeOf56 rfl (ha47.keep hw_) (O.nil hN))) ?_
              refine D.take (i := 5) rfl rfl rfl rfl (by kernel_rfl) (Le.refl _) ⟨_, rfl⟩ (fun w_ hw_ N_ hN => (O.fieldAd Tryz.underlying28 rfl Tryz.sizeOf26 (by decide) s3_1 (O.nil hN))) ?_
              refine D.take (i := 6) rfl rfl rfl rfl (by kernel_rfl) (Le.refl _) ⟨_, rfl⟩ (fun w_ hw_ N_ hN => (O.loadO Tryz.isAgg26 rfl (((((h3.keep e3).keep e4).keep e_1).keep e6).keep hw_) rfl (O.nil hN))) ?_
              refine D.take (i := 7) rfl rfl rfl rfl (by kernel_rfl) (Le.refl _) ⟨pure _, rfl⟩ (fun w_ hw_ N_ hN => (O.mv (O.nil hN))) ?_
              obtain ⟨a51, h51, hr51⟩ := Sl.at (i := (i : Int)) (P := Tryz.prog) Tryz.underlying26 Tryz.sizeOf56 rfl ((((((hbi.keep e1).keep e2).keep e3).keep e4).keep e_1).keep e6) (by omega)
              refine D.take (i := 8) rfl rfl rfl rfl (by kernel_rfl) (Le.refl _) ⟨_, rfl⟩ (fun w_ hw_ N_ hN => (O.idxR rfl s5_1 hr51 (O.nil hN))) ?_
              obtain ⟨s52, ha52, hm52⟩ := At.raw h51
              refine D.take (i := 9) rfl rfl rfl rfl (by kernel_rfl) (Le.refl _) ⟨_, rfl⟩ (fun w_ hw_ N_ hN => (O.loadG (G := itemF) Tryz.isAgg56 Tryz.sizeOf56 rfl (ha52.keep hw_) (O.nil hN))) ?_
              refine D.many [10, 11] (by kernel_rfl) (by decide) ⟨?_, ?_, trivial⟩
              ·
                refine D.stepU rfl rfl ?_
                refine O.alloc Tryz.zeroValue56 (fun b6 w7 hb6 hz6 e7 => ?_)
                have z7 := e7.size
                have h6 := hz6.own
                have hl6 := h6.lt
                refine O.nil ⟨e7, ?_⟩
                refine D.one (i := 11) rfl rfl (by kernel_rfl) ?_
                refine O.alloc Tryz.zeroValue56 (fun b7 w8 hb7 hz7 e8 => ?_)
                have z8 := e8.size
                have h7 := hz7.own
                have hl7 := h7.lt
                refine O.nil ⟨(Ext.trans e7 e8), ?_⟩
                refine D.one (i := 12) rfl rfl (by kernel_rfl) ?_
                refine O.storeA (vs := [str (a.2[i]'hi2).1, slv s47]) Tryz.sizeOf56 rfl rfl rfl (ones2 rfl) (h6.keep e8) (Nat.le_of_ble_eq_true rfl) (fun w9 hs9 e9 z9 => ?_)
                refine O.nil ⟨(Ext.new (Ext.trans e7 e8) e9 (by rintro i hi rfl; omega)), ?_⟩
                refine D.one (i := 13) rfl rfl (by kernel_rfl) ?_
                refine O.storeA (vs := [str (b.2[i]'hi3).1, slv s52]) Tryz.sizeOf56 rfl rfl rfl (ones2 rfl) (h7.keepM e9 (by intro h; (try dsimp only at h); omega)) (Nat.le_of_ble_eq_true rfl) (fun w10 hs10 e10 z10 => ?_)
                refine O.nil ⟨(Ext.new (Ext.new (Ext.trans e7 e8) e9 (by rintro i hi rfl; omega)) e10 (by rintro i hi rfl; omega)), ?_⟩
                refine D.done (by kernel_rfl) ?_
                exact ⟨(Ext.new (Ext.new (Ext.trans (Ext.trans e6 e7) e8) e9 (by rintro i hi rfl; omega)) e10 (by rintro i hi rfl; omega)), rfl, rfl, rfl, ⟨_, _, _, _, rfl, rfl, (hs9.keepM e10 (by intro h; (try dsimp only at h); omega)), hs10, ((((hm47.keep e7).keep e8).keepM e9 (by intro k hk h; first | (have q1 := hF k hk; (try dsimp only at h); omega) | (have q1 := hF2 k hk; (try dsimp only at h); omega) | (have q1 := hFb k hk; (try dsimp only at h); omega) | ((try dsimp only at hk); (try dsimp only at h); omega))).keepM e10 (by intro k hk h; first | (have q1 := hF k hk; (try dsimp only at h); omega) | (have q1 := hF2 k hk; (try dsimp only at h); omega) | (have q1 := hFb k hk; (try dsimp only at h); omega) | ((try dsimp only at hk); (try dsimp only at h); omega))), ((((hm52.keep e7).keep e8).keepM e9 (by intro k hk h; first | (have q1 := hF k hk; (try dsimp only at h); omega) | (have q1 := hF2 k hk; (try dsimp only at h); omega) | (have q1 := hFb k hk; (try dsimp only at h); omega) | ((try dsimp only at hk); (try dsimp only at h); omega))).keepM e10 (by intro k hk h; first | (have q1 := hF k hk; (try dsimp only at h); omega) | (have q1 := hF2 k hk; (try dsimp only at h); omega) | (have q1 := hFb k hk; (try dsimp only at h); omega) | ((try dsimp only at hk); (try dsimp only at h); omega)))⟩⟩
              ·
                refine D.stepU rfl rfl ?_
                refine O.alloc Tryz.zeroValue56 (fun b7 w11 hb7 hz7 e11 => ?_)
                have z11 := e11.size
                have h7 := hz7.own
                have hl7 := h7.lt
                refine O.nil ⟨e11, ?_⟩
                refine D.one (i := 10) rfl rfl (by kernel_rfl) ?_
                refine O.alloc Tryz.zeroValue56 (fun b6 w12 hb6 hz6 e12 => ?_)
                have z12 := e12.size
                have h6 := hz6.own
                have hl6 := h6.lt
                refine O.nil ⟨(Ext.trans e11 e12), ?_⟩
                refine D.one (i := 12) rfl rfl (by kernel_rfl) ?_
                refine O.storeA (vs := [str (a.2[i]'hi2).1, slv s47]) Tryz.sizeOf56 rfl rfl rfl (ones2 rfl) h6 (Nat.le_of_ble_eq_true rfl) (fun w13 hs13 e13 z13 => ?_)
                refine O.nil ⟨(Ext.new (Ext.trans e11 e12) e13 (by rintro i hi rfl; omega)), ?_⟩
                refine D.one (i := 13) rfl rfl (by kernel_rfl) ?_
                refine O.storeA (vs := [str (b.2[i]'hi3).1, slv s52]) Tryz.sizeOf56 rfl rfl rfl (ones2 rfl) ((h7.keep e12).keepM e13 (by intro h; (try dsimp only at h); omega)) (Nat.le_of_ble_eq_true rfl) (fun w14 hs14 e14 z14 => ?_)
                refine O.nil ⟨(Ext.new (Ext.new (Ext.trans e11 e12) e13 (by rintro i hi rfl; omega)) e14 (by rintro i hi rfl; omega)), ?_⟩
                refine D.done (by kernel_rfl) ?_
                exact ⟨(Ext.new (Ext.new (Ext.trans (Ext.trans e6 e11) e12) e13 (by rintro i hi rfl; omega)) e14 (by rintro i hi rfl; omega)), rfl, rfl, rfl, ⟨_, _, _, _, rfl, rfl, (hs13.keepM e14 (by intro h; (try dsimp only at h); omega)), hs14, ((((hm47.keep e11).keep e12).keepM e13 (by intro k hk h; first | (have q1 := hF k hk; (try dsimp only at h); omega) | (have q1 := hF2 k hk; (try dsimp only at h); omega) | (have q1 := hFb k hk; (try dsimp only at h); omega) | ((try dsimp only at hk); (try dsimp only at h); omega))).keepM e14 (by intro k hk h; first | (have q1 := hF k hk; (try dsimp only at h); omega) | (have q1 := hF2 k hk; (try dsimp only at h); omega) | (have q1 := hFb k hk; (try dsimp only at h); omega) | ((try dsimp only at hk); (try dsimp only at h); omega))), ((((hm52.keep e11).keep e12).keepM e13 (by intro k hk h; first | (have q1 := hF k hk; (try dsimp only at h); omega) | (have q1 := hF2 k hk; (try dsimp only at h); omega) | (have q1 := hFb k hk; (try dsimp only at h); omega) | ((try dsimp only at hk); (try dsimp only at h); omega))).keepM e14 (by intro k hk h; first | (have q1 := hF k hk; (try dsimp only at h); omega) | (have q1 := hF2 k hk; (try dsimp only at h); omega) | (have q1 := hFb k hk; (try dsimp only at h); omega) | ((try dsimp only at hk); (try dsimp only at h); omega)))⟩⟩
            ·
              rintro f_2 w15 ⟨e_2, s2_2, s3_2, s5_2, ⟨b6, b7, vx, vy, s6_2, s7_2, q0_2, q1_2, q2_2, q3_2⟩⟩
              have z_2 := e_2.size
              have hlx := q2_2.le
              have hly := q3_2.le
              refine hK14 _ _ ?_
              refine C.seqK fun K15 hK15 => ?_
              refine C.seqK fun K16 hK16 => ?_
              refine C.region ?_
              refine O.fieldAd Tryz.underlying56 rfl Tryz.sizeOf9 (by decide) s6_2 ?_
              refine O.loadO Tryz.isAgg9 rfl q0_2 rfl ?_
              refine O.fieldAd Tryz.underlying56 rfl Tryz.sizeOf9 (by decide) s7_2 ?_
              refine O.loadO Tryz.isAgg9 rfl q1_2 rfl ?_
              refine O.neqS rfl rfl ?_
              refine O.mv ?_
              refine O.splitD (x := .tmp 58) rfl (fun c58 => ?_) (fun c58 => ?_)
              ·
                refine O.no rfl (noB (isT rfl c58) rfl) ?_
                refine O.no rfl (noB (isT rfl c58) rfl) ?_
                refine O.no rfl (noB (isT rfl c58) rfl) ?_
                refine O.no rfl (noB (isT rfl c58) rfl) ?_
                refine O.no rfl (noB (isT rfl c58) rfl) ?_
                refine O.no rfl (noB (isT rfl c58) rfl) ?_
                refine O.no rfl (noB (isT rfl c58) rfl) ?_
                refine O.pickT (isT rfl c58) ?_
                refine O.nil ?_
                refine hK16 _ _ ?_
                refine C.condT rfl ?_
                refine C.seqK fun K17 hK17 => ?_
                refine C.region ?_
                refine O.asg ?_
                refine O.nil ?_
                refine hK17 _ _ ?_
                refine C.ret ?_
                refine Outs.one rfl rfl ?_
                first
                | exact ⟨congrArg Value.bool (decide_eq_false (fun h => Cn.ne_of c17 (congrArg (fun x : Cn.Cart => x.1.1) h))).symm, (Ext.trans (Ext.trans (Ext.trans (Ext.trans (Ext.trans e1 e2) e3) e4) e_1) e_2)⟩
                | exact ⟨congrArg Value.bool (decide_eq_false (fun h => Cn.ne_of c27 (congrArg (fun x : Cn.Cart => x.1.2) h))).symm, (Ext.trans (Ext.trans (Ext.trans (Ext.trans (Ext.trans e1 e2) e3) e4) e_1) e_2)⟩
                | exact ⟨congrArg Value.bool (decide_eq_false (fun h => c35 (congrArg (fun x : Cn.Cart => (x.2.length : Int)) h))).symm, (Ext.trans (Ext.trans (Ext.trans (Ext.trans (Ext.trans e1 e2) e3) e4) e_1) e_2)⟩
                | exact ⟨congrArg Value.bool (decide_eq_false (fun h => c58 (congrArg Prod.fst (Cn.item_of h hi2 hi3)))).symm, (Ext.trans (Ext.trans (Ext.trans (Ext.trans (Ext.trans e1 e2) e3) e4) e_1) e_2)⟩
                | exact ⟨congrArg Value.bool (decide_eq_false (fun h => c66 (congrArg (fun x : ItemT => (x.2.length : Int)) (Cn.item_of h hi2 hi3)))).symm, (Ext.trans (Ext.trans (Ext.trans (Ext.trans (Ext.trans e1 e2) e3) e4) e_1) e_2)⟩
                | exact ⟨congrArg Value.bool (decide_eq_false (fun h => c84 (Cn.mark_of (Cn.item_of h hi2 hi3) hj2 hj3))).symm, (Ext.trans (Ext.trans (Ext.trans (Ext.trans (Ext.trans e1 e2) e3) e4) e_1) e_2)⟩
                | (obtain rfl : i = a.2.length := by omega
                   rw [List.take_length, List.take_of_length_le (by omega)] at hI
                   exact ⟨congrArg Value.bool (decide_eq_true (Prod.ext (Prod.ext q1 q2) hI)).symm, (Ext.trans (Ext.trans (Ext.trans (Ext.trans (Ext.trans e1 e2) e3) e4) e_1) e_2)⟩)
              ·
                refine O.yes rfl (isF rfl c58) ?_
                refine O.fieldAd Tryz.underlying56 rfl Tryz.sizeOf54 (by decide) s6_2 ?_
                refine O.yes rfl (isF rfl c58) ?_
                refine O.loadO Tryz.isAgg54 rfl q0_2 rfl ?_
                refine O.yes rfl (isF rfl c58) ?_
                refine O.len Tryz.underlying54 rfl q2_2 ?_
                refine O.yes rfl (isF rfl c58) ?_
                refine O.fieldAd Tryz.underlying56 rfl Tryz.sizeOf54 (by decide) s7_2 ?_
                refine O.yes rfl (isF rfl c58) ?_
                refine O.loadO Tryz.isAgg54 rfl q1_2 rfl ?_
                refine O.yes rfl (isF rfl c58) ?_
                refine O.len Tryz.underlying54 rfl q3_2 ?_
                refine O.yes rfl (isF rfl c58) ?_
                refine O.neqI rfl rfl ?_
                refine O.pickF (isF rfl c58) ?_
                refine O.nil ?_
                refine hK16 _ _ ?_
                refine C.condD rfl (fun c66 => ?_) (fun c66 => ?_)
                ·
                  refine C.seqK fun K18 hK18 => ?_
                  refine C.region ?_
                  refine O.asg ?_
                  refine O.nil ?_
                  refine hK18 _ _ ?_
                  refine C.ret ?_
                  refine Outs.one rfl rfl ?_
                  first
                  | exact ⟨congrArg Value.bool (decide_eq_false (fun h => Cn.ne_of c17 (congrArg (fun x : Cn.Cart => x.1.1) h))).symm, (Ext.trans (Ext.trans (Ext.trans (Ext.trans (Ext.trans e1 e2) e3) e4) e_1) e_2)⟩
                  | exact ⟨congrArg Value.bool (decide_eq_false (fun h => Cn.ne_of c27 (congrArg (fun x : Cn.Cart => x.1.2) h))).symm, (Ext.trans (Ext.trans (Ext.trans (Ext.trans (Ext.trans e1 e2) e3) e4) e_1) e_2)⟩
                  | exact ⟨congrArg Value.bool (decide_eq_false (fun h => c35 (congrArg (fun x : Cn.Cart => (x.2.length : Int)) h))).symm, (Ext.trans (Ext.trans (Ext.trans (Ext.trans (Ext.trans e1 e2) e3) e4) e_1) e_2)⟩
                  | exact ⟨congrArg Value.bool (decide_eq_false (fun h => c58 (congrArg Prod.fst (Cn.item_of h hi2 hi3)))).symm, (Ext.trans (Ext.trans (Ext.trans (Ext.trans (Ext.trans e1 e2) e3) e4) e_1) e_2)⟩
                  | exact ⟨congrArg Value.bool (decide_eq_false (fun h => c66 (congrArg (fun x : ItemT => (x.2.length : Int)) (Cn.item_of h hi2 hi3)))).symm, (Ext.trans (Ext.trans (Ext.trans (Ext.trans (Ext.trans e1 e2) e3) e4) e_1) e_2)⟩
                  | exact ⟨congrArg Value.bool (decide_eq_false (fun h => c84 (Cn.mark_of (Cn.item_of h hi2 hi3) hj2 hj3))).symm, (Ext.trans (Ext.trans (Ext.trans (Ext.trans (Ext.trans e1 e2) e3) e4) e_1) e_2)⟩
                  | (obtain rfl : i = a.2.length := by omega
                     rw [List.take_length, List.take_of_length_le (by omega)] at hI
                     exact ⟨congrArg Value.bool (decide_eq_true (Prod.ext (Prod.ext q1 q2) hI)).symm, (Ext.trans (Ext.trans (Ext.trans (Ext.trans (Ext.trans e1 e2) e3) e4) e_1) e_2)⟩)
                ·
                  have q4 : (a.2[i]'hi2).1 = (b.2[i]'hi3).1 := Decidable.of_not_not c58
                  have q5 : (a.2[i]'hi2).2.length = (b.2[i]'hi3).2.length := by omega
                  refine C.skip ?_
                  refine hK15 _ _ ?_
                  refine C.seqK fun K19 hK19 => ?_
                  refine C.region ?_
                  refine O.asg ?_
                  refine O.nil ?_
                  refine hK19 _ _ ?_
                  refine C.block fun K20 hK20 => ?_
                  refine C.loop0 (σ := Nat) (fun f0 w0 j f w => f 8 = .int .i64 (j) ∧ f 2 = f0 2 ∧ f 3 = f0 3 ∧ f 5 = f0 5 ∧ f 6 = f0 6 ∧ f 7 = f0 7 ∧ Le w0 w ∧ j ≤ (a.2[i]'hi2).2.length ∧ (a.2[i]'hi2).2.take j = (b.2[i]'hi3).2.take j) (fun j => (a.2[i]'hi2).2.length - j) 0 ?_ ?_
                  ·
                    refine ⟨rfl, rfl, rfl, rfl, rfl, rfl, Le.refl _, ?_⟩
                    exact ⟨Nat.zero_le _, rfl⟩
                  ·
                    rintro j f_3 w16 ⟨s8_3, s2_3, s3_3, s5_3, s6_3, s7_3, e_3, ⟨hj, hJ⟩⟩
                    have z_3 := e_3.size
                    refine C.seqK fun K21 hK21 => ?_
                    refine C.seqK fun K22 hK22 => ?_
                    refine C.region ?_
                    refine O.mv ?_
                    refine O.fieldAd Tryz.underlying56 rfl Tryz.sizeOf54 (by decide) (Eq.trans s6_3 s6_2) ?_
                    refine O.loadO Tryz.isAgg54 rfl (q0_2.keep e_3) rfl ?_
                    refine O.len Tryz.underlying54 rfl (q2_2.keep e_3) ?_
                    refine O.lssI s8_3 rfl ?_
                    refine O.nil ?_
                    refine hK22 _ _ ?_
                    refine C.condD rfl (fun c71 => ?_) (fun c71 => ?_)
                    ·
                      have hj2 : j < (a.2[i]'hi2).2.length := by omega
                      have hj3 : j < (b.2[i]'hi3).2.length := by omega
                      refine C.skip ?_
                      refine hK21 _ _ ?_
                      refine C.seqK fun K23 hK23 => ?_
                      refine C.block fun K24 hK24 => ?_
                      refine C.seqK fun K25 hK25 => ?_
                      refine C.draw (by kernel_rfl) fun w17 e17 => ?_
                      have z17 := e17.size
                      refine D.take (i := 0) rfl rfl rfl rfl (by kernel_rfl) (Le.refl _) ⟨_, rfl⟩ (fun w_ hw_ N_ hN => (O.fieldAd Tryz.underlying56 rfl Tryz.sizeOf54 (by decide) (Eq.trans s6_3 s6_2) (O.nil hN))) ?_
                      refine D.take (i := 1) rfl rfl rfl rfl (by kernel_rfl) (Le.refl _) ⟨_, rfl⟩ (fun w_ hw_ N_ hN => (O.loadO Tryz.isAgg54 rfl (((q0_2.keep e_3).keep e17).keep hw_) rfl (O.nil hN))) ?_
                      refine D.take (i := 2) rfl rfl rfl rfl (by kernel_rfl) (Le.refl _) ⟨pure _, rfl⟩ (fun w_ hw_ N_ hN => (O.mv (O.nil hN))) ?_
                      obtain ⟨a77, h77, hr77⟩ := Sl.at (i := (j : Int)) (P := Tryz.prog) Tryz.underlying54 Tryz.sizeOf53 rfl ((q2_2.keep e_3).keep e17) (by omega)
                      refine D.take (i := 3) rfl rfl rfl rfl (by kernel_rfl) (Le.refl _) ⟨_, rfl⟩ (fun w_ hw_ N_ hN => (O.idxR rfl s8_3 hr77 (O.nil hN))) ?_
                      refine D.take (i := 4) rfl rfl rfl rfl (by kernel_rfl) (Le.refl _) ⟨_, rfl⟩ (fun w_ hw_ N_ hN => (O.loadG (G := markF) Tryz.isAgg53 Tryz.sizeOf53 rfl (h77.keep hw_) (O.nil hN))) ?_
                      refine D.take (i := 5) rfl rfl rfl rfl (by kernel_rfl) (Le.refl _) ⟨_, rfl⟩ (fun w_ hw_ N_ hN => (O.fieldAd Tryz.underlying56 rfl Tryz.sizeOf54 (by decide) (Eq.trans s7_3 s7_2) (O.nil hN))) ?_
                      refine D.take (i := 6) rfl rfl rfl rfl (by kernel_rfl) (Le.refl _) ⟨_, rfl⟩ (fun w_ hw_ N_ hN => (O.loadO Tryz.isAgg54 rfl (((q1_2.keep e_3).keep e17).keep hw_) rfl (O.nil hN))) ?_
                      refine D.take (i := 7) rfl rfl rfl rfl (by kernel_rfl) (Le.refl _) ⟨pure _, rfl⟩ (fun w_ hw_ N_ hN => (O.mv (O.nil hN))) ?_
                      obtain ⟨a82, h82, hr82⟩ := Sl.at (i := (j : Int)) (P := Tryz.prog) Tryz.underlying54 Tryz.sizeOf53 rfl ((q3_2.keep e_3).keep e17) (by omega)
                      refine D.take (i := 8) rfl rfl rfl rfl (by kernel_rfl) (Le.refl _) ⟨_, rfl⟩ (fun w_ hw_ N_ hN => (O.idxR rfl s8_3 hr82 (O.nil hN))) ?_
                      refine D.take (i := 9) rfl rfl rfl rfl (by kernel_rfl) (Le.refl _) ⟨_, rfl⟩ (fun w_ hw_ N_ hN => (O.loadG (G := markF) Tryz.isAgg53 Tryz.sizeOf53 rfl (h82.keep hw_) (O.nil hN))) ?_
                      refine D.take (i := 10) rfl rfl rfl rfl (by kernel_rfl) (Le.refl _) ⟨_, rfl⟩ (fun w_ hw_ N_ hN => (O.neqM (a := (a.2[i]'hi2).2[j]'hj2) (b := (b.2[i]'hi3).2[j]'hj3) (fun a b => run_eq_mark Tryz.underlying53 (by decide) (by decide) (by decide) rfl rfl rfl Tryz.underlying51 (by decide) (by decide) rfl rfl Tryz.underlying3 Tryz.underlying3 Tryz.underlying3 Tryz.underlying49 Tryz.isAgg3 Tryz.isAgg3 Tryz.isAgg51 Tryz.sizeOf51 Tryz.isAgg3 Tryz.isAgg49 (by kernel_rfl) (by kernel_rfl) a b) (by kernel_rfl) rfl rfl (O.nil hN))) ?_
                      refine D.done (by kernel_rfl) ?_
                      refine hK25 _ _ ?_
                      refine C.condD rfl (fun c84 => ?_) (fun c84 => ?_)
                      ·
                        try simp only [Int.toNat_natCast] at c84
                        refine C.seqK fun K26 hK26 => ?_
                        refine C.region ?_
                        refine O.asg ?_
                        refine O.nil ?_
                        refine hK26 _ _ ?_
                        refine C.ret ?_
                        refine Outs.one rfl rfl ?_
                        first
                        | exact ⟨congrArg Value.bool (decide_eq_false (fun h => Cn.ne_of c17 (congrArg (fun x : Cn.Cart => x.1.1) h))).symm, (Ext.trans (Ext.trans (Ext.trans (Ext.trans (Ext.trans (Ext.trans (Ext.trans e1 e2) e3) e4) e_1) e_2) e_3) e17)⟩
                        | exact ⟨congrArg Value.bool (decide_eq_false (fun h => Cn.ne_of c27 (congrArg (fun x : Cn.Cart => x.1.2) h))).symm, (Ext.trans (Ext.trans (Ext.trans (Ext.trans (Ext.trans (Ext.trans (Ext.trans e1 e2) e3) e4) e_1) e_2) e_3) e17)⟩
                        | exact ⟨congrArg Value.bool (decide_eq_false (fun h => c35 (congrArg (fun x : Cn.Cart => (x.2.length : Int)) h))).symm, (Ext.trans (Ext.trans (Ext.trans (Ext.trans (Ext.trans (Ext.trans (Ext.trans e1 e2) e3) e4) e_1) e_2) e_3) e17)⟩
                        | exact ⟨congrArg Value.bool (decide_eq_false (fun h => c58 (congrArg Prod.fst (Cn.item_of h hi2 hi3)))).symm, (Ext.trans (Ext.trans (Ext.trans (Ext.trans (Ext.trans (Ext.trans (Ext.trans e1 e2) e3) e4) e_1) e_2) e_3) e17)⟩
                        | exact ⟨congrArg Value.bool (decide_eq_false (fun h => c66 (congrArg (fun x : ItemT => (x.2.length : Int)) (Cn.item_of h hi2 hi3)))).symm, (Ext.trans (Ext.trans (Ext.trans (Ext.trans (Ext.trans (Ext.trans (Ext.trans e1 e2) e3) e4) e_1) e_2) e_3) e17)⟩
                        | exact ⟨congrArg Value.bool (decide_eq_false (fun h => c84 (Cn.mark_of (Cn.item_of h hi2 hi3) hj2 hj3))).symm, (Ext.trans (Ext.trans (Ext.trans (Ext.trans (Ext.trans (Ext.trans (Ext.trans e1 e2) e3) e4) e_1) e_2) e_3) e17)⟩
                        | (obtain rfl : i = a.2.length := by omega
                           rw [List.take_length, List.take_of_length_le (by omega)] at hI
                           exact ⟨congrArg Value.bool (decide_eq_true (Prod.ext (Prod.ext q1 q2) hI)).symm, (Ext.trans (Ext.trans (Ext.trans (Ext.trans (Ext.trans (Ext.trans (Ext.trans e1 e2) e3) e4) e_1) e_2) e_3) e17)⟩)
                      ·
                        refine C.skip ?_
                        refine hK24 _ _ ?_
                        refine hK23 _ _ ?_
                        refine C.region ?_
                        refine O.mv ?_
                        refine O.addI s8_3 rfl (by unfold InI; omega) ?_
                        refine O.asg ?_
                        refine O.nil ?_
                        refine ⟨j + 1, ⟨rfl, s2_3, s3_3, s5_3, s6_3, s7_3, (Ext.trans e_3 e17), ?_⟩, by first | omega | (simp only []; omega)⟩
                        refine ⟨by omega, ?_⟩
                        rw [List.take_succ_eq_append_getElem hj2, List.take_succ_eq_append_getElem hj3, hJ, Decidable.of_not_not c84]
                    ·
                      have hj4 : j = (a.2[i]'hi2).2.length := by omega
                      refine C.exit ?_
                      refine hK20 _ _ ?_
                      refine hK13 _ _ ?_
                      refine hK12 _ _ ?_
                      refine C.region ?_
                      refine O.mv ?_
                      refine O.addI (Eq.trans s5_3 (Eq.trans s5_2 s5_1)) rfl (by unfold InI; omega) ?_
                      refine O.asg ?_
                      refine O.nil ?_
                      refine ⟨i + 1, ⟨rfl, (Eq.trans s2_3 (Eq.trans s2_2 s2_1)), (Eq.trans s3_3 (Eq.trans s3_2 s3_1)), (Ext.trans (Ext.trans e_1 e_2) e_3), ?_⟩, by first | omega | (simp only []; omega)⟩
                      refine ⟨by omega, ?_⟩
                      have q6 : (a.2[i]'hi2).2 = (b.2[i]'hi3).2 := by rw [hj4, List.take_length, List.take_of_length_le (by omega)] at hJ; exact hJ
                      rw [List.take_succ_eq_append_getElem hi2, List.take_succ_eq_append_getElem hi3, hI, show (a.2[i]'hi2) = (b.2[i]'hi3) from Prod.ext q4 q6]
          ·
            refine C.exit ?_
            refine hK9 _ _ ?_
            refine hK7 _ _ ?_
            refine C.seqK fun K27 hK27 => ?_
            refine C.region ?_
            refine O.asg ?_
            refine O.nil ?_
            refine hK27 _ _ ?_
            refine C.ret ?_
            refine Outs.one rfl rfl ?_
            first
            | exact ⟨congrArg Value.bool (decide_eq_false (fun h => Cn.ne_of c17 (congrArg (fun x : Cn.Cart => x.1.1) h))).symm, (Ext.trans (Ext.trans (Ext.trans (Ext.trans e1 e2) e3) e4) e_1)⟩
            | exact ⟨congrArg Value.bool (decide_eq_false (fun h => Cn.ne_of c27 (congrArg (fun x : Cn.Cart => x.1.2) h))).symm, (Ext.trans (Ext.trans (Ext.trans (Ext.trans e1 e2) e3) e4) e_1)⟩
            | exact ⟨congrArg Value.bool (decide_eq_false (fun h => c35 (congrArg (fun x : Cn.Cart => (x.2.length : Int)) h))).symm, (Ext.trans (Ext.trans (Ext.trans (Ext.trans e1 e2) e3) e4) e_1)⟩
            | exact ⟨congrArg Value.bool (decide_eq_false (fun h => c58 (congrArg Prod.fst (Cn.item_of h hi2 hi3)))).symm, (Ext.trans (Ext.trans (Ext.trans (Ext.trans e1 e2) e3) e4) e_1)⟩
            | exact ⟨congrArg Value.bool (decide_eq_false (fun h => c66 (congrArg (fun x : ItemT => (x.2.length : Int)) (Cn.item_of h hi2 hi3)))).symm, (Ext.trans (Ext.trans (Ext.trans (Ext.trans e1 e2) e3) e4) e_1)⟩
            | exact ⟨congrArg Value.bool (decide_eq_false (fun h => c84 (Cn.mark_of (Cn.item_of h hi2 hi3) hj2 hj3))).symm, (Ext.trans (Ext.trans (Ext.trans (Ext.trans e1 e2) e3) e4) e_1)⟩
            | (obtain rfl : i = a.2.length := by omega
               rw [List.take_length, List.take_of_length_le (by omega)] at hI
               exact ⟨congrArg Value.bool (decide_eq_true (Prod.ext (Prod.ext q1 q2) hI)).symm, (Ext.trans (Ext.trans (Ext.trans (Ext.trans e1 e2) e3) e4) e_1)⟩)

end Go.Proofs.YtnkcmaoaagnopaaGreatDoor
end
section
/-
  The walks of a cart copied, of the laws' helpers, of what is known. Conditions: slices as they lie in memory.
-/
namespace Go.Proofs.YtnkcmaoaagnopaaGreatDoor
open Go.Pn Go.RowKit Go.Proofs
attribute [local irreducible] O C D
theorem ones3c {a b c : Value} (h1 : a.oneCell' = true) (h2 : b.oneCell' = true) (h3 : c.oneCell' = true) : ∀ u ∈ [a, b, c], u.oneCell' = true := by
  intro u hu
  simp only [List.mem_cons, List.not_mem_nil, or_false] at hu
  rcases hu with rfl | rfl | rfl <;> assumption

end Go.Proofs.YtnkcmaoaagnopaaGreatDoor
end
section
/-
  The walks of what is known, and of the laws. Conditions: slices as they lie in memory.
-/
namespace Go.Proofs.YtnkcmaoaagnopaaGreatDoor
open Go.Pn Go.RowKit Go.Proofs
attribute [local irreducible] O C D

end Go.Proofs.YtnkcmaoaagnopaaGreatDoor
end
section
/-
  What the rows' arguments give the walks; a world that holds the rows' listed variables.
-/
namespace Go.Proofs.YtnkcmaoaagnopaaGreatDoor
open Go.Pn Go.ChangeShapes Go.WideShapes Go.ChangeAt Go.RowKit
theorem pOwn : ownKnob Tryz.prog.godebug = none := by kernel_rfl
theorem pLaidOut : laidOutB Tryz.prog = true := by kernel_rfl
theorem opensDot (W : World) : Opens Tryz.prog W Dt.dotF.enc (fun _ => True) 51 :=
  (Opens.struct2 Tryz.underlying51 (Opens.int Tryz.underlying3 (by kernel_rfl)) (Opens.int Tryz.underlying3 (by kernel_rfl)) rfl rfl (by kernel_rfl)).imp rfl fun cs d h _ => by
    obtain ⟨a, b, rfl, ha, hb⟩ := h
    exact ⟨d, by rw [show a = [.int .i64 d.1] from ha, show b = [.int .i64 d.2] from hb]; rfl, trivial⟩
theorem opensItem (W : World) : Opens Tryz.prog W itemE (fun _ => True) 56 :=
  Opens.item (Opens.marks Tryz.underlying53 Tryz.underlying51 Tryz.underlying3 Tryz.underlying3 Tryz.underlying3 Tryz.underlying49 (by kernel_rfl) (by kernel_rfl) (by kernel_rfl) (by kernel_rfl) (by kernel_rfl) (by kernel_rfl) rfl rfl rfl rfl rfl) Tryz.underlying56 Tryz.underlying9 Tryz.underlying54 (by kernel_rfl) (by kernel_rfl) (by kernel_rfl) rfl rfl
theorem opensCart (W : World) : Opens Tryz.prog W (prE (prE (slE Dt.dotF.enc) (slE Dt.dotF.enc)) (slE itemE)) (fun _ => True) 28 :=
  (Opens.struct2 Tryz.underlying28 (Opens.struct2 Tryz.underlying25 ((opensDot W).slice Tryz.underlying23 (by kernel_rfl) (by decide)) ((opensDot W).slice Tryz.underlying22 (by kernel_rfl) (by decide)) rfl rfl (by kernel_rfl)) ((opensItem W).slice Tryz.underlying26 (by kernel_rfl) (by decide)) rfl rfl (by kernel_rfl)).imp rfl fun cs d h _ => ⟨d, h, trivial⟩
set_option maxRecDepth 100000 in
theorem carts_of {W : World} {H : Type} {enc : TypeId × Value → H} {base : Nat} {v : Value} {d : DataW H} {p : List MemPlace} (hval : Value.okWide Tryz.prog W .any base 63 v) (h : DataW.Trod enc Tryz.prog W 0 (fun _ => true) true 63 v d p) :
    ∃ l : List Cn.Cart, Sl (prE (prE (slE Dt.dotF.enc) (slE Dt.dotF.enc)) (slE itemE)) W (fun k => k < W.heap.size) v l := by
  obtain ⟨l, h1, _⟩ := arg_slice (opensCart W) Tryz.underlying63 (by kernel_rfl) (by decide) hval h
  exact ⟨l, h1⟩
/-- The library's variable. -/
theorem mx_of {W : World} (h : W.ShapedOpen Tryz.prog) : Mx W := ⟨Tryz.laysM144.s1_3 W h⟩
def pFlat : DataW Unit → List Value
  | .agg l => l.flatMap fun
    | .lit (.int k n) => [Value.int k n]
    | .agg l2 => l2.map fun
      | .lit (.int k n) => Value.int k n
      | _ => .nilIface
    | _ => [.nilIface]
  | _ => []
def pPut (h : Array Obj) (g : Nat) (cs : List Value) : Array Obj := h.modify g fun
  | .cells _ t frozen => .cells cs.toArray t frozen
  | o => o
noncomputable def pWorld (os : Os) : World :=
  { World.holding Tryz.prog os ⟨#[], #[], []⟩ with heap := pPut (pPut (World.holding Tryz.prog os ⟨#[], #[], []⟩).heap 1 (pFlat Rows.laid_unicode_utf8_first)) 2 (pFlat Rows.laid_unicode_utf8_acceptRanges) }
set_option maxRecDepth 100000 in
theorem pMet (os : Os) (args : Array Value) : laidMet Tryz.prog Rows.canonEncodesRow.laid ((pWorld os).forCall (fun _ _ => 0) ⟨#[], args, []⟩).memory :=
  laidMet_of_run' 8 (by kernel_rfl) (by kernel_rfl)
end Go.Proofs.YtnkcmaoaagnopaaGreatDoor
end
section
/-
  The walks of a reader of bytes: a number. Conditions: slices as they lie in memory.
-/
namespace Go.Proofs.YtnkcmaoaagnopaaGreatDoor
open Go.Pn Go.RowKit Go.Proofs
attribute [local irreducible] O C D

theorem rest_spec (b : Nat) (vr : Value) (l : List UInt8) (k : Nat) (F : Nat → Prop) (w : World) (ho : Own w b 152 [.bool true, vr, .int .i64 ((k : Int))]) (hl : Sl byteE w F vr l) (hk : k ≤ l.length) (hF : ∀ j, F j → j ≠ b ∧ j < w.heap.size) :
    Ret Tryz.prog 146 #[.pointer (some ⟨b, 0, none⟩)] w (fun v w' => Le w w' ∧ Sl byteE w' F v (l.drop k)) := by
  have _hF9 := hF
  have _hk9 := hk
  have hbl := ho.lt
  have hll := hl.le
  refine enter (args := [.pointer (some ⟨b, 0, none⟩)]) (n := 12) Tryz.func146 rfl rfl (Nat.le_of_ble_eq_true rfl) ?_
  refine C.seqK fun K1 hK1 => ?_
  refine C.region ?_
  refine O.asg ?_
  refine O.nil ?_
  refine hK1 _ _ ?_
  refine C.seqK fun K2 hK2 => ?_
  refine C.draw (by kernel_rfl) fun w1 e1 => ?_
  have z1 := e1.size
  refine D.take (i := 0) rfl rfl rfl rfl (by kernel_rfl) (Le.refl _) ⟨pure _, rfl⟩ (fun w_ hw_ N_ hN => (O.mv (O.nil hN))) ?_
  refine D.take (i := 1) rfl rfl rfl rfl (by kernel_rfl) (Le.refl _) (nil_form rfl) (fun w_ hw_ N_ hN => (O.nilChk rfl (O.nil hN))) ?_
  refine D.take (i := 2) rfl rfl rfl rfl (by kernel_rfl) (Le.refl _) ⟨_, rfl⟩ (fun w_ hw_ N_ hN => (O.fieldAd Tryz.underlying152 rfl Tryz.sizeOf32 (by decide) rfl (O.nil hN))) ?_
  refine D.take (i := 3) rfl rfl rfl rfl (by kernel_rfl) (Le.refl _) ⟨_, rfl⟩ (fun w_ hw_ N_ hN => (O.loadO Tryz.isAgg32 rfl ((ho.keep e1).keep hw_) rfl (O.nil hN))) ?_
  refine D.take (i := 4) rfl rfl rfl rfl (by kernel_rfl) (Le.refl _) ⟨pure _, rfl⟩ (fun w_ hw_ N_ hN => (O.mv (O.nil hN))) ?_
  refine D.take (i := 5) rfl rfl rfl rfl (by kernel_rfl) (Le.refl _) (nil_form rfl) (fun w_ hw_ N_ hN => (O.nilChk rfl (O.nil hN))) ?_
  refine D.take (i := 6) rfl rfl rfl rfl (by kernel_rfl) (Le.refl _) ⟨_, rfl⟩ (fun w_ hw_ N_ hN => (O.fieldAd Tryz.underlying152 rfl Tryz.sizeOf3 (by decide) rfl (O.nil hN))) ?_
  refine D.take (i := 7) rfl rfl rfl rfl (by kernel_rfl) (Le.refl _) ⟨_, rfl⟩ (fun w_ hw_ N_ hN => (O.loadO Tryz.isAgg3 rfl ((ho.keep e1).keep hw_) rfl (O.nil hN))) ?_
  have hb11 := Sl.sub (P := Tryz.prog) (k) (l.length) Tryz.underlying32 Tryz.sizeOf5 (by rfl) (hl.keep e1) hk (Nat.le_refl _)
  obtain ⟨v11, hs11, hr11⟩ := hb11
  refine D.take (i := 8) rfl rfl rfl rfl (by kernel_rfl) (Le.refl _) ⟨_, rfl⟩ (fun w_ hw_ N_ hN => (O.subR rfl hr11 (.inr ⟨_, _, rfl, rfl⟩) (.inl ⟨rfl, rfl⟩) (O.nil hN))) ?_
  refine D.take (i := 9) rfl rfl rfl rfl (by kernel_rfl) (Le.refl _) ⟨pure _, rfl⟩ (fun w_ hw_ N_ hN => (O.asg (O.nil hN))) ?_
  refine D.done (by kernel_rfl) ?_
  refine hK2 _ _ ?_
  refine C.ret ?_
  refine Outs.one rfl rfl ?_
  have q := hs11
  rw [List.take_length] at q
  exact ⟨e1, q⟩

theorem zero_spec (b : Nat) (vr : Value) (l : List UInt8) (k : Nat) (F : Nat → Prop) (w : World) (ho : Own w b 152 [.bool true, vr, .int .i64 ((k : Int))]) (hl : Sl byteE w F vr l) (hk : k ≤ l.length) (hF : ∀ j, F j → j ≠ b ∧ j < w.heap.size) :
    Ret Tryz.prog 110 #[.pointer (some ⟨b, 0, none⟩)] w (fun v w' => v = .bool false ∧ w' = w) := by
  have _hF9 := hF
  have _hk9 := hk
  have hbl := ho.lt
  have hll := hl.le
  refine enter (args := [.pointer (some ⟨b, 0, none⟩)]) (n := 12) Tryz.func110 rfl rfl (Nat.le_of_ble_eq_true rfl) ?_
  refine C.seqK fun K1 hK1 => ?_
  refine C.region ?_
  refine O.asg ?_
  refine O.nil ?_
  refine hK1 _ _ ?_
  refine C.seqK fun K2 hK2 => ?_
  refine C.region ?_
  refine O.mv ?_
  refine O.eqlP0 Tryz.underlying130 rfl ?_
  refine O.mv ?_
  refine O.yes rfl rfl ?_
  refine O.mv ?_
  refine O.yes rfl rfl ?_
  refine O.nilChk rfl ?_
  refine O.yes rfl rfl ?_
  refine O.fieldAd Tryz.underlying152 rfl Tryz.sizeOf4 (by decide) rfl ?_
  refine O.yes rfl rfl ?_
  refine O.loadO Tryz.isAgg4 rfl ho rfl ?_
  refine O.yes rfl rfl ?_
  refine O.not rfl ?_
  refine O.pickF rfl ?_
  refine O.asg ?_
  refine O.nil ?_
  refine hK2 _ _ ?_
  refine C.ret ?_
  refine Outs.one rfl rfl ?_
  exact ⟨rfl, rfl⟩

theorem num1_spec (c : BitVec 8) (w : World) :
    Ret Tryz.prog 163 #[.int .u8 ((c).toNat : Int)] w (fun v w' => v = .bool (decide (c < 128#8)) ∧ Le w w') := by
  refine enter (args := [.int .u8 ((c).toNat : Int)]) (n := 5) Tryz.func163 rfl rfl (Nat.le_of_ble_eq_true rfl) ?_
  refine C.seqK fun K1 hK1 => ?_
  refine C.region ?_
  refine O.asg ?_
  refine O.nil ?_
  refine hK1 _ _ ?_
  refine C.seqK fun K2 hK2 => ?_
  refine C.region ?_
  refine O.mv ?_
  refine O.lssU (m := 8) (b := 128#8) rfl rfl ?_
  refine O.asg ?_
  refine O.nil ?_
  refine hK2 _ _ ?_
  refine C.ret ?_
  refine Outs.one rfl rfl ?_
  exact ⟨rfl, (Le.refl _)⟩

theorem pred_small (M : Nat → Prop) (w : World) : Pred Tryz.prog M w (.func (.func 163) #[] #[]) (fun c : UInt8 => .int .u8 (c.toNat : Int)) Cn.small7 := ⟨163, [], rfl, Tryz.call163, fun c w' _ => by
  have h := num1_spec c.toBitVec w'
  refine h.mono ?_
  rintro v w2 ⟨rfl, e⟩
  exact ⟨congrArg Value.bool (decide_eq_decide.2 (by rw [BitVec.lt_def]; exact Iff.rfl)), e⟩⟩
theorem indexB_spec (v0 vf : Value) (l : List UInt8) (F M : Nat → Prop) (p : UInt8 → Bool) (w : World) (hl : Sl byteE w F v0 l) (hp : Pred Tryz.prog M w vf (fun c : UInt8 => .int .u8 (c.toNat : Int)) p) :
    Ret Tryz.prog 162 #[v0, vf] w (fun v w' => v = .int .i64 (Cn.idx p l) ∧ Le w w') := by
  have hle := hl.le
  refine enter (args := [v0, vf]) (n := 19) Tryz.func162 rfl rfl (Nat.le_of_ble_eq_true rfl) ?_
  refine C.seqK fun K1 hK1 => ?_
  refine C.region ?_
  refine O.asg ?_
  refine O.nil ?_
  refine hK1 _ _ ?_
  refine C.seqK fun K2 hK2 => ?_
  refine C.seqK fun K3 hK3 => ?_
  refine C.region ?_
  refine O.mv ?_
  refine O.len Tryz.underlying32 rfl hl ?_
  refine O.mv ?_
  refine O.nil ?_
  refine hK3 _ _ ?_
  refine C.block fun K4 hK4 => ?_
  refine C.loop0 (σ := Nat) (fun f0 w0 k f wz => f 8 = .int .i64 (k) ∧ f 0 = f0 0 ∧ f 1 = f0 1 ∧ f 7 = f0 7 ∧ Le w wz ∧ k ≤ l.length ∧ ∀ i, ∀ h : i < l.length, i < k → p l[i] = false) (fun k => l.length - k) 0 ?_ ?_
  ·
    refine ⟨rfl, rfl, rfl, rfl, (Le.refl _), ?_⟩
    exact ⟨Nat.zero_le _, fun i h k => absurd k (Nat.not_lt_zero _)⟩
  ·
    rintro k f_1 w1 ⟨s8_1, s0_1, s1_1, s7_1, e_1, ⟨hk, hI⟩⟩
    have z_1 := e_1.size
    refine C.seqK fun K5 hK5 => ?_
    refine C.region ?_
    refine O.lssI s8_1 s7_1 ?_
    refine O.nil ?_
    refine hK5 _ _ ?_
    refine C.seqK fun K6 hK6 => ?_
    refine C.condD rfl (fun c9 => ?_) (fun c9 => ?_)
    ·
      have hk2 : k < l.length := by omega
      refine C.skip ?_
      refine hK6 _ _ ?_
      refine C.seqK fun K7 hK7 => ?_
      refine C.block fun K8 hK8 => ?_
      refine C.seqK fun K9 hK9 => ?_
      refine C.region ?_
      refine O.mv ?_
      refine O.asg ?_
      refine O.nil ?_
      refine hK9 _ _ ?_
      refine C.seqK fun K10 hK10 => ?_
      refine C.region ?_
      refine O.mv ?_
      refine O.mv ?_
      refine O.mv ?_
      refine O.idx Tryz.underlying32 Tryz.sizeOf5 rfl s0_1 (hl.keep e_1) s8_1 (by omega) (fun a14 h14 => ?_)
      refine O.loadB Tryz.isAgg5 rfl h14 ?_
      refine O.callP (l[k]'hk2) (hp.keep e_1) s1_1 rfl (fun w2 e2 => ?_)
      have z2 := e2.size
      refine O.nil ?_
      refine hK10 _ _ ?_
      refine C.cond rfl (fun c16 => ?_) (fun c16 => ?_)
      ·
        refine C.seqK fun K11 hK11 => ?_
        refine C.region ?_
        refine O.mv ?_
        refine O.asg ?_
        refine O.nil ?_
        refine hK11 _ _ ?_
        refine C.ret ?_
        refine Outs.one rfl s8_1 ?_
        first
        | exact ⟨congrArg (Value.int .i64) (Cn.idx_yes hk2 c16 hI).symm, (Ext.trans e_1 e2)⟩
        | exact ⟨congrArg (Value.int .i64) (Cn.idx_no fun i hi => hI i hi (by omega)).symm, (Ext.trans e_1 e2)⟩
      ·
        refine C.skip ?_
        refine hK8 _ _ ?_
        refine hK7 _ _ ?_
        refine C.region ?_
        refine O.addI s8_1 rfl (by unfold InI; omega) ?_
        refine O.mv ?_
        refine O.nil ?_
        refine ⟨k + 1, ⟨rfl, s0_1, s1_1, s7_1, (Ext.trans e_1 e2), ?_⟩, by first | omega | (simp only []; omega)⟩
        refine ⟨by omega, fun i hi hik => ?_⟩
        rcases Nat.lt_or_eq_of_le (Nat.le_of_lt_succ hik) with h | rfl
        · exact hI i hi h
        · exact c16
    ·
      refine C.exit ?_
      refine hK4 _ _ ?_
      refine hK2 _ _ ?_
      refine C.seqK fun K12 hK12 => ?_
      refine C.region ?_
      refine O.asg ?_
      refine O.nil ?_
      refine hK12 _ _ ?_
      refine C.ret ?_
      refine Outs.one rfl rfl ?_
      first
      | exact ⟨congrArg (Value.int .i64) (Cn.idx_yes hk2 c16 hI).symm, e_1⟩
      | exact ⟨congrArg (Value.int .i64) (Cn.idx_no fun i hi => hI i hi (by omega)).symm, e_1⟩

set_option maxHeartbeats 4000000 in
theorem rdnum_spec (b : Nat) (vr : Value) (l : List UInt8) (k : Nat) (F : Nat → Prop) (w : World) (ho : Own w b 152 [.bool true, vr, .int .i64 ((k : Int))]) (hl : Sl byteE w F vr l) (hk : k ≤ l.length) (hF : ∀ j, F j → j ≠ b ∧ j < w.heap.size) (hL : l.length ≤ 1000000) :
    Ret Tryz.prog 148 #[.pointer (some ⟨b, 0, none⟩)] w (fun v w' => ∃ (n : BitVec 64) (e : Int) (k' : Nat), v = .tuple #[.int .u64 (n.toNat : Int), .int .i64 e] ∧ Own w' b 152 [.bool true, vr, .int .i64 ((k' : Int))] ∧ ((e = 0 ∧ Cn.Seg (Cn.num n.toNat) l k k') ∨ (0 < e ∧ n = 0#64 ∧ k' = k ∧ Cn.No (fun _ : BitVec 64 => True) (fun q => Cn.num q.toNat) l k)) ∧ Ext (fun j => j = b) w w') := by
  have _hF9 := hF
  have _hk9 := hk
  have hbl := ho.lt
  have hll := hl.le
  obtain ⟨x, hx⟩ : ∃ x, x = l.drop k := ⟨_, rfl⟩
  have hxl : x.length = l.length - k := by rw [hx, List.length_drop]
  refine enter (args := [.pointer (some ⟨b, 0, none⟩)]) (n := 73) Tryz.func148 rfl rfl (Nat.le_of_ble_eq_true rfl) ?_
  refine C.seqK fun K1 hK1 => ?_
  refine C.region ?_
  refine O.asg ?_
  refine O.asg ?_
  refine O.nil ?_
  refine hK1 _ _ ?_
  refine C.seqK fun K2 hK2 => ?_
  refine C.region ?_
  refine O.mv ?_
  refine O.call Tryz.call146 (args1 rfl) (rest_spec b vr l k F _ ho hl hk (fun j hj => by have q1 := hF j hj; omega)) ?_
  rintro v_9 w1 ⟨e1, h9⟩
  have z1 := e1.size
  rw [← hx] at h9
  refine O.asg ?_
  refine O.nil ?_
  refine hK2 _ _ ?_
  refine C.seqK fun K3 hK3 => ?_
  refine C.region ?_
  refine O.mv ?_
  refine O.mv ?_
  refine O.len Tryz.underlying32 rfl h9 ?_
  refine O.minI rfl rfl ?_
  refine O.cast (v' := .int .i64 ((min x.length 10 : Nat) : Int)) (congrArg (Value.int .i64) (by omega)) ?_
  have hb14 := Sl.sub (P := Tryz.prog) (0) (min x.length 10) Tryz.underlying32 Tryz.sizeOf5 (by rfl) h9 (Nat.zero_le _) (by omega)
  obtain ⟨v14, hs14, hr14⟩ := hb14
  refine O.subR rfl hr14 (.inl ⟨rfl, rfl⟩) (.inr ⟨_, _, rfl, rfl⟩) ?_
  rw [List.drop_zero, Cn.take_min] at hs14
  refine O.call Tryz.call162 (args2 rfl rfl) (indexB_spec _ _ (x.take 10) _ (fun _ => False) _ _ hs14 (pred_small _ _)) ?_
  rintro v_15 w2 ⟨rfl, e2⟩
  have z2 := e2.size
  obtain ⟨e, he⟩ : ∃ e, e = Cn.endN x := ⟨_, rfl⟩
  have hge : -1 ≤ e := by rw [he]; exact Cn.endN_ge x
  have hat : 0 ≤ e → e.toNat < x.length ∧ e ≤ 9 := fun h => by
    have := Cn.endN_at (x := x) (e := e.toNat) (by omega)
    exact ⟨this.1, by omega⟩
  have hed : e = Cn.endN (l.drop k) := by rw [← hx]; exact he
  obtain ⟨y, hy⟩ : ∃ y, y = x.getD e.toNat 0 := ⟨_, rfl⟩
  have q1 : (y.toBitVec = 0#8) ↔ y.toNat = 0 := ⟨fun h => by rw [← UInt8.toNat_toBitVec, h]; rfl, fun h => BitVec.eq_of_toNat_eq h⟩
  have q2 : (1#8 < y.toBitVec) ↔ 1 < y.toNat := by rw [BitVec.lt_def]; exact Iff.rfl
  refine O.cast (v' := .int .i64 e) (by rw [he]; rfl) ?_
  refine O.asg ?_
  refine O.nil ?_
  refine hK3 _ _ ?_
  refine C.seqK fun K4 hK4 => ?_
  refine C.block fun K5 hK5 => ?_
  refine C.seqK fun K6 hK6 => ?_
  refine C.region ?_
  refine O.mv ?_
  refine O.lssI rfl rfl ?_
  refine O.mv ?_
  refine O.cut 4 (fun f f' => f' 23 = .bool (decide (e < 0 ∧ ((x.length : Nat) : Int) < 10)) ∧ f' 0 = f 0 ∧ f' 2 = f 2 ∧ f' 3 = f 3 ∧ f' 4 = f 4 ∧ f' 5 = f 5) ?_ ?_
  ·
    refine O.splitD (x := .tmp 19) rfl (fun c19 => ?_) (fun c19 => ?_)
    ·
      refine O.yes rfl (isT rfl c19) ?_
      refine O.mv ?_
      refine O.yes rfl (isT rfl c19) ?_
      refine O.len Tryz.underlying32 rfl (h9.keep e2) ?_
      refine O.yes rfl (isT rfl c19) ?_
      refine O.lssI rfl rfl ?_
      refine O.pickT (isT rfl c19) ?_
      refine O.nil ?_
      refine ⟨⟨?_, rfl, rfl, rfl, rfl, rfl⟩, rfl⟩
      first | exact rfl | exact Eq.trans rfl (congrArg Value.bool (dAnd (by assumption))) | exact Eq.trans rfl (congrArg Value.bool (dAndF (by assumption))) | exact Eq.trans rfl (congrArg Value.bool (dOr (by assumption))) | exact Eq.trans rfl (congrArg Value.bool (dOrT (by assumption)))
    ·
      refine O.no rfl (noB (isF rfl c19) rfl) ?_
      refine O.no rfl (noB (isF rfl c19) rfl) ?_
      refine O.no rfl (noB (isF rfl c19) rfl) ?_
      refine O.pickF (isF rfl c19) ?_
      refine O.nil ?_
      refine ⟨⟨?_, rfl, rfl, rfl, rfl, rfl⟩, rfl⟩
      first | exact rfl | exact Eq.trans rfl (congrArg Value.bool (dAnd (by assumption))) | exact Eq.trans rfl (congrArg Value.bool (dAndF (by assumption))) | exact Eq.trans rfl (congrArg Value.bool (dOr (by assumption))) | exact Eq.trans rfl (congrArg Value.bool (dOrT (by assumption)))
  ·
    rintro f_1 ⟨s23_1, s0_1, s2_1, s3_1, s4_1, s5_1⟩
    refine O.asg ?_
    refine O.nil ?_
    refine hK6 _ _ ?_
    refine C.condD s23_1 (fun c16 => ?_) (fun c16 => ?_)
    ·
      refine C.seqK fun K7 hK7 => ?_
      refine C.region ?_
      refine O.asg ?_
      refine O.asg ?_
      refine O.nil ?_
      refine hK7 _ _ ?_
      refine C.ret ?_
      refine Outs.two rfl rfl rfl ?_
      first
      | exact ⟨0#64, 4, k, rfl, ((ho.keep e1).keep e2), .inr ⟨by decide, rfl, rfl, Cn.bad_no hed (.inl (by omega))⟩, (Ext.new (Ext.new (Ext.refl _ _) e1 (by intro i hi hk; first | exact hk.elim | ((try dsimp only at hk); (try dsimp only); omega))) e2 (by intro i hi hk; first | exact hk.elim | ((try dsimp only at hk); (try dsimp only); omega)))⟩
      | exact ⟨0#64, 12, k, rfl, ((ho.keep e1).keep e2), .inr ⟨by decide, rfl, rfl, Cn.bad_no hed (by rw [← hx]; exact c24)⟩, (Ext.new (Ext.new (Ext.refl _ _) e1 (by intro i hi hk; first | exact hk.elim | ((try dsimp only at hk); (try dsimp only); omega))) e2 (by intro i hi hk; first | exact hk.elim | ((try dsimp only at hk); (try dsimp only); omega)))⟩
      | (obtain rfl : j = 0 := by omega
         exact ⟨_, 0, k + (e.toNat + 1), rfl, ((ho.keep e1).keep e2), .inl ⟨rfl, by rw [hx]; exact hgood⟩, (Ext.new (Ext.new (Ext.refl _ _) e1 (by intro i hi hk; first | exact hk.elim | ((try dsimp only at hk); (try dsimp only); omega))) e2 (by intro i hi hk; first | exact hk.elim | ((try dsimp only at hk); (try dsimp only); omega)))⟩)
    ·
      refine C.seqK fun K8 hK8 => ?_
      refine C.region ?_
      refine O.mv ?_
      refine O.lssI s5_1 rfl ?_
      refine O.mv ?_
      refine O.cut 21 (fun f f' => f' 48 = .bool (decide (Cn.badN x e)) ∧ f' 0 = f 0 ∧ f' 2 = f 2 ∧ f' 3 = f 3 ∧ f' 4 = f 4 ∧ f' 5 = f 5) ?_ ?_
      ·
        refine O.splitD (x := .tmp 27) rfl (fun c27 => ?_) (fun c27 => ?_)
        ·
          refine O.no rfl (noB (isT rfl c27) rfl) ?_
          refine O.no rfl (noB (isT rfl c27) rfl) ?_
          refine O.no rfl (noB (isT rfl c27) rfl) ?_
          refine O.no rfl (noU rfl) ?_
          refine O.no rfl (noU rfl) ?_
          refine O.no rfl (noU rfl) ?_
          refine O.no rfl (noU rfl) ?_
          refine O.no rfl (noU rfl) ?_
          refine O.no rfl (noB (isT rfl c27) rfl) ?_
          refine O.pickT (isT rfl c27) ?_
          refine O.mv ?_
          refine O.no rfl (noB rfl rfl) ?_
          refine O.no rfl (noB rfl rfl) ?_
          refine O.no rfl (noB rfl rfl) ?_
          refine O.no rfl (noU rfl) ?_
          refine O.no rfl (noU rfl) ?_
          refine O.no rfl (noU rfl) ?_
          refine O.no rfl (noU rfl) ?_
          refine O.no rfl (noU rfl) ?_
          refine O.no rfl (noB rfl rfl) ?_
          refine O.pickT rfl ?_
          refine O.nil ?_
          refine ⟨⟨?_, rfl, rfl, rfl, rfl, rfl⟩, rfl⟩
          refine Eq.trans rfl (congrArg Value.bool ?_)
          try rw [q1] at c38
          first
          | (refine (decide_eq_true ?_).symm; unfold Cn.badN; rw [← hy]; omega)
          | (refine (decide_eq_false ?_).symm; unfold Cn.badN; rw [← hy]; omega)
          | (refine decide_eq_decide.2 ?_; unfold Cn.badN; rw [← hy, q2]; omega)
        ·
          have hat2 := hat (by omega)
          refine O.yes rfl (isF rfl c27) ?_
          refine O.mv ?_
          refine O.yes rfl (isF rfl c27) ?_
          refine O.gtrI s5_1 rfl ?_
          refine O.yes rfl (isF rfl c27) ?_
          refine O.mv ?_
          refine O.splitD (x := .tmp 30) rfl (fun c30 => ?_) (fun c30 => ?_)
          ·
            refine O.yes rfl (isT rfl c30) ?_
            refine O.mv ?_
            refine O.yes rfl (isT rfl c30) ?_
            refine O.mv ?_
            refine O.yes rfl (isT rfl c30) ?_
            refine O.idx Tryz.underlying32 Tryz.sizeOf5 rfl s4_1 (h9.keep e2) s5_1 (by omega) (fun a33 h33 => ?_)
            refine O.yes rfl (isT rfl c30) ?_
            refine O.loadB Tryz.isAgg5 rfl h33 ?_
            refine O.cast (v' := .int .u8 (y.toBitVec.toNat : Int)) (by rw [hy, Cn.getD_at (by omega)]) ?_
            refine O.yes rfl (isT rfl c30) ?_
            refine O.eqlU (m := 8) (b := 0#8) rfl rfl ?_
            refine O.yes rfl (isF rfl c27) ?_
            refine O.pickT (isT rfl c30) ?_
            refine O.pickF (isF rfl c27) ?_
            refine O.mv ?_
            refine O.splitD (x := .tmp 38) rfl (fun c38 => ?_) (fun c38 => ?_)
            ·
              refine O.no rfl (noB (isT rfl c38) rfl) ?_
              refine O.no rfl (noB (isT rfl c38) rfl) ?_
              refine O.no rfl (noB (isT rfl c38) rfl) ?_
              refine O.no rfl (noU rfl) ?_
              refine O.no rfl (noU rfl) ?_
              refine O.no rfl (noU rfl) ?_
              refine O.no rfl (noU rfl) ?_
              refine O.no rfl (noU rfl) ?_
              refine O.no rfl (noB (isT rfl c38) rfl) ?_
              refine O.pickT (isT rfl c38) ?_
              refine O.nil ?_
              refine ⟨⟨?_, rfl, rfl, rfl, rfl, rfl⟩, rfl⟩
              refine Eq.trans rfl (congrArg Value.bool ?_)
              try rw [q1] at c38
              first
              | (refine (decide_eq_true ?_).symm; unfold Cn.badN; rw [← hy]; omega)
              | (refine (decide_eq_false ?_).symm; unfold Cn.badN; rw [← hy]; omega)
              | (refine decide_eq_decide.2 ?_; unfold Cn.badN; rw [← hy, q2]; omega)
            ·
              refine O.yes rfl (isF rfl c38) ?_
              refine O.mv ?_
              refine O.yes rfl (isF rfl c38) ?_
              refine O.eqlI s5_1 rfl ?_
              refine O.yes rfl (isF rfl c38) ?_
              refine O.mv ?_
              refine O.splitD (x := .tmp 41) rfl (fun c41 => ?_) (fun c41 => ?_)
              ·
                refine O.yes rfl (isT rfl c41) ?_
                refine O.mv ?_
                refine O.yes rfl (isT rfl c41) ?_
                refine O.mv ?_
                refine O.yes rfl (isT rfl c41) ?_
                refine O.idx Tryz.underlying32 Tryz.sizeOf5 rfl s4_1 (h9.keep e2) s5_1 (by omega) (fun a44 h44 => ?_)
                refine O.yes rfl (isT rfl c41) ?_
                refine O.loadB Tryz.isAgg5 rfl h44 ?_
                refine O.cast (v' := .int .u8 (y.toBitVec.toNat : Int)) (by rw [hy, Cn.getD_at (by omega)]) ?_
                refine O.yes rfl (isT rfl c41) ?_
                refine O.gtrU (m := 8) (b := 1#8) rfl rfl ?_
                refine O.yes rfl (isF rfl c38) ?_
                refine O.pickT (isT rfl c41) ?_
                refine O.pickF (isF rfl c38) ?_
                refine O.nil ?_
                refine ⟨⟨?_, rfl, rfl, rfl, rfl, rfl⟩, rfl⟩
                refine Eq.trans rfl (congrArg Value.bool ?_)
                try rw [q1] at c38
                first
                | (refine (decide_eq_true ?_).symm; unfold Cn.badN; rw [← hy]; omega)
                | (refine (decide_eq_false ?_).symm; unfold Cn.badN; rw [← hy]; omega)
                | (refine decide_eq_decide.2 ?_; unfold Cn.badN; rw [← hy, q2]; omega)
              ·
                refine O.no rfl (noB (isF rfl c41) rfl) ?_
                refine O.no rfl (noB (isF rfl c41) rfl) ?_
                refine O.no rfl (noB (isF rfl c41) rfl) ?_
                refine O.no rfl (noB (isF rfl c41) rfl) ?_
                refine O.no rfl (noB (isF rfl c41) rfl) ?_
                refine O.yes rfl (isF rfl c38) ?_
                refine O.pickF (isF rfl c41) ?_
                refine O.pickF (isF rfl c38) ?_
                refine O.nil ?_
                refine ⟨⟨?_, rfl, rfl, rfl, rfl, rfl⟩, rfl⟩
                refine Eq.trans rfl (congrArg Value.bool ?_)
                try rw [q1] at c38
                first
                | (refine (decide_eq_true ?_).symm; unfold Cn.badN; rw [← hy]; omega)
                | (refine (decide_eq_false ?_).symm; unfold Cn.badN; rw [← hy]; omega)
                | (refine decide_eq_decide.2 ?_; unfold Cn.badN; rw [← hy, q2]; omega)
          ·
            refine O.no rfl (noB (isF rfl c30) rfl) ?_
            refine O.no rfl (noB (isF rfl c30) rfl) ?_
            refine O.no rfl (noB (isF rfl c30) rfl) ?_
            refine O.no rfl (noB (isF rfl c30) rfl) ?_
            refine O.no rfl (noB (isF rfl c30) rfl) ?_
            refine O.yes rfl (isF rfl c27) ?_
            refine O.pickF (isF rfl c30) ?_
            refine O.pickF (isF rfl c27) ?_
            refine O.mv ?_
            refine O.yes rfl rfl ?_
            refine O.mv ?_
            refine O.yes rfl rfl ?_
            refine O.eqlI s5_1 rfl ?_
            refine O.yes rfl rfl ?_
            refine O.mv ?_
            refine O.splitD (x := .tmp 41) rfl (fun c41 => ?_) (fun c41 => ?_)
            ·
              refine O.yes rfl (isT rfl c41) ?_
              refine O.mv ?_
              refine O.yes rfl (isT rfl c41) ?_
              refine O.mv ?_
              refine O.yes rfl (isT rfl c41) ?_
              refine O.idx Tryz.underlying32 Tryz.sizeOf5 rfl s4_1 (h9.keep e2) s5_1 (by omega) (fun a44 h44 => ?_)
              refine O.yes rfl (isT rfl c41) ?_
              refine O.loadB Tryz.isAgg5 rfl h44 ?_
              refine O.cast (v' := .int .u8 (y.toBitVec.toNat : Int)) (by rw [hy, Cn.getD_at (by omega)]) ?_
              refine O.yes rfl (isT rfl c41) ?_
              refine O.gtrU (m := 8) (b := 1#8) rfl rfl ?_
              refine O.yes rfl rfl ?_
              refine O.pickT (isT rfl c41) ?_
              refine O.pickF rfl ?_
              refine O.nil ?_
              refine ⟨⟨?_, rfl, rfl, rfl, rfl, rfl⟩, rfl⟩
              refine Eq.trans rfl (congrArg Value.bool ?_)
              try rw [q1] at c38
              first
              | (refine (decide_eq_true ?_).symm; unfold Cn.badN; rw [← hy]; omega)
              | (refine (decide_eq_false ?_).symm; unfold Cn.badN; rw [← hy]; omega)
              | (refine decide_eq_decide.2 ?_; unfold Cn.badN; rw [← hy, q2]; omega)
            ·
              refine O.no rfl (noB (isF rfl c41) rfl) ?_
              refine O.no rfl (noB (isF rfl c41) rfl) ?_
              refine O.no rfl (noB (isF rfl c41) rfl) ?_
              refine O.no rfl (noB (isF rfl c41) rfl) ?_
              refine O.no rfl (noB (isF rfl c41) rfl) ?_
              refine O.yes rfl rfl ?_
              refine O.pickF (isF rfl c41) ?_
              refine O.pickF rfl ?_
              refine O.nil ?_
              refine ⟨⟨?_, rfl, rfl, rfl, rfl, rfl⟩, rfl⟩
              refine Eq.trans rfl (congrArg Value.bool ?_)
              try rw [q1] at c38
              first
              | (refine (decide_eq_true ?_).symm; unfold Cn.badN; rw [← hy]; omega)
              | (refine (decide_eq_false ?_).symm; unfold Cn.badN; rw [← hy]; omega)
              | (refine decide_eq_decide.2 ?_; unfold Cn.badN; rw [← hy, q2]; omega)
      ·
        rintro f_2 ⟨s48_2, s0_2, s2_2, s3_2, s4_2, s5_2⟩
        refine O.asg ?_
        refine O.nil ?_
        refine hK8 _ _ ?_
        refine C.condD s48_2 (fun c24 => ?_) (fun c24 => ?_)
        ·
          refine C.seqK fun K9 hK9 => ?_
          refine C.region ?_
          refine O.asg ?_
          refine O.asg ?_
          refine O.nil ?_
          refine hK9 _ _ ?_
          refine C.ret ?_
          refine Outs.two rfl rfl rfl ?_
          first
          | exact ⟨0#64, 4, k, rfl, ((ho.keep e1).keep e2), .inr ⟨by decide, rfl, rfl, Cn.bad_no hed (.inl (by omega))⟩, (Ext.new (Ext.new (Ext.refl _ _) e1 (by intro i hi hk; first | exact hk.elim | ((try dsimp only at hk); (try dsimp only); omega))) e2 (by intro i hi hk; first | exact hk.elim | ((try dsimp only at hk); (try dsimp only); omega)))⟩
          | exact ⟨0#64, 12, k, rfl, ((ho.keep e1).keep e2), .inr ⟨by decide, rfl, rfl, Cn.bad_no hed (by rw [← hx]; exact c24)⟩, (Ext.new (Ext.new (Ext.refl _ _) e1 (by intro i hi hk; first | exact hk.elim | ((try dsimp only at hk); (try dsimp only); omega))) e2 (by intro i hi hk; first | exact hk.elim | ((try dsimp only at hk); (try dsimp only); omega)))⟩
          | (obtain rfl : j = 0 := by omega
             exact ⟨_, 0, k + (e.toNat + 1), rfl, ((ho.keep e1).keep e2), .inl ⟨rfl, by rw [hx]; exact hgood⟩, (Ext.new (Ext.new (Ext.refl _ _) e1 (by intro i hi hk; first | exact hk.elim | ((try dsimp only at hk); (try dsimp only); omega))) e2 (by intro i hi hk; first | exact hk.elim | ((try dsimp only at hk); (try dsimp only); omega)))⟩)
        ·
          have hgood := Cn.good_num hk hed (by rw [← hx]; exact c24)
          have he0 : 0 ≤ e := by unfold Cn.badN at c24; omega
          have hat2 := hat he0
          refine C.skip ?_
          refine hK5 _ _ ?_
          refine hK4 _ _ ?_
          refine C.seqK fun K10 hK10 => ?_
          refine C.region ?_
          refine O.asg ?_
          refine O.nil ?_
          refine hK10 _ _ ?_
          refine C.seqK fun K11 hK11 => ?_
          refine C.seqK fun K12 hK12 => ?_
          refine C.region ?_
          refine O.mv ?_
          refine O.asg ?_
          refine O.nil ?_
          refine hK12 _ _ ?_
          refine C.block fun K13 hK13 => ?_
          refine C.loop0 (σ := Nat) (fun f0 w0 j f w => f 6 = .int .u64 ((BitVec.ofNat 64 (Cn.valN ((x.take (e.toNat + 1)).drop j))).toNat : Int) ∧ f 7 = .int .i64 ((j : Int) - 1) ∧ f 0 = f0 0 ∧ f 2 = f0 2 ∧ f 3 = f0 3 ∧ f 4 = f0 4 ∧ f 5 = f0 5 ∧ Le w0 w ∧ j ≤ e.toNat + 1) (fun j => j) (e.toNat + 1) ?_ ?_
          ·
            refine ⟨(Eq.trans rfl (by rw [List.drop_of_length_le (by rw [List.length_take]; omega)]; rfl)), (Eq.trans (Eq.trans s5_2 s5_1) (i64_eq (by omega))), rfl, rfl, rfl, rfl, rfl, Le.refl _, ?_⟩
            exact Nat.le_refl _
          ·
            rintro j f_3 w3 ⟨s6_3, s7_3, s0_3, s2_3, s3_3, s4_3, s5_3, e_3, hj⟩
            have z_3 := e_3.size
            refine C.seqK fun K14 hK14 => ?_
            refine C.seqK fun K15 hK15 => ?_
            refine C.region ?_
            refine O.mv ?_
            refine O.geqI s7_3 rfl ?_
            refine O.nil ?_
            refine hK15 _ _ ?_
            refine C.condD rfl (fun c51 => ?_) (fun c51 => ?_)
            ·
              refine C.skip ?_
              refine hK14 _ _ ?_
              refine C.seqK fun K16 hK16 => ?_
              refine C.block fun K17 hK17 => ?_
              refine C.region ?_
              refine O.mv ?_
              refine O.shlU (m := 64) (c := 7) rfl rfl s6_3 rfl ?_
              refine O.mv ?_
              refine O.mv ?_
              refine O.idx Tryz.underlying32 Tryz.sizeOf5 rfl (Eq.trans s4_3 (Eq.trans s4_2 s4_1)) ((h9.keep e2).keep e_3) s7_3 (by omega) (fun a58 h58 => ?_)
              refine O.loadB Tryz.isAgg5 rfl h58 ?_
              refine O.andNotU (m := 8) (b := 128#8) rfl rfl rfl rfl ?_
              refine O.convUU (m := 8) (m' := 64) Tryz.underlying5 Tryz.underlying49 rfl rfl rfl ?_
              refine O.orU (m := 64) rfl rfl rfl rfl ?_
              refine O.asg ?_
              refine O.nil ?_
              refine hK17 _ _ ?_
              refine hK16 _ _ ?_
              refine C.region ?_
              refine O.mv ?_
              refine O.subI s7_3 rfl (by unfold InI; omega) ?_
              refine O.asg ?_
              refine O.nil ?_
              refine ⟨(j - 1), ⟨(Eq.trans rfl (congrArg (fun q : BitVec 64 => Value.int .u64 (q.toNat : Int)) (by rw [Cn.valN_step (i := j - 1) (by omega) (by omega), show j - 1 + 1 = j by omega]; simp only [show ((j : Int) - 1).toNat = j - 1 by omega]; exact Cn.group _ _))), (Eq.trans rfl (i64_eq (by omega))), s0_3, s2_3, s3_3, s4_3, s5_3, e_3, ?_⟩, by first | omega | (simp only []; omega)⟩
              omega
            ·
              refine C.exit ?_
              refine hK13 _ _ ?_
              refine hK11 _ _ ?_
              refine C.seqK fun K18 hK18 => ?_
              refine C.region ?_
              refine O.mv ?_
              refine O.nilChk (Eq.trans s0_3 (Eq.trans s0_2 s0_1)) ?_
              refine O.fieldAd Tryz.underlying152 rfl Tryz.sizeOf3 (by decide) rfl ?_
              refine O.loadO Tryz.isAgg3 rfl (((ho.keep e1).keep e2).keep e_3) rfl ?_
              refine O.mv ?_
              refine O.addI (Eq.trans s5_3 (Eq.trans s5_2 s5_1)) rfl (by unfold InI; omega) ?_
              refine O.addI rfl rfl (by unfold InI; omega) ?_
              refine O.cast (v' := .int .i64 ((k + (e.toNat + 1) : Nat) : Int)) (congrArg (Value.int .i64) (by omega)) ?_
              refine O.nilChk (Eq.trans s0_3 (Eq.trans s0_2 s0_1)) ?_
              refine O.fieldAd Tryz.underlying152 rfl Tryz.sizeOf3 (by decide) rfl ?_
              refine O.store Tryz.sizeOf3 rfl rfl rfl (((ho.keep e1).keep e2).keep e_3) (by simp) (fun w4 hs4 e4 z4 => ?_)
              try simp only [Nat.zero_add] at hs4
              refine O.nil ?_
              refine hK18 _ _ ?_
              refine C.seqK fun K19 hK19 => ?_
              refine C.region ?_
              refine O.mv ?_
              refine O.asg ?_
              refine O.asg ?_
              refine O.nil ?_
              refine hK19 _ _ ?_
              refine C.ret ?_
              refine Outs.two rfl s6_3 rfl ?_
              first
              | exact ⟨0#64, 4, k, rfl, hs4, .inr ⟨by decide, rfl, rfl, Cn.bad_no hed (.inl (by omega))⟩, (Ext.new (Ext.new (Ext.new (Ext.new (Ext.refl _ _) e1 (by intro i hi hk; first | exact hk.elim | ((try dsimp only at hk); (try dsimp only); omega))) e2 (by intro i hi hk; first | exact hk.elim | ((try dsimp only at hk); (try dsimp only); omega))) e_3 (by intro i hi hk; first | exact hk.elim | ((try dsimp only at hk); (try dsimp only); omega))) e4 (by intro i hi hk; first | exact hk.elim | ((try dsimp only at hk); (try dsimp only); omega)))⟩
              | exact ⟨0#64, 12, k, rfl, hs4, .inr ⟨by decide, rfl, rfl, Cn.bad_no hed (by rw [← hx]; exact c24)⟩, (Ext.new (Ext.new (Ext.new (Ext.new (Ext.refl _ _) e1 (by intro i hi hk; first | exact hk.elim | ((try dsimp only at hk); (try dsimp only); omega))) e2 (by intro i hi hk; first | exact hk.elim | ((try dsimp only at hk); (try dsimp only); omega))) e_3 (by intro i hi hk; first | exact hk.elim | ((try dsimp only at hk); (try dsimp only); omega))) e4 (by intro i hi hk; first | exact hk.elim | ((try dsimp only at hk); (try dsimp only); omega)))⟩
              | (obtain rfl : j = 0 := by omega
                 exact ⟨_, 0, k + (e.toNat + 1), rfl, hs4, .inl ⟨rfl, by rw [hx]; exact hgood⟩, (Ext.new (Ext.new (Ext.new (Ext.new (Ext.refl _ _) e1 (by intro i hi hk; first | exact hk.elim | ((try dsimp only at hk); (try dsimp only); omega))) e2 (by intro i hi hk; first | exact hk.elim | ((try dsimp only at hk); (try dsimp only); omega))) e_3 (by intro i hi hk; first | exact hk.elim | ((try dsimp only at hk); (try dsimp only); omega))) e4 (by intro i hi hk; first | exact hk.elim | ((try dsimp only at hk); (try dsimp only); omega)))⟩)

set_option maxHeartbeats 1000000 in
theorem wholeN_spec (b : Nat) (vr : Value) (l : List UInt8) (k : Nat) (F : Nat → Prop) (w : World) (ho : Own w b 152 [.bool true, vr, .int .i64 ((k : Int))]) (hl : Sl byteE w F vr l) (hk : k ≤ l.length) (hF : ∀ j, F j → j ≠ b ∧ j < w.heap.size) (hL : l.length ≤ 1000000) :
    Ret Tryz.prog 147 #[.pointer (some ⟨b, 0, none⟩), .func (.func 148) #[] #[]] w (fun v w' => ∃ (n : BitVec 64) (e : Int) (k' : Nat), v = .tuple #[.int .u64 (n.toNat : Int), .int .i64 e] ∧ Own w' b 152 [.bool true, vr, .int .i64 ((k' : Int))] ∧ ((e = 0 ∧ Cn.Seg (Cn.num n.toNat) l k k') ∨ (0 < e ∧ n = 0#64 ∧ k' = k ∧ Cn.No (fun _ : BitVec 64 => True) (fun q => Cn.num q.toNat) l k)) ∧ Ext (fun j => j = b) w w') := by
  have _hF9 := hF
  have _hk9 := hk
  have hbl := ho.lt
  have hll := hl.le
  refine enter (args := [.pointer (some ⟨b, 0, none⟩), .func (.func 148) #[] #[]]) (n := 32) Tryz.func147 rfl rfl (Nat.le_of_ble_eq_true rfl) ?_
  refine C.seqK fun K1 hK1 => ?_
  refine C.region ?_
  refine O.asg ?_
  refine O.asg ?_
  refine O.nil ?_
  refine hK1 _ _ ?_
  refine C.seqK fun K2 hK2 => ?_
  refine C.region ?_
  refine O.asg ?_
  refine O.nil ?_
  refine hK2 _ _ ?_
  refine C.seqK fun K3 hK3 => ?_
  refine C.seqK fun K4 hK4 => ?_
  refine C.region ?_
  refine O.mv ?_
  refine O.call Tryz.call110 (args1 rfl) (zero_spec b vr l _ F _ ho hl (by omega) (fun j hj => by have q1 := hF j hj; omega)) ?_
  rintro v_11 w1 ⟨rfl, hw_⟩
  replace hw_ := hw_.symm
  subst hw_
  refine O.nil ?_
  refine hK4 _ _ ?_
  refine C.condF rfl ?_
  refine C.skip ?_
  refine hK3 _ _ ?_
  refine C.seqK fun K5 hK5 => ?_
  refine C.region ?_
  refine O.mv ?_
  refine O.nilChk rfl ?_
  refine O.fieldAd Tryz.underlying152 rfl Tryz.sizeOf3 (by decide) rfl ?_
  refine O.loadO Tryz.isAgg3 rfl ho rfl ?_
  refine O.asg ?_
  refine O.nil ?_
  refine hK5 _ _ ?_
  refine C.seqK fun K6 hK6 => ?_
  refine C.region ?_
  refine O.mv ?_
  refine O.mv ?_
  refine O.callV (vs := [.pointer (some ⟨b, 0, none⟩)]) Tryz.call148 rfl (args1 rfl) (rdnum_spec b vr l k F _ ho hl hk (fun j hj => by have q1 := hF j hj; omega) hL) ?_
  rintro v_20 w1 ⟨nv20, env20, knv20, rfl, hov20, hcv20, e1⟩
  have z1 := e1.size
  refine O.mv ?_
  refine O.extract rfl rfl ?_
  refine O.extract rfl rfl ?_
  refine O.asg ?_
  refine O.asg ?_
  refine O.nil ?_
  refine hK6 _ _ ?_
  refine C.seqK fun K7 hK7 => ?_
  refine C.seqK fun K8 hK8 => ?_
  refine C.region ?_
  refine O.mv ?_
  refine O.neqI rfl rfl ?_
  refine O.nil ?_
  refine hK8 _ _ ?_
  refine C.condD rfl (fun c24 => ?_) (fun c24 => ?_)
  ·
    refine C.seqK fun K9 hK9 => ?_
    refine C.region ?_
    refine O.mv ?_
    refine O.mv ?_
    refine O.cast (v' := .int .i64 (k : Int)) rfl ?_
    refine O.nilChk rfl ?_
    refine O.fieldAd Tryz.underlying152 rfl Tryz.sizeOf3 (by decide) rfl ?_
    refine O.store Tryz.sizeOf3 rfl rfl rfl hov20 (by simp) (fun w2 hs2 e2 z2 => ?_)
    try simp only [Nat.zero_add] at hs2
    refine O.nil ?_
    refine hK9 _ _ ?_
    refine C.seqK fun K10 hK10 => ?_
    refine C.region ?_
    refine O.mv ?_
    refine O.mv ?_
    refine O.asg ?_
    refine O.asg ?_
    refine O.nil ?_
    refine hK10 _ _ ?_
    refine C.ret ?_
    refine Outs.two rfl rfl rfl ?_
    rcases hcv20 with ⟨q1, q2⟩ | ⟨q1, q2⟩
    · first
      | exact absurd q1 c24
      | exact ⟨nv20, 0, knv20, rfl, hs2, .inl ⟨rfl, q2⟩, (Ext.new (Ext.new (Ext.refl _ _) e1 (by intro i hi hk; first | exact hk.elim | ((try dsimp only at hk); (try dsimp only); omega))) e2 (by intro i hi hk; first | exact hk.elim | ((try dsimp only at hk); (try dsimp only); omega)))⟩
    · first
      | exact ⟨0#64, env20, k, rfl, hs2, .inr ⟨q1, rfl, rfl, q2.2.2⟩, (Ext.new (Ext.new (Ext.refl _ _) e1 (by intro i hi hk; first | exact hk.elim | ((try dsimp only at hk); (try dsimp only); omega))) e2 (by intro i hi hk; first | exact hk.elim | ((try dsimp only at hk); (try dsimp only); omega)))⟩
      | omega
  ·
    refine C.skip ?_
    refine hK7 _ _ ?_
    refine C.seqK fun K11 hK11 => ?_
    refine C.region ?_
    refine O.mv ?_
    refine O.asg ?_
    refine O.asg ?_
    refine O.nil ?_
    refine hK11 _ _ ?_
    refine C.ret ?_
    refine Outs.two rfl rfl rfl ?_
    rcases hcv20 with ⟨q1, q2⟩ | ⟨q1, q2⟩
    · first
      | exact absurd q1 c24
      | exact ⟨nv20, 0, knv20, rfl, hov20, .inl ⟨rfl, q2⟩, (Ext.new (Ext.refl _ _) e1 (by intro i hi hk; first | exact hk.elim | ((try dsimp only at hk); (try dsimp only); omega)))⟩
    · first
      | exact ⟨0#64, env20, k, rfl, hov20, .inr ⟨q1, rfl, rfl, q2.2.2⟩, (Ext.new (Ext.refl _ _) e1 (by intro i hi hk; first | exact hk.elim | ((try dsimp only at hk); (try dsimp only); omega)))⟩
      | omega

set_option maxHeartbeats 1000000 in
theorem rdNum_spec (b : Nat) (vr : Value) (l : List UInt8) (k : Nat) (F : Nat → Prop) (most : BitVec 64) (w : World) (ho : Own w b 152 [.bool true, vr, .int .i64 ((k : Int))]) (hl : Sl byteE w F vr l) (hk : k ≤ l.length) (hF : ∀ j, F j → j ≠ b ∧ j < w.heap.size) (hL : l.length ≤ 1000000) :
    Ret Tryz.prog 123 #[.pointer (some ⟨b, 0, none⟩), .int .u64 ((most).toNat : Int)] w (fun v w' => ∃ (n : BitVec 64) (e : Int) (k' : Nat), v = .tuple #[.int .u64 (n.toNat : Int), .int .i64 e] ∧ Own w' b 152 [.bool true, vr, .int .i64 ((k' : Int))] ∧ ((e = 0 ∧ n.toNat ≤ most.toNat ∧ Cn.Seg (Cn.num n.toNat) l k k') ∨ (0 < e ∧ n = 0#64 ∧ k' = k ∧ Cn.No (fun q : BitVec 64 => q.toNat ≤ most.toNat) (fun q => Cn.num q.toNat) l k)) ∧ Ext (fun j => j = b) w w') := by
  have _hF9 := hF
  have _hk9 := hk
  have hbl := ho.lt
  have hll := hl.le
  refine enter (args := [.pointer (some ⟨b, 0, none⟩), .int .u64 ((most).toNat : Int)]) (n := 33) Tryz.func123 rfl rfl (Nat.le_of_ble_eq_true rfl) ?_
  refine C.seqK fun K1 hK1 => ?_
  refine C.region ?_
  refine O.asg ?_
  refine O.asg ?_
  refine O.nil ?_
  refine hK1 _ _ ?_
  refine C.seqK fun K2 hK2 => ?_
  refine C.seqK fun K3 hK3 => ?_
  refine C.region ?_
  refine O.mv ?_
  refine O.call Tryz.call110 (args1 rfl) (zero_spec b vr l _ F _ ho hl (by omega) (fun j hj => by have q1 := hF j hj; omega)) ?_
  rintro v_10 w1 ⟨rfl, hw_⟩
  replace hw_ := hw_.symm
  subst hw_
  refine O.nil ?_
  refine hK3 _ _ ?_
  refine C.condF rfl ?_
  refine C.skip ?_
  refine hK2 _ _ ?_
  refine C.seqK fun K4 hK4 => ?_
  refine C.region ?_
  refine O.mv ?_
  refine O.nilChk rfl ?_
  refine O.fieldAd Tryz.underlying152 rfl Tryz.sizeOf3 (by decide) rfl ?_
  refine O.loadO Tryz.isAgg3 rfl ho rfl ?_
  refine O.asg ?_
  refine O.nil ?_
  refine hK4 _ _ ?_
  refine C.seqK fun K5 hK5 => ?_
  refine C.region ?_
  refine O.mv ?_
  refine O.call Tryz.call147 (args2 rfl rfl) (wholeN_spec b vr l k F _ ho hl hk (fun j hj => by have q1 := hF j hj; omega) hL) ?_
  rintro v_17 w1 ⟨nv17, env17, knv17, rfl, hov17, hcv17, e1⟩
  have z1 := e1.size
  refine O.mv ?_
  refine O.extract rfl rfl ?_
  refine O.extract rfl rfl ?_
  refine O.asg ?_
  refine O.asg ?_
  refine O.nil ?_
  refine hK5 _ _ ?_
  refine C.seqK fun K6 hK6 => ?_
  refine C.seqK fun K7 hK7 => ?_
  refine C.region ?_
  refine O.mv ?_
  refine O.eqlI rfl rfl ?_
  refine O.mv ?_
  refine O.splitD (x := .tmp 22) rfl (fun c22 => ?_) (fun c22 => ?_)
  ·
    refine O.yes rfl (isT rfl c22) ?_
    refine O.mv ?_
    refine O.yes rfl (isT rfl c22) ?_
    refine O.mv ?_
    refine O.yes rfl (isT rfl c22) ?_
    refine O.gtrU (m := 64) rfl rfl ?_
    refine O.pickT (isT rfl c22) ?_
    refine O.nil ?_
    refine hK7 _ _ ?_
    refine C.condD rfl (fun c26 => ?_) (fun c26 => ?_)
    ·
      refine C.seqK fun K8 hK8 => ?_
      refine C.region ?_
      refine O.mv ?_
      refine O.mv ?_
      refine O.cast (v' := .int .i64 (k : Int)) rfl ?_
      refine O.nilChk rfl ?_
      refine O.fieldAd Tryz.underlying152 rfl Tryz.sizeOf3 (by decide) rfl ?_
      refine O.store Tryz.sizeOf3 rfl rfl rfl hov17 (by simp) (fun w2 hs2 e2 z2 => ?_)
      try simp only [Nat.zero_add] at hs2
      refine O.nil ?_
      refine hK8 _ _ ?_
      refine C.seqK fun K9 hK9 => ?_
      refine C.region ?_
      refine O.asg ?_
      refine O.asg ?_
      refine O.nil ?_
      refine hK9 _ _ ?_
      refine C.ret ?_
      refine Outs.two rfl rfl rfl ?_
      rcases hcv17 with ⟨q1, q2⟩ | ⟨q1, q2, q3, q4⟩
      · first
        | exact ⟨0#64, 3, k, rfl, hs2, .inr ⟨by decide, rfl, rfl, Cn.no_most q2 (BitVec.lt_def.1 c26)⟩, (Ext.new (Ext.new (Ext.refl _ _) e1 (by intro i hi hk; first | exact hk.elim | ((try dsimp only at hk); (try dsimp only); omega))) e2 (by intro i hi hk; first | exact hk.elim | ((try dsimp only at hk); (try dsimp only); omega)))⟩
        | exact ⟨nv17, env17, knv17, rfl, hs2, .inl ⟨q1, Nat.le_of_not_lt (fun h => c26 (BitVec.lt_def.2 h)), q2⟩, (Ext.new (Ext.new (Ext.refl _ _) e1 (by intro i hi hk; first | exact hk.elim | ((try dsimp only at hk); (try dsimp only); omega))) e2 (by intro i hi hk; first | exact hk.elim | ((try dsimp only at hk); (try dsimp only); omega)))⟩
        | exact absurd q1 c22
      · first
        | (exfalso; omega)
        | exact ⟨nv17, env17, knv17, rfl, hs2, .inr ⟨q1, q2, q3, q4.mono fun _ _ => trivial⟩, (Ext.new (Ext.new (Ext.refl _ _) e1 (by intro i hi hk; first | exact hk.elim | ((try dsimp only at hk); (try dsimp only); omega))) e2 (by intro i hi hk; first | exact hk.elim | ((try dsimp only at hk); (try dsimp only); omega)))⟩
    ·
      refine C.skip ?_
      refine hK6 _ _ ?_
      refine C.seqK fun K10 hK10 => ?_
      refine C.region ?_
      refine O.mv ?_
      refine O.mv ?_
      refine O.asg ?_
      refine O.asg ?_
      refine O.nil ?_
      refine hK10 _ _ ?_
      refine C.ret ?_
      refine Outs.two rfl rfl rfl ?_
      rcases hcv17 with ⟨q1, q2⟩ | ⟨q1, q2, q3, q4⟩
      · first
        | exact ⟨0#64, 3, k, rfl, hov17, .inr ⟨by decide, rfl, rfl, Cn.no_most q2 (BitVec.lt_def.1 c26)⟩, (Ext.new (Ext.refl _ _) e1 (by intro i hi hk; first | exact hk.elim | ((try dsimp only at hk); (try dsimp only); omega)))⟩
        | exact ⟨nv17, env17, knv17, rfl, hov17, .inl ⟨q1, Nat.le_of_not_lt (fun h => c26 (BitVec.lt_def.2 h)), q2⟩, (Ext.new (Ext.refl _ _) e1 (by intro i hi hk; first | exact hk.elim | ((try dsimp only at hk); (try dsimp only); omega)))⟩
        | exact absurd q1 c22
      · first
        | (exfalso; omega)
        | exact ⟨nv17, env17, knv17, rfl, hov17, .inr ⟨q1, q2, q3, q4.mono fun _ _ => trivial⟩, (Ext.new (Ext.refl _ _) e1 (by intro i hi hk; first | exact hk.elim | ((try dsimp only at hk); (try dsimp only); omega)))⟩
  ·
    refine O.no rfl (noB (isF rfl c22) rfl) ?_
    refine O.no rfl (noB (isF rfl c22) rfl) ?_
    refine O.no rfl (noB (isF rfl c22) rfl) ?_
    refine O.pickF (isF rfl c22) ?_
    refine O.nil ?_
    refine hK7 _ _ ?_
    refine C.condF rfl ?_
    refine C.skip ?_
    refine hK6 _ _ ?_
    refine C.seqK fun K11 hK11 => ?_
    refine C.region ?_
    refine O.mv ?_
    refine O.mv ?_
    refine O.asg ?_
    refine O.asg ?_
    refine O.nil ?_
    refine hK11 _ _ ?_
    refine C.ret ?_
    refine Outs.two rfl rfl rfl ?_
    rcases hcv17 with ⟨q1, q2⟩ | ⟨q1, q2, q3, q4⟩
    · first
      | exact ⟨0#64, 3, k, rfl, hov17, .inr ⟨by decide, rfl, rfl, Cn.no_most q2 (BitVec.lt_def.1 c26)⟩, (Ext.new (Ext.refl _ _) e1 (by intro i hi hk; first | exact hk.elim | ((try dsimp only at hk); (try dsimp only); omega)))⟩
      | exact ⟨nv17, env17, knv17, rfl, hov17, .inl ⟨q1, Nat.le_of_not_lt (fun h => c26 (BitVec.lt_def.2 h)), q2⟩, (Ext.new (Ext.refl _ _) e1 (by intro i hi hk; first | exact hk.elim | ((try dsimp only at hk); (try dsimp only); omega)))⟩
      | exact absurd q1 c22
    · first
      | (exfalso; omega)
      | exact ⟨nv17, env17, knv17, rfl, hov17, .inr ⟨q1, q2, q3, q4.mono fun _ _ => trivial⟩, (Ext.new (Ext.refl _ _) e1 (by intro i hi hk; first | exact hk.elim | ((try dsimp only at hk); (try dsimp only); omega)))⟩

set_option maxHeartbeats 1000000 in
theorem rtake_spec (b : Nat) (vr : Value) (l : List UInt8) (k : Nat) (F : Nat → Prop) (n : BitVec 64) (w : World) (ho : Own w b 152 [.bool true, vr, .int .i64 ((k : Int))]) (hl : Sl byteE w F vr l) (hk : k ≤ l.length) (hF : ∀ j, F j → j ≠ b ∧ j < w.heap.size) (hL : l.length ≤ 1000000) :
    Ret Tryz.prog 151 #[.pointer (some ⟨b, 0, none⟩), .int .u64 ((n).toNat : Int)] w (fun v w' => ∃ (vb : Value) (s : List UInt8) (e : Int) (k' : Nat), v = .tuple #[vb, .int .i64 e] ∧ Own w' b 152 [.bool true, vr, .int .i64 ((k' : Int))] ∧ OwnF byteF 5 w.heap.size w' vb (s) ∧ ((e = 0 ∧ n.toNat ≤ l.length - k ∧ k' = k + n.toNat ∧ s = (l.drop k).take n.toNat) ∨ (e = 4 ∧ l.length - k < n.toNat ∧ k' = k)) ∧ Ext (fun j => j = b) w w') := by
  have _hF9 := hF
  have _hk9 := hk
  have hbl := ho.lt
  have hll := hl.le
  have hnl := n.isLt
  obtain ⟨ie5, ti5, ts5, tb5, tz5⟩ := inf5
  refine enter (args := [.pointer (some ⟨b, 0, none⟩), .int .u64 ((n).toNat : Int)]) (n := 28) Tryz.func151 rfl rfl (Nat.le_of_ble_eq_true rfl) ?_
  refine C.seqK fun K1 hK1 => ?_
  refine C.region ?_
  refine O.asg ?_
  refine O.asg ?_
  refine O.nil ?_
  refine hK1 _ _ ?_
  refine C.seqK fun K2 hK2 => ?_
  refine C.seqK fun K3 hK3 => ?_
  refine C.region ?_
  refine O.mv ?_
  refine O.call Tryz.call146 (args1 rfl) (rest_spec b vr l k F _ ho hl hk (fun j hj => by have q1 := hF j hj; omega)) ?_
  rintro v_8 w1 ⟨e1, h8⟩
  have z1 := e1.size
  refine O.len Tryz.underlying32 rfl h8 ?_
  refine O.convIU (m' := 64) Tryz.underlying3 Tryz.underlying49 rfl rfl rfl ?_
  have h10 : (BitVec.ofInt 64 ((l.drop k).length : Int)).toNat = l.length - k := by rw [List.length_drop, BitVec.toNat_ofInt]; omega
  refine O.mv ?_
  refine O.lssU (m := 64) rfl rfl ?_
  refine O.nil ?_
  refine hK3 _ _ ?_
  refine C.condD rfl (fun c12 => ?_) (fun c12 => ?_)
  ·
    refine C.seqK fun K4 hK4 => ?_
    refine C.region ?_
    refine O.asg ?_
    refine O.asg ?_
    refine O.nil ?_
    refine hK4 _ _ ?_
    refine C.ret ?_
    refine Outs.two rfl rfl rfl ?_
    first
    | exact ⟨_, [], 4, k, rfl, (ho.keep e1), OwnF.nil _ _ _ _, .inr ⟨rfl, by rw [BitVec.lt_def, h10] at c12; exact c12, rfl⟩, (Ext.new (Ext.refl _ _) e1 (by intro i hi hk; first | exact hk.elim | ((try dsimp only at hk); (try dsimp only); omega)))⟩
    | exact ⟨_, _, 0, k + n.toNat, rfl, (ho.keep e1), ({app:17}).low (by omega), .inl ⟨rfl, hnk, rfl, rfl⟩, (Ext.new (Ext.refl _ _) e1 (by intro i hi hk; first | exact hk.elim | ((try dsimp only at hk); (try dsimp only); omega)))⟩
  ·
    have hnk : n.toNat ≤ l.length - k := by rw [BitVec.lt_def, h10] at c12; omega
    refine C.skip ?_
    refine hK2 _ _ ?_
    refine C.seqK fun K5 hK5 => ?_
    refine C.region ?_
    refine O.mv ?_
    refine O.call Tryz.call146 (args1 rfl) (rest_spec b vr l k F _ (ho.keep e1) (hl.keep e1) hk (fun j hj => by have q1 := hF j hj; omega)) ?_
    rintro v_14 w2 ⟨e2, h14⟩
    have z2 := e2.size
    refine O.mv ?_
    have hb16 := Sl.sub (P := Tryz.prog) (0) (n.toNat) Tryz.underlying32 Tryz.sizeOf5 (by rfl) h14 (Nat.zero_le _) (by rw [List.length_drop]; omega)
    obtain ⟨v16, hs16, hr16⟩ := hb16
    refine O.subR rfl hr16 (.inl ⟨rfl, rfl⟩) (.inr ⟨_, _, rfl, rfl⟩) ?_
    refine O.call Tryz.call61 (args1 rfl) (cloneB_spec _ _ _ _ hs16 (by simp; omega)) ?_
    rintro v_17 w3 ⟨e3, h17⟩
    have z3 := e3.size
    rw [List.drop_zero] at h17
    have h17s := h17.sl
    refine O.asg ?_
    refine O.nil ?_
    refine hK5 _ _ ?_
    refine C.seqK fun K6 hK6 => ?_
    refine C.region ?_
    refine O.mv ?_
    refine O.nilChk rfl ?_
    refine O.fieldAd Tryz.underlying152 rfl Tryz.sizeOf3 (by decide) rfl ?_
    refine O.loadO Tryz.isAgg3 rfl (((ho.keep e1).keep e2).keep e3) rfl ?_
    refine O.mv ?_
    refine O.convU64I Tryz.underlying49 Tryz.underlying3 rfl ?_
    refine O.cast (v' := .int .i64 (n.toNat : Int)) (congrArg (Value.int .i64) (by rw [BitVec.toInt_eq_toNat_cond, if_pos (by omega)])) ?_
    refine O.addI rfl rfl (by unfold InI; omega) ?_
    refine O.cast (v' := .int .i64 ((k + n.toNat : Nat) : Int)) (congrArg (Value.int .i64) (by omega)) ?_
    refine O.nilChk rfl ?_
    refine O.fieldAd Tryz.underlying152 rfl Tryz.sizeOf3 (by decide) rfl ?_
    refine O.store Tryz.sizeOf3 rfl rfl rfl (((ho.keep e1).keep e2).keep e3) (by simp) (fun w4 hs4 e4 z4 => ?_)
    try simp only [Nat.zero_add] at hs4
    refine O.nil ?_
    refine hK6 _ _ ?_
    refine C.seqK fun K7 hK7 => ?_
    refine C.region ?_
    refine O.mv ?_
    refine O.asg ?_
    refine O.asg ?_
    refine O.nil ?_
    refine hK7 _ _ ?_
    refine C.ret ?_
    refine Outs.two rfl rfl rfl ?_
    first
    | exact ⟨_, [], 4, k, rfl, hs4, OwnF.nil _ _ _ _, .inr ⟨rfl, by rw [BitVec.lt_def, h10] at c12; exact c12, rfl⟩, (Ext.new (Ext.new (Ext.new (Ext.new (Ext.refl _ _) e1 (by intro i hi hk; first | exact hk.elim | ((try dsimp only at hk); (try dsimp only); omega))) e2 (by intro i hi hk; first | exact hk.elim | ((try dsimp only at hk); (try dsimp only); omega))) e3 (by intro i hi hk; first | exact hk.elim | ((try dsimp only at hk); (try dsimp only); omega))) e4 (by intro i hi hk; first | exact hk.elim | ((try dsimp only at hk); (try dsimp only); omega)))⟩
    | exact ⟨_, _, 0, k + n.toNat, rfl, hs4, ((h17.keepM e4 (fun k hk h => by have := h17.bk_ge k hk; (try dsimp only at h); omega))).low (by omega), .inl ⟨rfl, hnk, rfl, rfl⟩, (Ext.new (Ext.new (Ext.new (Ext.new (Ext.refl _ _) e1 (by intro i hi hk; first | exact hk.elim | ((try dsimp only at hk); (try dsimp only); omega))) e2 (by intro i hi hk; first | exact hk.elim | ((try dsimp only at hk); (try dsimp only); omega))) e3 (by intro i hi hk; first | exact hk.elim | ((try dsimp only at hk); (try dsimp only); omega))) e4 (by intro i hi hk; first | exact hk.elim | ((try dsimp only at hk); (try dsimp only); omega)))⟩

set_option maxHeartbeats 1000000 in
theorem rstr1_spec (b : Nat) (vr : Value) (l : List UInt8) (k : Nat) (F : Nat → Prop) (bm : Nat) (most : Int) (w : World) (ho : Own w b 152 [.bool true, vr, .int .i64 ((k : Int))]) (hl : Sl byteE w F vr l) (hk : k ≤ l.length) (hF : ∀ j, F j → j ≠ b ∧ j < w.heap.size) (hL : l.length ≤ 1000000) (hm : Own w bm 3 [.int .i64 most]) (hne : bm ≠ b) (hmost : InI most) :
    Ret Tryz.prog 150 #[.pointer (some ⟨b, 0, none⟩), .pointer (some ⟨bm, 0, none⟩)] w (fun v w' => ∃ (s : List UInt8) (e : Int) (k' : Nat), v = .tuple #[str s, .int .i64 e] ∧ Own w' b 152 [.bool true, vr, .int .i64 ((k' : Int))] ∧ ((e = 0 ∧ (s.length : Int) ≤ most ∧ Cn.Seg (Cn.strB s) l k k') ∨ (0 < e ∧ True ∧ Cn.No (fun s : List UInt8 => (s.length : Int) ≤ most) Cn.strB l k)) ∧ Ext (fun j => j = b) w w') := by
  have _hF9 := hF
  have _hk9 := hk
  have hbl := ho.lt
  have hll := hl.le
  refine enter (args := [.pointer (some ⟨b, 0, none⟩), .pointer (some ⟨bm, 0, none⟩)]) (n := 33) Tryz.func150 rfl rfl (Nat.le_of_ble_eq_true rfl) ?_
  refine C.seqK fun K1 hK1 => ?_
  refine C.region ?_
  refine O.asg ?_
  refine O.asg ?_
  refine O.nil ?_
  refine hK1 _ _ ?_
  refine C.seqK fun K2 hK2 => ?_
  refine C.region ?_
  refine O.mv ?_
  refine O.call Tryz.call123 (args2 rfl rfl) (rdNum_spec b vr l k F 18446744073709551615#64 _ ho hl hk (fun j hj => by have q1 := hF j hj; omega) hL) ?_
  rintro v_10 w1 ⟨nv10, env10, knv10, rfl, hov10, hcv10, e1⟩
  have z1 := e1.size
  refine O.mv ?_
  refine O.extract rfl rfl ?_
  refine O.extract rfl rfl ?_
  refine O.asg ?_
  refine O.asg ?_
  refine O.nil ?_
  refine hK2 _ _ ?_
  refine C.seqK fun K3 hK3 => ?_
  refine C.seqK fun K4 hK4 => ?_
  refine C.region ?_
  refine O.mv ?_
  refine O.neqI rfl rfl ?_
  refine O.nil ?_
  refine hK4 _ _ ?_
  refine C.condD rfl (fun c14 => ?_) (fun c14 => ?_)
  ·
    refine C.seqK fun K5 hK5 => ?_
    refine C.region ?_
    refine O.mv ?_
    refine O.asg ?_
    refine O.asg ?_
    refine O.nil ?_
    refine hK5 _ _ ?_
    refine C.ret ?_
    refine Outs.two rfl rfl rfl ?_
    first
    | (rcases hcv10 with ⟨q1, _⟩ | ⟨q1, _, q3, q4⟩
       · exact absurd q1 c14
       · exact ⟨[], env10, knv10, rfl, hov10, .inr ⟨q1, trivial, Cn.no_str_len (q4.mono fun q _ => by have h9 := q.isLt; show q.toNat ≤ 18446744073709551615; omega) (by omega)⟩, (Ext.new (Ext.refl _ _) e1 (by intro i hi hk; first | exact hk.elim | ((try dsimp only at hk); (try dsimp only); omega)))⟩)
    | exact ⟨[], 5, knv10, rfl, hov10, .inr ⟨by decide, trivial, Cn.no_str hs10 (.inl (by have := nv10.isLt; first | omega | (rw [BitVec.lt_def, BitVec.toNat_ofInt] at c23; unfold InI at hmost; omega)))⟩, (Ext.new (Ext.refl _ _) e1 (by intro i hi hk; first | exact hk.elim | ((try dsimp only at hk); (try dsimp only); omega)))⟩
    | (rcases hcv27 with ⟨q1, q2, q3, q4⟩ | ⟨q1, q2, q3⟩
       · exact ⟨sv27, env27, knv27, rfl, hov10, .inl ⟨q1, by rw [q4, List.length_take, List.length_drop]; rw [BitVec.lt_def, BitVec.toNat_ofInt] at c23; unfold InI at hmost; omega, by rw [q3, q4]; exact Cn.seg_str hs10 q2⟩, (Ext.new (Ext.refl _ _) e1 (by intro i hi hk; first | exact hk.elim | ((try dsimp only at hk); (try dsimp only); omega)))⟩
       · exact ⟨sv27, env27, knv27, rfl, hov10, .inr ⟨by omega, trivial, Cn.no_str hs10 (.inr q2)⟩, (Ext.new (Ext.refl _ _) e1 (by intro i hi hk; first | exact hk.elim | ((try dsimp only at hk); (try dsimp only); omega)))⟩)
  ·
    obtain ⟨q1, hs10⟩ : env10 = 0 ∧ Cn.Seg (Cn.num nv10.toNat) l k knv10 := by
      rcases hcv10 with ⟨q1, _, q2⟩ | ⟨q1, _⟩
      · exact ⟨q1, q2⟩
      · exfalso; omega
    have hk10 := hs10.2.2
    refine C.skip ?_
    refine hK3 _ _ ?_
    refine C.seqK fun K6 hK6 => ?_
    refine C.seqK fun K7 hK7 => ?_
    refine C.region ?_
    refine O.loadO Tryz.isAgg3 rfl (hm.keepM e1 (by intro h; (try dsimp only at h); omega)) rfl ?_
    refine O.lssI rfl rfl ?_
    refine O.mv ?_
    refine O.splitD (x := .tmp 18) rfl (fun c18 => ?_) (fun c18 => ?_)
    ·
      refine O.no rfl (noB (isT rfl c18) rfl) ?_
      refine O.no rfl (noB (isT rfl c18) rfl) ?_
      refine O.no rfl (noB (isT rfl c18) rfl) ?_
      refine O.no rfl (noB (isT rfl c18) rfl) ?_
      refine O.pickT (isT rfl c18) ?_
      refine O.nil ?_
      refine hK7 _ _ ?_
      refine C.condT rfl ?_
      refine C.seqK fun K8 hK8 => ?_
      refine C.region ?_
      refine O.asg ?_
      refine O.asg ?_
      refine O.nil ?_
      refine hK8 _ _ ?_
      refine C.ret ?_
      refine Outs.two rfl rfl rfl ?_
      first
      | (rcases hcv10 with ⟨q1, _⟩ | ⟨q1, _, q3, q4⟩
         · exact absurd q1 c14
         · exact ⟨[], env10, knv10, rfl, hov10, .inr ⟨q1, trivial, Cn.no_str_len (q4.mono fun q _ => by have h9 := q.isLt; show q.toNat ≤ 18446744073709551615; omega) (by omega)⟩, (Ext.new (Ext.refl _ _) e1 (by intro i hi hk; first | exact hk.elim | ((try dsimp only at hk); (try dsimp only); omega)))⟩)
      | exact ⟨[], 5, knv10, rfl, hov10, .inr ⟨by decide, trivial, Cn.no_str hs10 (.inl (by have := nv10.isLt; first | omega | (rw [BitVec.lt_def, BitVec.toNat_ofInt] at c23; unfold InI at hmost; omega)))⟩, (Ext.new (Ext.refl _ _) e1 (by intro i hi hk; first | exact hk.elim | ((try dsimp only at hk); (try dsimp only); omega)))⟩
      | (rcases hcv27 with ⟨q1, q2, q3, q4⟩ | ⟨q1, q2, q3⟩
         · exact ⟨sv27, env27, knv27, rfl, hov10, .inl ⟨q1, by rw [q4, List.length_take, List.length_drop]; rw [BitVec.lt_def, BitVec.toNat_ofInt] at c23; unfold InI at hmost; omega, by rw [q3, q4]; exact Cn.seg_str hs10 q2⟩, (Ext.new (Ext.refl _ _) e1 (by intro i hi hk; first | exact hk.elim | ((try dsimp only at hk); (try dsimp only); omega)))⟩
         · exact ⟨sv27, env27, knv27, rfl, hov10, .inr ⟨by omega, trivial, Cn.no_str hs10 (.inr q2)⟩, (Ext.new (Ext.refl _ _) e1 (by intro i hi hk; first | exact hk.elim | ((try dsimp only at hk); (try dsimp only); omega)))⟩)
    ·
      refine O.yes rfl (isF rfl c18) ?_
      refine O.mv ?_
      refine O.yes rfl (isF rfl c18) ?_
      refine O.loadO Tryz.isAgg3 rfl (hm.keepM e1 (by intro h; (try dsimp only at h); omega)) rfl ?_
      refine O.yes rfl (isF rfl c18) ?_
      refine O.convIU (m' := 64) Tryz.underlying3 Tryz.underlying49 rfl rfl rfl ?_
      refine O.yes rfl (isF rfl c18) ?_
      refine O.gtrU (m := 64) rfl rfl ?_
      refine O.pickF (isF rfl c18) ?_
      refine O.nil ?_
      refine hK7 _ _ ?_
      refine C.condD rfl (fun c23 => ?_) (fun c23 => ?_)
      ·
        refine C.seqK fun K9 hK9 => ?_
        refine C.region ?_
        refine O.asg ?_
        refine O.asg ?_
        refine O.nil ?_
        refine hK9 _ _ ?_
        refine C.ret ?_
        refine Outs.two rfl rfl rfl ?_
        first
        | (rcases hcv10 with ⟨q1, _⟩ | ⟨q1, _, q3, q4⟩
           · exact absurd q1 c14
           · exact ⟨[], env10, knv10, rfl, hov10, .inr ⟨q1, trivial, Cn.no_str_len (q4.mono fun q _ => by have h9 := q.isLt; show q.toNat ≤ 18446744073709551615; omega) (by omega)⟩, (Ext.new (Ext.refl _ _) e1 (by intro i hi hk; first | exact hk.elim | ((try dsimp only at hk); (try dsimp only); omega)))⟩)
        | exact ⟨[], 5, knv10, rfl, hov10, .inr ⟨by decide, trivial, Cn.no_str hs10 (.inl (by have := nv10.isLt; first | omega | (rw [BitVec.lt_def, BitVec.toNat_ofInt] at c23; unfold InI at hmost; omega)))⟩, (Ext.new (Ext.refl _ _) e1 (by intro i hi hk; first | exact hk.elim | ((try dsimp only at hk); (try dsimp only); omega)))⟩
        | (rcases hcv27 with ⟨q1, q2, q3, q4⟩ | ⟨q1, q2, q3⟩
           · exact ⟨sv27, env27, knv27, rfl, hov10, .inl ⟨q1, by rw [q4, List.length_take, List.length_drop]; rw [BitVec.lt_def, BitVec.toNat_ofInt] at c23; unfold InI at hmost; omega, by rw [q3, q4]; exact Cn.seg_str hs10 q2⟩, (Ext.new (Ext.refl _ _) e1 (by intro i hi hk; first | exact hk.elim | ((try dsimp only at hk); (try dsimp only); omega)))⟩
           · exact ⟨sv27, env27, knv27, rfl, hov10, .inr ⟨by omega, trivial, Cn.no_str hs10 (.inr q2)⟩, (Ext.new (Ext.refl _ _) e1 (by intro i hi hk; first | exact hk.elim | ((try dsimp only at hk); (try dsimp only); omega)))⟩)
      ·
        refine C.skip ?_
        refine hK6 _ _ ?_
        refine C.seqK fun K10 hK10 => ?_
        refine C.region ?_
        refine O.mv ?_
        refine O.mv ?_
        refine O.call Tryz.call151 (args2 rfl rfl) (rtake_spec b vr l knv10 F nv10 _ hov10 (hl.keepM e1 (by intro k hk h; first | (have q1 := hF k hk; (try dsimp only at h); omega) | ((try dsimp only at hk); (try dsimp only at h); omega))) hk10 (fun j hj => by have q1 := hF j hj; omega) hL) ?_
        rintro v_27 w2 ⟨vbv27, sv27, env27, knv27, rfl, hov27, hbv27, hcv27, e2⟩
        have z2 := e2.size
        have hb27s := hbv27.sl
        refine O.mv ?_
        refine O.extract rfl rfl ?_
        refine O.extract rfl rfl ?_
        refine O.asg ?_
        refine O.asg ?_
        refine O.nil ?_
        refine hK10 _ _ ?_
        refine C.seqK fun K11 hK11 => ?_
        refine C.region ?_
        refine O.mv ?_
        refine O.bytesS Tryz.underlying32 Tryz.underlying5 Tryz.underlying9 rfl hb27s ?_
        refine O.mv ?_
        refine O.asg ?_
        refine O.asg ?_
        refine O.nil ?_
        refine hK11 _ _ ?_
        refine C.ret ?_
        refine Outs.two rfl rfl rfl ?_
        first
        | (rcases hcv10 with ⟨q1, _⟩ | ⟨q1, _, q3, q4⟩
           · exact absurd q1 c14
           · exact ⟨[], env10, knv10, rfl, hov27, .inr ⟨q1, trivial, Cn.no_str_len (q4.mono fun q _ => by have h9 := q.isLt; show q.toNat ≤ 18446744073709551615; omega) (by omega)⟩, (Ext.new (Ext.new (Ext.refl _ _) e1 (by intro i hi hk; first | exact hk.elim | ((try dsimp only at hk); (try dsimp only); omega))) e2 (by intro i hi hk; first | exact hk.elim | ((try dsimp only at hk); (try dsimp only); omega)))⟩)
        | exact ⟨[], 5, knv10, rfl, hov27, .inr ⟨by decide, trivial, Cn.no_str hs10 (.inl (by have := nv10.isLt; first | omega | (rw [BitVec.lt_def, BitVec.toNat_ofInt] at c23; unfold InI at hmost; omega)))⟩, (Ext.new (Ext.new (Ext.refl _ _) e1 (by intro i hi hk; first | exact hk.elim | ((try dsimp only at hk); (try dsimp only); omega))) e2 (by intro i hi hk; first | exact hk.elim | ((try dsimp only at hk); (try dsimp only); omega)))⟩
        | (rcases hcv27 with ⟨q1, q2, q3, q4⟩ | ⟨q1, q2, q3⟩
           · exact ⟨sv27, env27, knv27, rfl, hov27, .inl ⟨q1, by rw [q4, List.length_take, List.length_drop]; rw [BitVec.lt_def, BitVec.toNat_ofInt] at c23; unfold InI at hmost; omega, by rw [q3, q4]; exact Cn.seg_str hs10 q2⟩, (Ext.new (Ext.new (Ext.refl _ _) e1 (by intro i hi hk; first | exact hk.elim | ((try dsimp only at hk); (try dsimp only); omega))) e2 (by intro i hi hk; first | exact hk.elim | ((try dsimp only at hk); (try dsimp only); omega)))⟩
           · exact ⟨sv27, env27, knv27, rfl, hov27, .inr ⟨by omega, trivial, Cn.no_str hs10 (.inr q2)⟩, (Ext.new (Ext.new (Ext.refl _ _) e1 (by intro i hi hk; first | exact hk.elim | ((try dsimp only at hk); (try dsimp only); omega))) e2 (by intro i hi hk; first | exact hk.elim | ((try dsimp only at hk); (try dsimp only); omega)))⟩)

set_option maxHeartbeats 1000000 in
theorem wholeS_spec (b : Nat) (vr : Value) (l : List UInt8) (k : Nat) (F : Nat → Prop) (bm : Nat) (most : Int) (w : World) (ho : Own w b 152 [.bool true, vr, .int .i64 ((k : Int))]) (hl : Sl byteE w F vr l) (hk : k ≤ l.length) (hF : ∀ j, F j → j ≠ b ∧ j < w.heap.size) (hL : l.length ≤ 1000000) (hm : Own w bm 3 [.int .i64 most]) (hne : bm ≠ b) (hmost : InI most) :
    Ret Tryz.prog 149 #[.pointer (some ⟨b, 0, none⟩), .func (.func 150) #[] #[.pointer (some ⟨bm, 0, none⟩)]] w (fun v w' => ∃ (s : List UInt8) (e : Int) (k' : Nat), v = .tuple #[str s, .int .i64 e] ∧ Own w' b 152 [.bool true, vr, .int .i64 ((k' : Int))] ∧ ((e = 0 ∧ (s.length : Int) ≤ most ∧ Cn.Seg (Cn.strB s) l k k') ∨ (0 < e ∧ k' = k ∧ Cn.No (fun s : List UInt8 => (s.length : Int) ≤ most) Cn.strB l k)) ∧ Ext (fun j => j = b) w w') := by
  have _hF9 := hF
  have _hk9 := hk
  have hbl := ho.lt
  have hll := hl.le
  refine enter (args := [.pointer (some ⟨b, 0, none⟩), .func (.func 150) #[] #[.pointer (some ⟨bm, 0, none⟩)]]) (n := 32) Tryz.func149 rfl rfl (Nat.le_of_ble_eq_true rfl) ?_
  refine C.seqK fun K1 hK1 => ?_
  refine C.region ?_
  refine O.asg ?_
  refine O.asg ?_
  refine O.nil ?_
  refine hK1 _ _ ?_
  refine C.seqK fun K2 hK2 => ?_
  refine C.region ?_
  refine O.asg ?_
  refine O.nil ?_
  refine hK2 _ _ ?_
  refine C.seqK fun K3 hK3 => ?_
  refine C.seqK fun K4 hK4 => ?_
  refine C.region ?_
  refine O.mv ?_
  refine O.call Tryz.call110 (args1 rfl) (zero_spec b vr l _ F _ ho hl (by omega) (fun j hj => by have q1 := hF j hj; omega)) ?_
  rintro v_11 w1 ⟨rfl, hw_⟩
  replace hw_ := hw_.symm
  subst hw_
  refine O.nil ?_
  refine hK4 _ _ ?_
  refine C.condF rfl ?_
  refine C.skip ?_
  refine hK3 _ _ ?_
  refine C.seqK fun K5 hK5 => ?_
  refine C.region ?_
  refine O.mv ?_
  refine O.nilChk rfl ?_
  refine O.fieldAd Tryz.underlying152 rfl Tryz.sizeOf3 (by decide) rfl ?_
  refine O.loadO Tryz.isAgg3 rfl ho rfl ?_
  refine O.asg ?_
  refine O.nil ?_
  refine hK5 _ _ ?_
  refine C.seqK fun K6 hK6 => ?_
  refine C.region ?_
  refine O.mv ?_
  refine O.mv ?_
  refine O.callV (vs := [.pointer (some ⟨b, 0, none⟩)]) Tryz.call150 rfl (args1 rfl) (rstr1_spec b vr l k F bm most _ ho hl hk (fun j hj => by have q1 := hF j hj; omega) hL hm hne hmost) ?_
  rintro v_20 w1 ⟨nv20, env20, knv20, rfl, hov20, hcv20, e1⟩
  have z1 := e1.size
  refine O.mv ?_
  refine O.extract rfl rfl ?_
  refine O.extract rfl rfl ?_
  refine O.asg ?_
  refine O.asg ?_
  refine O.nil ?_
  refine hK6 _ _ ?_
  refine C.seqK fun K7 hK7 => ?_
  refine C.seqK fun K8 hK8 => ?_
  refine C.region ?_
  refine O.mv ?_
  refine O.neqI rfl rfl ?_
  refine O.nil ?_
  refine hK8 _ _ ?_
  refine C.condD rfl (fun c24 => ?_) (fun c24 => ?_)
  ·
    refine C.seqK fun K9 hK9 => ?_
    refine C.region ?_
    refine O.mv ?_
    refine O.mv ?_
    refine O.cast (v' := .int .i64 (k : Int)) rfl ?_
    refine O.nilChk rfl ?_
    refine O.fieldAd Tryz.underlying152 rfl Tryz.sizeOf3 (by decide) rfl ?_
    refine O.store Tryz.sizeOf3 rfl rfl rfl hov20 (by simp) (fun w2 hs2 e2 z2 => ?_)
    try simp only [Nat.zero_add] at hs2
    refine O.nil ?_
    refine hK9 _ _ ?_
    refine C.seqK fun K10 hK10 => ?_
    refine C.region ?_
    refine O.mv ?_
    refine O.mv ?_
    refine O.asg ?_
    refine O.asg ?_
    refine O.nil ?_
    refine hK10 _ _ ?_
    refine C.ret ?_
    refine Outs.two rfl rfl rfl ?_
    rcases hcv20 with ⟨q1, q2⟩ | ⟨q1, q2⟩
    · first
      | exact absurd q1 c24
      | exact ⟨nv20, 0, knv20, rfl, hs2, .inl ⟨rfl, q2⟩, (Ext.new (Ext.new (Ext.refl _ _) e1 (by intro i hi hk; first | exact hk.elim | ((try dsimp only at hk); (try dsimp only); omega))) e2 (by intro i hi hk; first | exact hk.elim | ((try dsimp only at hk); (try dsimp only); omega)))⟩
    · first
      | exact ⟨[], env20, k, rfl, hs2, .inr ⟨q1, rfl, q2.2⟩, (Ext.new (Ext.new (Ext.refl _ _) e1 (by intro i hi hk; first | exact hk.elim | ((try dsimp only at hk); (try dsimp only); omega))) e2 (by intro i hi hk; first | exact hk.elim | ((try dsimp only at hk); (try dsimp only); omega)))⟩
      | omega
  ·
    refine C.skip ?_
    refine hK7 _ _ ?_
    refine C.seqK fun K11 hK11 => ?_
    refine C.region ?_
    refine O.mv ?_
    refine O.asg ?_
    refine O.asg ?_
    refine O.nil ?_
    refine hK11 _ _ ?_
    refine C.ret ?_
    refine Outs.two rfl rfl rfl ?_
    rcases hcv20 with ⟨q1, q2⟩ | ⟨q1, q2⟩
    · first
      | exact absurd q1 c24
      | exact ⟨nv20, 0, knv20, rfl, hov20, .inl ⟨rfl, q2⟩, (Ext.new (Ext.refl _ _) e1 (by intro i hi hk; first | exact hk.elim | ((try dsimp only at hk); (try dsimp only); omega)))⟩
    · first
      | exact ⟨[], env20, k, rfl, hov20, .inr ⟨q1, rfl, q2.2⟩, (Ext.new (Ext.refl _ _) e1 (by intro i hi hk; first | exact hk.elim | ((try dsimp only at hk); (try dsimp only); omega)))⟩
      | omega

set_option maxHeartbeats 1000000 in
theorem rdStr_spec (b : Nat) (vr : Value) (l : List UInt8) (k : Nat) (F : Nat → Prop) (most : Int) (w : World) (ho : Own w b 152 [.bool true, vr, .int .i64 ((k : Int))]) (hl : Sl byteE w F vr l) (hk : k ≤ l.length) (hF : ∀ j, F j → j ≠ b ∧ j < w.heap.size) (hL : l.length ≤ 1000000) (hmost : InI most) :
    Ret Tryz.prog 124 #[.pointer (some ⟨b, 0, none⟩), .int .i64 (most)] w (fun v w' => ∃ (s : List UInt8) (e : Int) (k' : Nat), v = .tuple #[str s, .int .i64 e] ∧ Own w' b 152 [.bool true, vr, .int .i64 ((k' : Int))] ∧ ((e = 0 ∧ (s.length : Int) ≤ most ∧ Cn.Seg (Cn.strB s) l k k') ∨ (0 < e ∧ k' = k ∧ Cn.No (fun s : List UInt8 => (s.length : Int) ≤ most) Cn.strB l k)) ∧ Ext (fun j => j = b) w w') := by
  have _hF9 := hF
  have _hk9 := hk
  have hbl := ho.lt
  have hll := hl.le
  refine enter (args := [.pointer (some ⟨b, 0, none⟩), .int .i64 (most)]) (n := 11) Tryz.func124 rfl rfl (Nat.le_of_ble_eq_true rfl) ?_
  refine C.seqK fun K1 hK1 => ?_
  refine C.region ?_
  refine O.box (v := .int .i64 (most)) rfl (fun b3 w1 hb3 hz3 e1 => ?_)
  have z1 := e1.size
  have h3 := hz3.own
  have hl3 := h3.lt
  refine O.asg ?_
  refine O.asg ?_
  refine O.nil ?_
  refine hK1 _ _ ?_
  refine C.seqK fun K2 hK2 => ?_
  refine C.region ?_
  refine O.mv ?_
  refine O.makeF (v1 := []) rfl rfl ?_
  refine O.call Tryz.call149 (args2 rfl rfl) (wholeS_spec b vr l k F b3 most _ (ho.keep e1) (hl.keep e1) hk (fun j hj => by have q1 := hF j hj; omega) hL h3 (by omega) hmost) ?_
  rintro v_8 w2 ⟨nv8, env8, knv8, rfl, hov8, hcv8, e2⟩
  have z2 := e2.size
  refine O.extract rfl rfl ?_
  refine O.extract rfl rfl ?_
  refine O.asg ?_
  refine O.asg ?_
  refine O.nil ?_
  refine hK2 _ _ ?_
  refine C.ret ?_
  refine Outs.two rfl rfl rfl ?_
  exact ⟨nv8, env8, knv8, rfl, hov8, hcv8, (Ext.new (Ext.new (Ext.refl _ _) e1 (by intro i hi hk; first | exact hk.elim | ((try dsimp only at hk); (try dsimp only); omega))) e2 (by intro i hi hk; first | exact hk.elim | ((try dsimp only at hk); (try dsimp only); omega)))⟩

theorem rdAt_spec (b : Nat) (vr : Value) (l : List UInt8) (k : Nat) (F : Nat → Prop) (w : World) (ho : Own w b 152 [.bool true, vr, .int .i64 ((k : Int))]) (hl : Sl byteE w F vr l) (hk : k ≤ l.length) (hF : ∀ j, F j → j ≠ b ∧ j < w.heap.size) :
    Ret Tryz.prog 85 #[.pointer (some ⟨b, 0, none⟩)] w (fun v w' => v = .int .i64 (k : Int) ∧ w' = w) := by
  have _hF9 := hF
  have _hk9 := hk
  have hbl := ho.lt
  have hll := hl.le
  refine enter (args := [.pointer (some ⟨b, 0, none⟩)]) (n := 9) Tryz.func85 rfl rfl (Nat.le_of_ble_eq_true rfl) ?_
  refine C.seqK fun K1 hK1 => ?_
  refine C.region ?_
  refine O.asg ?_
  refine O.nil ?_
  refine hK1 _ _ ?_
  refine C.seqK fun K2 hK2 => ?_
  refine C.seqK fun K3 hK3 => ?_
  refine C.region ?_
  refine O.mv ?_
  refine O.call Tryz.call110 (args1 rfl) (zero_spec b vr l _ F _ ho hl (by omega) (fun j hj => by have q1 := hF j hj; omega)) ?_
  rintro v_4 w1 ⟨rfl, hw_⟩
  replace hw_ := hw_.symm
  subst hw_
  refine O.nil ?_
  refine hK3 _ _ ?_
  refine C.condF rfl ?_
  refine C.skip ?_
  refine hK2 _ _ ?_
  refine C.seqK fun K4 hK4 => ?_
  refine C.region ?_
  refine O.mv ?_
  refine O.nilChk rfl ?_
  refine O.fieldAd Tryz.underlying152 rfl Tryz.sizeOf3 (by decide) rfl ?_
  refine O.loadO Tryz.isAgg3 rfl ho rfl ?_
  refine O.asg ?_
  refine O.nil ?_
  refine hK4 _ _ ?_
  refine C.ret ?_
  refine Outs.one rfl rfl ?_
  exact ⟨rfl, rfl⟩

theorem rdLeft_spec (b : Nat) (vr : Value) (l : List UInt8) (k : Nat) (F : Nat → Prop) (w : World) (ho : Own w b 152 [.bool true, vr, .int .i64 ((k : Int))]) (hl : Sl byteE w F vr l) (hk : k ≤ l.length) (hF : ∀ j, F j → j ≠ b ∧ j < w.heap.size) :
    Ret Tryz.prog 122 #[.pointer (some ⟨b, 0, none⟩)] w (fun v w' => v = .int .i64 ((l.length - k : Nat) : Int) ∧ Le w w') := by
  have _hF9 := hF
  have _hk9 := hk
  have hbl := ho.lt
  have hll := hl.le
  refine enter (args := [.pointer (some ⟨b, 0, none⟩)]) (n := 8) Tryz.func122 rfl rfl (Nat.le_of_ble_eq_true rfl) ?_
  refine C.seqK fun K1 hK1 => ?_
  refine C.region ?_
  refine O.asg ?_
  refine O.nil ?_
  refine hK1 _ _ ?_
  refine C.seqK fun K2 hK2 => ?_
  refine C.seqK fun K3 hK3 => ?_
  refine C.region ?_
  refine O.mv ?_
  refine O.call Tryz.call110 (args1 rfl) (zero_spec b vr l _ F _ ho hl (by omega) (fun j hj => by have q1 := hF j hj; omega)) ?_
  rintro v_4 w1 ⟨rfl, hw_⟩
  replace hw_ := hw_.symm
  subst hw_
  refine O.nil ?_
  refine hK3 _ _ ?_
  refine C.condF rfl ?_
  refine C.skip ?_
  refine hK2 _ _ ?_
  refine C.seqK fun K4 hK4 => ?_
  refine C.region ?_
  refine O.mv ?_
  refine O.call Tryz.call146 (args1 rfl) (rest_spec b vr l k F _ ho hl hk (fun j hj => by have q1 := hF j hj; omega)) ?_
  rintro v_6 w1 ⟨e1, h6⟩
  have z1 := e1.size
  refine O.len Tryz.underlying32 rfl h6 ?_
  refine O.cast (v' := .int .i64 ((l.length - k : Nat) : Int)) (congrArg (Value.int .i64) (by rw [List.length_drop])) ?_
  refine O.asg ?_
  refine O.nil ?_
  refine hK4 _ _ ?_
  refine C.ret ?_
  refine Outs.one rfl rfl ?_
  exact ⟨rfl, e1⟩

theorem rdEnd_spec (b : Nat) (vr : Value) (l : List UInt8) (k : Nat) (F : Nat → Prop) (w : World) (ho : Own w b 152 [.bool true, vr, .int .i64 ((k : Int))]) (hl : Sl byteE w F vr l) (hk : k ≤ l.length) (hF : ∀ j, F j → j ≠ b ∧ j < w.heap.size) :
    Ret Tryz.prog 106 #[.pointer (some ⟨b, 0, none⟩)] w (fun v w' => v = .int .i64 (if k < l.length then 12 else 0) ∧ Le w w') := by
  have _hF9 := hF
  have _hk9 := hk
  have hbl := ho.lt
  have hll := hl.le
  refine enter (args := [.pointer (some ⟨b, 0, none⟩)]) (n := 10) Tryz.func106 rfl rfl (Nat.le_of_ble_eq_true rfl) ?_
  refine C.seqK fun K1 hK1 => ?_
  refine C.region ?_
  refine O.asg ?_
  refine O.nil ?_
  refine hK1 _ _ ?_
  refine C.seqK fun K2 hK2 => ?_
  refine C.block fun K3 hK3 => ?_
  refine C.seqK fun K4 hK4 => ?_
  refine C.region ?_
  refine O.mv ?_
  refine O.call Tryz.call110 (args1 rfl) (zero_spec b vr l _ F _ ho hl (by omega) (fun j hj => by have q1 := hF j hj; omega)) ?_
  rintro v_5 w1 ⟨rfl, hw_⟩
  replace hw_ := hw_.symm
  subst hw_
  refine O.asg ?_
  refine O.nil ?_
  refine hK4 _ _ ?_
  refine C.condF rfl ?_
  refine C.seqK fun K5 hK5 => ?_
  refine C.region ?_
  refine O.mv ?_
  refine O.call Tryz.call122 (args1 rfl) (rdLeft_spec b vr l k F _ ho hl hk (fun j hj => by have q1 := hF j hj; omega)) ?_
  rintro v_8 w1 ⟨rfl, e1⟩
  have z1 := e1.size
  refine O.gtrI rfl rfl ?_
  refine O.asg ?_
  refine O.nil ?_
  refine hK5 _ _ ?_
  refine C.condD rfl (fun c6 => ?_) (fun c6 => ?_)
  ·
    refine C.seqK fun K6 hK6 => ?_
    refine C.region ?_
    refine O.asg ?_
    refine O.nil ?_
    refine hK6 _ _ ?_
    refine C.ret ?_
    refine Outs.one rfl rfl ?_
    refine ⟨congrArg (Value.int .i64) ?_, e1⟩
    first
    | rw [if_pos (by omega)]
    | rw [if_neg (by omega)]
  ·
    refine C.skip ?_
    refine hK3 _ _ ?_
    refine hK2 _ _ ?_
    refine C.seqK fun K7 hK7 => ?_
    refine C.region ?_
    refine O.asg ?_
    refine O.nil ?_
    refine hK7 _ _ ?_
    refine C.ret ?_
    refine Outs.one rfl rfl ?_
    refine ⟨congrArg (Value.int .i64) ?_, e1⟩
    first
    | rw [if_pos (by omega)]
    | rw [if_neg (by omega)]

theorem rdNew_spec (v0 : Value) (l : List UInt8) (F : Nat → Prop) (w : World) (hl : Sl byteE w F v0 l) (hL : l.length ≤ 1000000) :
    Ret Tryz.prog 83 #[v0] w (fun v w' => ∃ (b : Nat) (vr : Value), v = .pointer (some ⟨b, 0, none⟩) ∧ Own w' b 152 [.bool true, vr, .int .i64 0] ∧ Sl byteE w' (fun j => w.heap.size ≤ j ∧ j < b) vr l ∧ w.heap.size ≤ b ∧ b < w'.heap.size ∧ Le w w') := by
  obtain ⟨ie5, ti5, ts5, tb5, tz5⟩ := inf5
  refine enter (args := [v0]) (n := 7) Tryz.func83 rfl rfl (Nat.le_of_ble_eq_true rfl) ?_
  refine C.seqK fun K1 hK1 => ?_
  refine C.region ?_
  refine O.asg ?_
  refine O.nil ?_
  refine hK1 _ _ ?_
  refine C.seqK fun K2 hK2 => ?_
  refine C.region ?_
  refine O.mv ?_
  refine O.call Tryz.call61 (args1 rfl) (cloneB_spec _ l _ _ hl (by omega)) ?_
  rintro v_4 w1 ⟨e1, h4⟩
  have z1 := e1.size
  have h4s := h4.sl
  have h4b := h4.bk_ge
  obtain ⟨a4, rfl⟩ := h4s.slv
  refine O.build (cells := #[.bool true, slv a4, .int .i64 0]) rfl (by kernel_rfl) ?_
  refine O.box (v := .agg #[.bool true, slv a4, .int .i64 0]) rfl (fun b6 w2 hb6 hz6 e2 => ?_)
  have z2 := e2.size
  have h6 := hz6.own
  have hl6 := h6.lt
  refine O.asg ?_
  refine O.nil ?_
  refine hK2 _ _ ?_
  refine C.ret ?_
  refine Outs.one rfl rfl ?_
  exact ⟨b6, slv a4, rfl, h6, ((h4s.keep e2)).weak (by intro j hj; have := h4b j hj; omega), by omega, hl6, (Ext.trans e1 e2)⟩

end Go.Proofs.YtnkcmaoaagnopaaGreatDoor
end
