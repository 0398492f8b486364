/-
  The walks of the package of carts' bytes. Conditions: slices as they lie in memory.
-/
import Derived.Test.YtnkcmaoaagnopaaGreatDoorDecodeGreatsM3
import Derived.Test.YtnkcmaoaagnopaaGreatDoorDecodeGreatsM2
import Derived.Test.YtnkcmaoaagnopaaGreatDoorDecodeGreatsM1
import Derived.Test.YtnkcmaoaagnopaaGreatDoorCards
import Derived.Test.YtnkcmaoaagnopaaGreatDoorTie
section
namespace Go.Proofs.YtnkcmaoaagnopaaGreatDoor
open Go.Pn Go.RowKit Go.Proofs
attribute [local irreducible] O C D

set_option maxHeartbeats 1000000 in
theorem append_spec (v0 : Value) (bs : List UInt8) (F2 : Nat → Prop) (va1 va2 va3 : Value) (a : Cn.Cart) (F : Nat → Prop) (w : World) (hb : Sl byteE w F2 v0 bs) (hbn : bs.length ≤ 1000000) (hav : Sl Dt.dotF.enc w F va1 a.1.1) (hac : Sl Dt.dotF.enc w F va2 a.1.2) (hai : Sl itemE w F va3 a.2) (hF : ∀ k, F k → k < w.heap.size) (hn : a.2.length ≤ 1000000) (hS : ∀ x ∈ a.2, x.1.length ≤ 1000000 ∧ x.2.length ≤ 1000000) (hp : a.1.1.length ≤ 1000000) (hq : a.1.2.length ≤ 1000000) (mx : Mx w) :
    Ret Tryz.prog 23 #[v0, .agg #[va1, va2, va3]] w (fun v w' => ∃ r : Value, v = .tuple #[r, .int .i64 (if Cn.valid a then 0 else 2)] ∧ OwnF byteF 5 w.heap.size w' r (if Cn.valid a then bs ++ Cn.bytes a else []) ∧ Le w w') := by
  have hbl := Cn.bytes_le hn hS hp hq
  refine enter (args := [v0, .agg #[va1, va2, va3]]) (n := 15) Tryz.func23 rfl rfl (Nat.le_of_ble_eq_true rfl) ?_
  refine C.seqK fun K1 hK1 => ?_
  refine C.region ?_
  refine O.box (v := .agg #[va1, va2, va3]) rfl (fun b3 w1 hb3 hz3 e1 => ?_)
  have z1 := e1.size
  have h3 := hz3.own
  have hl3 := h3.lt
  refine O.asg ?_
  refine O.asg ?_
  refine O.nil ?_
  refine hK1 _ _ ?_
  refine C.seqK fun K2 hK2 => ?_
  refine C.seqK fun K3 hK3 => ?_
  refine C.region ?_
  refine O.loadOA Tryz.isAgg28 Tryz.sizeOf28 rfl h3 (Nat.le_of_ble_eq_true rfl) ?_
  refine O.call Tryz.call19 (args1 rfl) (cartValid_spec va1 va2 va3 a F _ (hav.keep e1) (hac.keep e1) (hai.keep e1) (fun k hk => by have q1 := hF k hk; omega) hn hS (mx.keep e1)) ?_
  rintro v_8 w2 ⟨rfl, e2⟩
  have z2 := e2.size
  refine O.not rfl ?_
  refine O.nil ?_
  refine hK3 _ _ ?_
  refine C.cond rfl (fun c9 => ?_) (fun c9 => ?_)
  ·
    have hva : Cn.valid a = false := by simpa using c9
    refine C.seqK fun K4 hK4 => ?_
    refine C.region ?_
    refine O.asg ?_
    refine O.asg ?_
    refine O.nil ?_
    refine hK4 _ _ ?_
    refine C.ret ?_
    refine Outs.two rfl rfl rfl ?_
    first
    | (refine ⟨_, by rw [hva]; rfl, ?_, (Ext.trans e1 e2)⟩
       rw [hva]
       exact OwnF.nil _ _ _ _)
    | (refine ⟨_, by rw [hva]; rfl, ?_, (Ext.trans e1 e2)⟩
       rw [hva]
       exact (({app:14}).low (by omega)).lst rfl)
  ·
    have hva : Cn.valid a = true := by simpa using c9
    refine C.skip ?_
    refine hK2 _ _ ?_
    refine C.seqK fun K5 hK5 => ?_
    refine C.region ?_
    refine O.alloc Tryz.zeroValue77 (fun b6 w3 hb6 hz6 e3 => ?_)
    have z3 := e3.size
    have h6 := hz6.own
    have hl6 := h6.lt
    have hwr6 : Wr 77 5 w3 b6 b6 [] := Wr.new h6
    refine O.nil ?_
    refine hK5 _ _ ?_
    refine C.seqK fun K6 hK6 => ?_
    refine C.region ?_
    refine O.mv ?_
    refine O.call Tryz.call50 (args2 rfl rfl) (wput_spec b6 b6 [] v0 bs F2 _ hwr6 (by simp) (((hb.keep e1).keep e2).keep e3) (by omega)) ?_
    rintro v_11 w4 ⟨rfl, gv11, hv11, hgv11, hlv11, e4⟩
    have z4 := e4.size
    refine O.nil ?_
    refine hK6 _ _ ?_
    refine C.seqK fun K7 hK7 => ?_
    refine C.region ?_
    refine O.loadOA Tryz.isAgg28 Tryz.sizeOf28 rfl (((h3.keep e2).keep e3).keepM e4 (by intro h; (try dsimp only at h); omega)) (Nat.le_of_ble_eq_true rfl) ?_
    refine O.call Tryz.call51 (args2 rfl rfl) (whole_spec b6 gv11 _ va1 va2 va3 a F _ (hav.keep (Ext.new (Ext.trans (Ext.trans e1 e2) e3) e4 (by intro i hi h; (try dsimp only at h); omega))) (hac.keep (Ext.new (Ext.trans (Ext.trans e1 e2) e3) e4 (by intro i hi h; (try dsimp only at h); omega))) (hai.keep (Ext.new (Ext.trans (Ext.trans e1 e2) e3) e4 (by intro i hi h; (try dsimp only at h); omega))) hv11 (by simp; omega) (fun k hk => by have q1 := hF k hk; omega) hn hS hp hq) ?_
    rintro v_13 w5 ⟨rfl, gv13, hv13, hgv13, hlv13, e5⟩
    have z5 := e5.size
    refine O.nil ?_
    refine hK7 _ _ ?_
    refine C.seqK fun K8 hK8 => ?_
    refine C.region ?_
    refine O.call Tryz.call39 (args1 rfl) (wbytes_spec b6 gv13 _ _ hv13 (by simp only [List.length_append, List.length_nil]; omega)) ?_
    rintro v_14 w6 ⟨e6, h14⟩
    have z6 := e6.size
    refine O.asg ?_
    refine O.asg ?_
    refine O.nil ?_
    refine hK8 _ _ ?_
    refine C.ret ?_
    refine Outs.two rfl rfl rfl ?_
    first
    | (refine ⟨_, by rw [hva]; rfl, ?_, (Ext.trans (Ext.new (Ext.new (Ext.trans (Ext.trans e1 e2) e3) e4 (by intro i hi h; (try dsimp only at h); omega)) e5 (by intro i hi h; (try dsimp only at h); omega)) e6)⟩
       rw [hva]
       exact OwnF.nil _ _ _ _)
    | (refine ⟨_, by rw [hva]; rfl, ?_, (Ext.trans (Ext.new (Ext.new (Ext.trans (Ext.trans e1 e2) e3) e4 (by intro i hi h; (try dsimp only at h); omega)) e5 (by intro i hi h; (try dsimp only at h); omega)) e6)⟩
       rw [hva]
       exact ((h14).low (by omega)).lst rfl)

theorem encode_spec (va1 va2 va3 : Value) (a : Cn.Cart) (F : Nat → Prop) (w : World) (hav : Sl Dt.dotF.enc w F va1 a.1.1) (hac : Sl Dt.dotF.enc w F va2 a.1.2) (hai : Sl itemE w F va3 a.2) (hF : ∀ k, F k → k < w.heap.size) (hn : a.2.length ≤ 1000000) (hS : ∀ x ∈ a.2, x.1.length ≤ 1000000 ∧ x.2.length ≤ 1000000) (hp : a.1.1.length ≤ 1000000) (hq : a.1.2.length ≤ 1000000) (mx : Mx w) :
    Ret Tryz.prog 27 #[.agg #[va1, va2, va3]] w (fun v w' => ∃ r : Value, v = .tuple #[r, .int .i64 (if Cn.valid a then 0 else 2)] ∧ OwnF byteF 5 w.heap.size w' r (if Cn.valid a then Cn.bytes a else []) ∧ Le w w') := by
  refine enter (args := [.agg #[va1, va2, va3]]) (n := 8) Tryz.func27 rfl rfl (Nat.le_of_ble_eq_true rfl) ?_
  refine C.seqK fun K1 hK1 => ?_
  refine C.region ?_
  refine O.box (v := .agg #[va1, va2, va3]) rfl (fun b1 w1 hb1 hz1 e1 => ?_)
  have z1 := e1.size
  have h1 := hz1.own
  have hl1 := h1.lt
  refine O.asg ?_
  refine O.asg ?_
  refine O.nil ?_
  refine hK1 _ _ ?_
  refine C.seqK fun K2 hK2 => ?_
  refine C.region ?_
  refine O.loadOA Tryz.isAgg28 Tryz.sizeOf28 rfl h1 (Nat.le_of_ble_eq_true rfl) ?_
  refine O.call Tryz.call23 (args2 rfl rfl) (append_spec (.slice none 0 0) [] (fun _ => False) va1 va2 va3 a F _ (Sl.nil _ _ _) (by simp) (hav.keep e1) (hac.keep e1) (hai.keep e1) (fun k hk => by have q1 := hF k hk; omega) hn hS hp hq (mx.keep e1)) ?_
  rintro v_5 w2 ⟨rv5, rfl, hv5, e2⟩
  have z2 := e2.size
  refine O.extract rfl rfl ?_
  refine O.extract rfl rfl ?_
  refine O.asg ?_
  refine O.asg ?_
  refine O.nil ?_
  refine hK2 _ _ ?_
  refine C.ret ?_
  refine Outs.two rfl rfl rfl ?_
  exact ⟨_, rfl, hv5.low (by omega), (Ext.trans e1 e2)⟩

theorem size_spec (va1 va2 va3 : Value) (a : Cn.Cart) (F : Nat → Prop) (w : World) (hav : Sl Dt.dotF.enc w F va1 a.1.1) (hac : Sl Dt.dotF.enc w F va2 a.1.2) (hai : Sl itemE w F va3 a.2) (hF : ∀ k, F k → k < w.heap.size) (hn : a.2.length ≤ 1000000) (hS : ∀ x ∈ a.2, x.1.length ≤ 1000000 ∧ x.2.length ≤ 1000000) (hp : a.1.1.length ≤ 1000000) (hq : a.1.2.length ≤ 1000000) (mx : Mx w) :
    Ret Tryz.prog 24 #[.agg #[va1, va2, va3]] w (fun v w' => v = .tuple #[.int .i64 (if Cn.valid a then ((Cn.bytes a).length : Int) else 0), .int .i64 (if Cn.valid a then 0 else 2)] ∧ Le w w') := by
  refine enter (args := [.agg #[va1, va2, va3]]) (n := 14) Tryz.func24 rfl rfl (Nat.le_of_ble_eq_true rfl) ?_
  refine C.seqK fun K1 hK1 => ?_
  refine C.region ?_
  refine O.box (v := .agg #[va1, va2, va3]) rfl (fun b1 w1 hb1 hz1 e1 => ?_)
  have z1 := e1.size
  have h1 := hz1.own
  have hl1 := h1.lt
  refine O.asg ?_
  refine O.asg ?_
  refine O.nil ?_
  refine hK1 _ _ ?_
  refine C.seqK fun K2 hK2 => ?_
  refine C.region ?_
  refine O.loadOA Tryz.isAgg28 Tryz.sizeOf28 rfl h1 (Nat.le_of_ble_eq_true rfl) ?_
  refine O.call Tryz.call27 (args1 rfl) (encode_spec va1 va2 va3 a F _ (hav.keep e1) (hac.keep e1) (hai.keep e1) (fun k hk => by have q1 := hF k hk; omega) hn hS hp hq (mx.keep e1)) ?_
  rintro v_8 w2 ⟨rv8, rfl, hv8, e2⟩
  have z2 := e2.size
  have h8s := hv8.sl
  refine O.mv ?_
  refine O.extract rfl rfl ?_
  refine O.extract rfl rfl ?_
  refine O.asg ?_
  refine O.asg ?_
  refine O.nil ?_
  refine hK2 _ _ ?_
  refine C.seqK fun K3 hK3 => ?_
  refine C.region ?_
  refine O.mv ?_
  refine O.len Tryz.underlying32 rfl h8s ?_
  refine O.mv ?_
  refine O.asg ?_
  refine O.asg ?_
  refine O.nil ?_
  refine hK3 _ _ ?_
  refine C.ret ?_
  refine Outs.two rfl rfl rfl ?_
  refine ⟨?_, (Ext.trans e1 e2)⟩
  by_cases hva : Cn.valid a = true
  · rw [if_pos hva, if_pos hva, if_pos hva]; rfl
  · rw [if_neg hva, if_neg hva, if_neg hva]; rfl

end Go.Proofs.YtnkcmaoaagnopaaGreatDoor
end
section
/-
  The walks of the reference's bytes of carts. Conditions: slices as they lie in memory.
-/
namespace Go.Proofs.YtnkcmaoaagnopaaGreatDoor
open Go.Pn Go.RowKit Go.Proofs
attribute [local irreducible] O C D

theorem rnum_a_spec (n : BitVec 64) (w : World) (ih : ∀ m : BitVec 64, m.toNat < n.toNat → ∀ w : World, Ret Tryz.prog 33 #[.int .u64 (m.toNat : Int)] w (fun v w' => Le w w' ∧ OwnF byteF 5 w.heap.size w' v (Cn.num m.toNat))) :
    Ret Tryz.prog 33 #[.int .u64 ((n).toNat : Int)] w (fun v w' => Le w w' ∧ OwnF byteF 5 w.heap.size w' v (Cn.num n.toNat)) := by
  obtain ⟨ie5, ti5, ts5, tb5, tz5⟩ := inf5
  refine enter (args := [.int .u64 ((n).toNat : Int)]) (n := 17) Tryz.func33 rfl rfl (Nat.le_of_ble_eq_true rfl) ?_
  refine C.seqK fun K1 hK1 => ?_
  refine C.region ?_
  refine O.asg ?_
  refine O.nil ?_
  refine hK1 _ _ ?_
  refine C.seqK fun K2 hK2 => ?_
  refine C.seqK fun K3 hK3 => ?_
  refine C.region ?_
  refine O.mv ?_
  refine O.lssU (m := 64) (b := 128#64) rfl rfl ?_
  refine O.nil ?_
  refine hK3 _ _ ?_
  refine C.condD rfl (fun c4 => ?_) (fun c4 => ?_)
  ·
    have hs4 : n.toNat < 128 := by simpa [BitVec.lt_def] using c4
    refine C.seqK fun K4 hK4 => ?_
    refine C.region ?_
    refine O.mv ?_
    refine O.convUU (m := 64) (m' := 8) Tryz.underlying49 Tryz.underlying5 rfl rfl rfl ?_
    refine O.lit1 Tryz.underlying32 ti5 ts5 tz5 rfl rfl (fun b7 w1 hb7 hz7 e1 => ?_)
    have z1 := e1.size
    have h7 := hz7.own
    have hl7 := h7.lt
    have h1007 : OwnF byteF 5 w.heap.size w1 _ [UInt8.ofBitVec (n.setWidth 8)] := OwnF.lit1 rfl hz7 rfl (by omega)
    refine O.asg ?_
    refine O.nil ?_
    refine hK4 _ _ ?_
    refine C.ret ?_
    refine Outs.one rfl rfl ?_
    first
    | exact ⟨e1, h1007.lst (Cn.num_last hs4).symm⟩
    | exact ⟨e1, ({app:16}).lst (Cn.num_step2 hs4).symm⟩
  ·
    have hs4 : ¬ n.toNat < 128 := by simpa [BitVec.lt_def, BitVec.le_def] using c4
    have hlt : (n / 128#64).toNat < n.toNat := by rw [BitVec.toNat_udiv]; show n.toNat / 128 < n.toNat; omega
    refine C.skip ?_
    refine hK2 _ _ ?_
    refine C.seqK fun K5 hK5 => ?_
    refine C.region ?_
    refine O.mv ?_
    refine O.remU (m := 64) (b := 128#64) rfl rfl rfl rfl (by decide) ?_
    refine O.addU (m := 64) (a := 128#64) rfl rfl rfl rfl ?_
    refine O.convUU (m := 64) (m' := 8) Tryz.underlying49 Tryz.underlying5 rfl rfl rfl ?_
    refine O.lit1 Tryz.underlying32 ti5 ts5 tz5 rfl rfl (fun b12 w2 hb12 hz12 e2 => ?_)
    have z2 := e2.size
    have h12 := hz12.own
    have hl12 := h12.lt
    have h1012 : OwnF byteF 5 w.heap.size w2 _ [UInt8.ofBitVec ((128#64 + n % 128#64).setWidth 8)] := OwnF.lit1 rfl hz12 rfl (by omega)
    refine O.mv ?_
    refine O.quoU (m := 64) (b := 128#64) rfl rfl rfl rfl (by decide) ?_
    refine O.call Tryz.call33 (args1 rfl) (ih (n / 128#64) hlt _) ?_
    rintro v_15 w3 ⟨e3, h15⟩
    have z3 := e3.size
    have h15s := h15.sl
    refine O.appF (G := byteF) Tryz.underlying32 ti5 tz5 ts5 rfl rfl rfl (h1012.keep e3) h15s (by rw [tb5]; have := Cn.num_u (n / 128#64); simp only [List.length_cons, List.length_nil]; omega) (by unfold maxLen; have := Cn.num_u (n / 128#64); simp only [List.length_cons, List.length_nil]; omega) (by omega) (fun v16 w4 h16 e4 => ?_)
    have z4 := e4.size
    have h16s := h16.sl
    refine O.asg ?_
    refine O.nil ?_
    refine hK5 _ _ ?_
    refine C.ret ?_
    refine Outs.one rfl rfl ?_
    first
    | exact ⟨(Ext.new (Ext.trans e2 e3) e4 (by intro i hi h; have := (h1012.keep e3).bk_ge i h; omega)), h1007.lst (Cn.num_last hs4).symm⟩
    | exact ⟨(Ext.new (Ext.trans e2 e3) e4 (by intro i hi h; have := (h1012.keep e3).bk_ge i h; omega)), (h16).lst (Cn.num_step2 hs4).symm⟩


theorem rnum_spec (n : BitVec 64) (w : World) : Ret Tryz.prog 33 #[.int .u64 (n.toNat : Int)] w (fun v w' => Le w w' ∧ OwnF byteF 5 w.heap.size w' v (Cn.num n.toNat)) := by
  have key : ∀ (k : Nat) (n : BitVec 64), n.toNat = k → ∀ w : World, Ret Tryz.prog 33 #[.int .u64 (n.toNat : Int)] w (fun v w' => Le w w' ∧ OwnF byteF 5 w.heap.size w' v (Cn.num n.toNat)) := by
    intro k
    induction k using Nat.strongRecOn with
    | _ k ih => exact fun n hn w => rnum_a_spec n w fun m hm w => ih m.toNat (hn ▸ hm) m rfl w
  exact key _ n rfl w

end Go.Proofs.YtnkcmaoaagnopaaGreatDoor
end
section
/-
  The walks of the reference's bytes of carts, and of its order of bytes. Conditions: slices as they lie in memory.
-/
namespace Go.Proofs.YtnkcmaoaagnopaaGreatDoor
open Go.Pn Go.RowKit Go.Proofs
attribute [local irreducible] O C D

end Go.Proofs.YtnkcmaoaagnopaaGreatDoor
end
section
/-
  The walks of the reference: order of bytes, small carts, carts compared and copied. Conditions: slices as they lie in memory.
-/
namespace Go.Proofs.YtnkcmaoaagnopaaGreatDoor
open Go.Pn Go.RowKit Go.Proofs
attribute [local irreducible] O C D

set_option maxHeartbeats 4000000 in
theorem same_spec (va1 va2 va3 : Value) (a : Cn.Cart) (F : Nat → Prop) (vb1 vb2 vb3 : Value) (b : Cn.Cart) (F2 : Nat → Prop) (w : World) (hav : Sl Dt.dotF.enc w F va1 a.1.1) (hac : Sl Dt.dotF.enc w F va2 a.1.2) (hai : Sl itemE w F va3 a.2) (hbv : Sl Dt.dotF.enc w F2 vb1 b.1.1) (hbc : Sl Dt.dotF.enc w F2 vb2 b.1.2) (hbi : Sl itemE w F2 vb3 b.2) (hF : ∀ k, F k → k < w.heap.size) (hF2 : ∀ k, F2 k → k < w.heap.size) :
    Ret Tryz.prog 21 #[.agg #[va1, va2, va3], .agg #[vb1, vb2, vb3]] w (fun v w' => v = .bool (decide (a = b)) ∧ Le w w') := by
  have hle := hai.le
  have hle2 := hbi.le
  refine enter (args := [.agg #[va1, va2, va3], .agg #[vb1, vb2, vb3]]) (n := 85) Tryz.func21 rfl rfl (Nat.le_of_ble_eq_true rfl) ?_
  refine C.seqK fun K1 hK1 => ?_
  refine C.region ?_
  refine O.box (v := .agg #[va1, va2, va3]) rfl (fun b2 w1 hb2 hz2 e1 => ?_)
  have z1 := e1.size
  have h2 := hz2.own
  have hl2 := h2.lt
  refine O.box (v := .agg #[vb1, vb2, vb3]) rfl (fun b3 w2 hb3 hz3 e2 => ?_)
  have z2 := e2.size
  have h3 := hz3.own
  have hl3 := h3.lt
  refine O.asg ?_
  refine O.nil ?_
  refine hK1 _ _ ?_
  refine C.seqK fun K2 hK2 => ?_
  refine C.seqK fun K3 hK3 => ?_
  refine C.region ?_
  refine O.fieldAd Tryz.underlying28 rfl Tryz.sizeOf25 (by decide) rfl ?_
  refine O.fieldAd Tryz.underlying25 rfl Tryz.sizeOf23 (by decide) rfl ?_
  refine O.loadO Tryz.isAgg23 rfl (h2.keep e2) rfl ?_
  refine O.fieldAd Tryz.underlying28 rfl Tryz.sizeOf25 (by decide) rfl ?_
  refine O.fieldAd Tryz.underlying25 rfl Tryz.sizeOf23 (by decide) rfl ?_
  refine O.loadO Tryz.isAgg23 rfl h3 rfl ?_
  refine O.call Tryz.call48 (args2 rfl rfl) (sameD_spec va1 a.1.1 vb1 b.1.1 F F2 _ ((hav.keep e1).keep e2) ((hbv.keep e1).keep e2)) ?_
  rintro v_15 w3 ⟨rfl, e3⟩
  have z3 := e3.size
  refine O.not rfl ?_
  refine O.mv ?_
  refine O.split (x := .tmp 17) rfl (fun c17 => ?_) (fun c17 => ?_)
  ·
    refine O.no rfl (noB (isT' rfl c17) rfl) ?_
    refine O.no rfl (noB (isT' rfl c17) rfl) ?_
    refine O.no rfl (noB (isT' rfl c17) rfl) ?_
    refine O.no rfl (noB (isT' rfl c17) rfl) ?_
    refine O.no rfl (noB (isT' rfl c17) rfl) ?_
    refine O.no rfl (noB (isT' rfl c17) rfl) ?_
    refine O.no rfl (noB (isT' rfl c17) rfl) ?_
    refine O.no rfl (noB (isT' rfl c17) rfl) ?_
    refine O.pickT (isT' rfl c17) ?_
    refine O.mv ?_
    refine O.no rfl (noB rfl rfl) ?_
    refine O.no rfl (noB rfl rfl) ?_
    refine O.no rfl (noB rfl rfl) ?_
    refine O.no rfl (noB rfl rfl) ?_
    refine O.no rfl (noB rfl rfl) ?_
    refine O.no rfl (noB rfl rfl) ?_
    refine O.no rfl (noB rfl rfl) ?_
    refine O.pickT rfl ?_
    refine O.nil ?_
    refine hK3 _ _ ?_
    refine C.condT rfl ?_
    refine C.seqK fun K4 hK4 => ?_
    refine C.region ?_
    refine O.asg ?_
    refine O.nil ?_
    refine hK4 _ _ ?_
    refine C.ret ?_
    refine Outs.one rfl rfl ?_
    first
    | exact ⟨congrArg Value.bool (decide_eq_false (fun h => Cn.ne_of c17 (congrArg (fun x : Cn.Cart => x.1.1) h))).symm, (Ext.trans (Ext.trans e1 e2) e3)⟩
    | exact ⟨congrArg Value.bool (decide_eq_false (fun h => Cn.ne_of c27 (congrArg (fun x : Cn.Cart => x.1.2) h))).symm, (Ext.trans (Ext.trans e1 e2) e3)⟩
    | exact ⟨congrArg Value.bool (decide_eq_false (fun h => c35 (congrArg (fun x : Cn.Cart => (x.2.length : Int)) h))).symm, (Ext.trans (Ext.trans e1 e2) e3)⟩
    | exact ⟨congrArg Value.bool (decide_eq_false (fun h => c58 (congrArg Prod.fst (Cn.item_of h hi2 hi3)))).symm, (Ext.trans (Ext.trans e1 e2) e3)⟩
    | exact ⟨congrArg Value.bool (decide_eq_false (fun h => c66 (congrArg (fun x : ItemT => (x.2.length : Int)) (Cn.item_of h hi2 hi3)))).symm, (Ext.trans (Ext.trans e1 e2) e3)⟩
    | exact ⟨congrArg Value.bool (decide_eq_false (fun h => c84 (Cn.mark_of (Cn.item_of h hi2 hi3) hj2 hj3))).symm, (Ext.trans (Ext.trans e1 e2) e3)⟩
    | (obtain rfl : i = a.2.length := by omega
       rw [List.take_length, List.take_of_length_le (by omega)] at hI
       exact ⟨congrArg Value.bool (decide_eq_true (Prod.ext (Prod.ext q1 q2) hI)).symm, (Ext.trans (Ext.trans e1 e2) e3)⟩)
  ·
    refine O.yes rfl (isF' rfl c17) ?_
    refine O.fieldAd Tryz.underlying28 rfl Tryz.sizeOf25 (by decide) rfl ?_
    refine O.yes rfl (isF' rfl c17) ?_
    refine O.fieldAd Tryz.underlying25 rfl Tryz.sizeOf22 (by decide) rfl ?_
    refine O.yes rfl (isF' rfl c17) ?_
    refine O.loadO Tryz.isAgg22 rfl ((h2.keep e2).keep e3) rfl ?_
    refine O.yes rfl (isF' rfl c17) ?_
    refine O.fieldAd Tryz.underlying28 rfl Tryz.sizeOf25 (by decide) rfl ?_
    refine O.yes rfl (isF' rfl c17) ?_
    refine O.fieldAd Tryz.underlying25 rfl Tryz.sizeOf22 (by decide) rfl ?_
    refine O.yes rfl (isF' rfl c17) ?_
    refine O.loadO Tryz.isAgg22 rfl (h3.keep e3) rfl ?_
    refine O.yes rfl (isF' rfl c17) ?_
    refine O.call Tryz.call48 (args2 rfl rfl) (sameD_spec va2 a.1.2 vb2 b.1.2 F F2 _ (((hac.keep e1).keep e2).keep e3) (((hbc.keep e1).keep e2).keep e3)) ?_
    rintro v_24 w4 ⟨rfl, e4⟩
    have z4 := e4.size
    refine O.yes rfl (isF' rfl c17) ?_
    refine O.not rfl ?_
    refine O.pickF (isF' rfl c17) ?_
    refine O.mv ?_
    refine O.split (x := .tmp 27) rfl (fun c27 => ?_) (fun c27 => ?_)
    ·
      refine O.no rfl (noB (isT' rfl c27) rfl) ?_
      refine O.no rfl (noB (isT' rfl c27) rfl) ?_
      refine O.no rfl (noB (isT' rfl c27) rfl) ?_
      refine O.no rfl (noB (isT' rfl c27) rfl) ?_
      refine O.no rfl (noB (isT' rfl c27) rfl) ?_
      refine O.no rfl (noB (isT' rfl c27) rfl) ?_
      refine O.no rfl (noB (isT' rfl c27) rfl) ?_
      refine O.pickT (isT' rfl c27) ?_
      refine O.nil ?_
      refine hK3 _ _ ?_
      refine C.condT rfl ?_
      refine C.seqK fun K5 hK5 => ?_
      refine C.region ?_
      refine O.asg ?_
      refine O.nil ?_
      refine hK5 _ _ ?_
      refine C.ret ?_
      refine Outs.one rfl rfl ?_
      first
      | exact ⟨congrArg Value.bool (decide_eq_false (fun h => Cn.ne_of c17 (congrArg (fun x : Cn.Cart => x.1.1) h))).symm, (Ext.trans (Ext.trans (Ext.trans e1 e2) e3) e4)⟩
      | exact ⟨congrArg Value.bool (decide_eq_false (fun h => Cn.ne_of c27 (congrArg (fun x : Cn.Cart => x.1.2) h))).symm, (Ext.trans (Ext.trans (Ext.trans e1 e2) e3) e4)⟩
      | exact ⟨congrArg Value.bool (decide_eq_false (fun h => c35 (congrArg (fun x : Cn.Cart => (x.2.length : Int)) h))).symm, (Ext.trans (Ext.trans (Ext.trans e1 e2) e3) e4)⟩
      | exact ⟨congrArg Value.bool (decide_eq_false (fun h => c58 (congrArg Prod.fst (Cn.item_of h hi2 hi3)))).symm, (Ext.trans (Ext.trans (Ext.trans e1 e2) e3) e4)⟩
      | exact ⟨congrArg Value.bool (decide_eq_false (fun h => c66 (congrArg (fun x : ItemT => (x.2.length : Int)) (Cn.item_of h hi2 hi3)))).symm, (Ext.trans (Ext.trans (Ext.trans e1 e2) e3) e4)⟩
      | exact ⟨congrArg Value.bool (decide_eq_false (fun h => c84 (Cn.mark_of (Cn.item_of h hi2 hi3) hj2 hj3))).symm, (Ext.trans (Ext.trans (Ext.trans e1 e2) e3) e4)⟩
      | (obtain rfl : i = a.2.length := by omega
         rw [List.take_length, List.take_of_length_le (by omega)] at hI
         exact ⟨congrArg Value.bool (decide_eq_true (Prod.ext (Prod.ext q1 q2) hI)).symm, (Ext.trans (Ext.trans (Ext.trans e1 e2) e3) e4)⟩)
    ·
      refine O.yes rfl (isF' rfl c27) ?_
      refine O.fieldAd Tryz.underlying28 rfl Tryz.sizeOf26 (by decide) rfl ?_
      refine O.yes rfl (isF' rfl c27) ?_
      refine O.loadO Tryz.isAgg26 rfl (((h2.keep e2).keep e3).keep e4) rfl ?_
      refine O.yes rfl (isF' rfl c27) ?_
      refine O.len Tryz.underlying26 rfl ((((hai.keep e1).keep e2).keep e3).keep e4) ?_
      refine O.yes rfl (isF' rfl c27) ?_
      refine O.fieldAd Tryz.underlying28 rfl Tryz.sizeOf26 (by decide) rfl ?_
      refine O.yes rfl (isF' rfl c27) ?_
      refine O.loadO Tryz.isAgg26 rfl ((h3.keep e3).keep e4) rfl ?_
      refine O.yes rfl (isF' rfl c27) ?_
      refine O.len Tryz.underlying26 rfl ((((hbi.keep e1).keep e2).keep e3).keep e4) ?_
      refine O.yes rfl (isF' rfl c27) ?_
      refine O.neqI rfl rfl ?_
      refine O.pickF (isF' rfl c27) ?_
      refine O.nil ?_
      refine hK3 _ _ ?_
      refine C.condD rfl (fun c35 => ?_) (fun c35 => ?_)
      ·
        refine C.seqK fun K6 hK6 => ?_
        refine C.region ?_
        refine O.asg ?_
        refine O.nil ?_
        refine hK6 _ _ ?_
        refine C.ret ?_
        refine Outs.one rfl rfl ?_
        first
        | exact ⟨congrArg Value.bool (decide_eq_false (fun h => Cn.ne_of c17 (congrArg (fun x : Cn.Cart => x.1.1) h))).symm, (Ext.trans (Ext.trans (Ext.trans e1 e2) e3) e4)⟩
        | exact ⟨congrArg Value.bool (decide_eq_false (fun h => Cn.ne_of c27 (congrArg (fun x : Cn.Cart => x.1.2) h))).symm, (Ext.trans (Ext.trans (Ext.trans e1 e2) e3) e4)⟩
        | exact ⟨congrArg Value.bool (decide_eq_false (fun h => c35 (congrArg (fun x : Cn.Cart => (x.2.length : Int)) h))).symm, (Ext.trans (Ext.trans (Ext.trans e1 e2) e3) e4)⟩
        | exact ⟨congrArg Value.bool (decide_eq_false (fun h => c58 (congrArg Prod.fst (Cn.item_of h hi2 hi3)))).symm, (Ext.trans (Ext.trans (Ext.trans e1 e2) e3) e4)⟩
        | exact ⟨congrArg Value.bool (decide_eq_false (fun h => c66 (congrArg (fun x : ItemT => (x.2.length : Int)) (Cn.item_of h hi2 hi3)))).symm, (Ext.trans (Ext.trans (Ext.trans e1 e2) e3) e4)⟩
        | exact ⟨congrArg Value.bool (decide_eq_false (fun h => c84 (Cn.mark_of (Cn.item_of h hi2 hi3) hj2 hj3))).symm, (Ext.trans (Ext.trans (Ext.trans e1 e2) e3) e4)⟩
        | (obtain rfl : i = a.2.length := by omega
           rw [List.take_length, List.take_of_length_le (by omega)] at hI
           exact ⟨congrArg Value.bool (decide_eq_true (Prod.ext (Prod.ext q1 q2) hI)).symm, (Ext.trans (Ext.trans (Ext.trans e1 e2) e3) e4)⟩)
      ·
        have q1 : a.1.1 = b.1.1 := by simpa using c17
        have q2 : a.1.2 = b.1.2 := by simpa using c27
        have q3 : a.2.length = b.2.length := by omega
        refine C.skip ?_
        refine hK2 _ _ ?_
        refine C.seqK fun K7 hK7 => ?_
        refine C.seqK fun K8 hK8 => ?_
        refine C.region ?_
        refine O.asg ?_
        refine O.nil ?_
        refine hK8 _ _ ?_
        refine C.block fun K9 hK9 => ?_
        refine C.loop0 (σ := Nat) (fun f0 w0 i f w => f 5 = .int .i64 (i) ∧ f 2 = f0 2 ∧ f 3 = f0 3 ∧ Le w0 w ∧ i ≤ a.2.length ∧ a.2.take i = b.2.take i) (fun i => a.2.length - i) 0 ?_ ?_
        ·
          refine ⟨rfl, rfl, rfl, Le.refl _, ?_⟩
          exact ⟨Nat.zero_le _, rfl⟩
        ·
          rintro i f_1 w5 ⟨s5_1, s2_1, s3_1, e_1, ⟨hi, hI⟩⟩
          have z_1 := e_1.size
          refine C.seqK fun K10 hK10 => ?_
          refine C.seqK fun K11 hK11 => ?_
          refine C.region ?_
          refine O.mv ?_
          refine O.fieldAd Tryz.underlying28 rfl Tryz.sizeOf26 (by decide) s2_1 ?_
          refine O.loadO Tryz.isAgg26 rfl ((((h2.keep e2).keep e3).keep e4).keep e_1) rfl ?_
          refine O.len Tryz.underlying26 rfl (((((hai.keep e1).keep e2).keep e3).keep e4).keep e_1) ?_
          refine O.lssI s5_1 rfl ?_
          refine O.nil ?_
          refine hK11 _ _ ?_
          refine C.condD rfl (fun c40 => ?_) (fun c40 => ?_)
          ·
            have hi2 : i < a.2.length := by omega
            have hi3 : i < b.2.length := by omega
            refine C.skip ?_
            refine hK10 _ _ ?_
            refine C.seqK fun K12 hK12 => ?_
            refine C.block fun K13 hK13 => ?_
            refine C.seqK fun K14 hK14 => ?_
            refine C.join (fun f w f' w' => Le w w' ∧ f' 2 = f 2 ∧ f' 3 = f 3 ∧ f' 5 = f 5 ∧ ∃ (b6 : Nat) (b7 : Nat) (vx : Value) (vy : Value), f' 6 = .pointer (some ⟨b6, 0, none⟩) ∧ f' 7 = .pointer (some ⟨b7, 0, none⟩) ∧ Own w' b6 56 [str (a.2[i]'hi2).1, vx] ∧ Own w' b7 56 [str (b.2[i]'hi3).1, vy] ∧ Sl markF.enc w' F vx (a.2[i]'hi2).2 ∧ Sl markF.enc w' F2 vy (b.2[i]'hi3).2) ?_ ?_
            ·
              refine C.draw (by kernel_rfl) fun w6 e6 => ?_
              have z6 := e6.size
              refine D.take (i := 0) rfl rfl rfl rfl (by kernel_rfl) (Le.refl _) ⟨_, rfl⟩ (fun w_ hw_ N_ hN => (O.fieldAd Tryz.underlying28 rfl Tryz.sizeOf26 (by decide) s2_1 (O.nil hN))) ?_
              refine D.take (i := 1) rfl rfl rfl rfl (by kernel_rfl) (Le.refl _) ⟨_, rfl⟩ (fun w_ hw_ N_ hN => (O.loadO Tryz.isAgg26 rfl ((((((h2.keep e2).keep e3).keep e4).keep e_1).keep e6).keep hw_) rfl (O.nil hN))) ?_
              refine D.take (i := 2) rfl rfl rfl rfl (by kernel_rfl) (Le.refl _) ⟨pure _, rfl⟩ (fun w_ hw_ N_ hN => (O.mv (O.nil hN))) ?_
              obtain ⟨a46, h46, hr46⟩ := Sl.at (i := (i : Int)) (P := Tryz.prog) Tryz.underlying26 Tryz.sizeOf56 rfl ((((((hai.keep e1).keep e2).keep e3).keep e4).keep e_1).keep e6) (by omega)
              refine D.take (i := 3) rfl rfl rfl rfl (by kernel_rfl) (Le.refl _) ⟨_, rfl⟩ (fun w_ hw_ N_ hN => (O.idxR rfl s5_1 hr46 (O.nil hN))) ?_
              obtain ⟨s47, ha47, hm47⟩ := At.raw h46
              refine D.take (i := 4) rfl rfl rfl rfl (by kernel_rfl) (Le.refl _) ⟨_, rfl⟩ (fun w_ hw_ N_ hN => (O.loadG (G := itemF) Tryz.isAgg56 Tryz.sizeOf56 rfl (ha47.keep hw_) (O.nil hN))) ?_
              refine D.take (i := 5) rfl rfl rfl rfl (by kernel_rfl) (Le.refl _) ⟨_, rfl⟩ (fun w_ hw_ N_ hN => (O.fieldAd Tryz.underlying28 rfl Tryz.sizeOf26 (by decide) s3_1 (O.nil hN))) ?_
              refine D.take (i := 6) rfl rfl rfl rfl (by kernel_rfl) (Le.refl _) ⟨_, rfl⟩ (fun w_ hw_ N_ hN => (O.loadO Tryz.isAgg26 rfl (((((h3.keep e3).keep e4).keep e_1).keep e6).keep hw_) rfl (O.nil hN))) ?_
              refine D.take (i := 7) rfl rfl rfl rfl (by kernel_rfl) (Le.refl _) ⟨pure _, rfl⟩ (fun w_ hw_ N_ hN => (O.mv (O.nil hN))) ?_
              obtain ⟨a51, h51, hr51⟩ := Sl.at (i := (i : Int)) (P := Tryz.prog) Tryz.underlying26 Tryz.sizeOf56 rfl ((((((hbi.keep e1).keep e2).keep e3).keep e4).keep e_1).keep e6) (by omega)
              refine D.take (i := 8) rfl rfl rfl rfl (by kernel_rfl) (Le.refl _) ⟨_, rfl⟩ (fun w_ hw_ N_ hN => (O.idxR rfl s5_1 hr51 (O.nil hN))) ?_
              obtain ⟨s52, ha52, hm52⟩ := At.raw h51
              refine D.take (i := 9) rfl rfl rfl rfl (by kernel_rfl) (Le.refl _) ⟨_, rfl⟩ (fun w_ hw_ N_ hN => (O.loadG (G := itemF) Tryz.isAgg56 Tryz.sizeOf56 rfl (ha52.keep hw_) (O.nil hN))) ?_
              refine D.many [10, 11] (by kernel_rfl) (by decide) ⟨?_, ?_, trivial⟩
              ·
                refine D.stepU rfl rfl ?_
                refine O.alloc Tryz.zeroValue56 (fun b6 w7 hb6 hz6 e7 => ?_)
                have z7 := e7.size
                have h6 := hz6.own
                have hl6 := h6.lt
                refine O.nil ⟨e7, ?_⟩
                refine D.one (i := 11) rfl rfl (by kernel_rfl) ?_
                refine O.alloc Tryz.zeroValue56 (fun b7 w8 hb7 hz7 e8 => ?_)
                have z8 := e8.size
                have h7 := hz7.own
                have hl7 := h7.lt
                refine O.nil ⟨(Ext.trans e7 e8), ?_⟩
                refine D.one (i := 12) rfl rfl (by kernel_rfl) ?_
                refine O.storeA (vs := [str (a.2[i]'hi2).1, slv s47]) Tryz.sizeOf56 rfl rfl rfl (ones2 rfl) (h6.keep e8) (Nat.le_of_ble_eq_true rfl) (fun w9 hs9 e9 z9 => ?_)
                refine O.nil ⟨(Ext.new (Ext.trans e7 e8) e9 (by rintro i hi rfl; omega)), ?_⟩
                refine D.one (i := 13) rfl rfl (by kernel_rfl) ?_
                refine O.storeA (vs := [str (b.2[i]'hi3).1, slv s52]) Tryz.sizeOf56 rfl rfl rfl (ones2 rfl) (h7.keepM e9 (by intro h; (try dsimp only at h); omega)) (Nat.le_of_ble_eq_true rfl) (fun w10 hs10 e10 z10 => ?_)
                refine O.nil ⟨(Ext.new (Ext.new (Ext.trans e7 e8) e9 (by rintro i hi rfl; omega)) e10 (by rintro i hi rfl; omega)), ?_⟩
                refine D.done (by kernel_rfl) ?_
                exact ⟨(Ext.new (Ext.new (Ext.trans (Ext.trans e6 e7) e8) e9 (by rintro i hi rfl; omega)) e10 (by rintro i hi rfl; omega)), rfl, rfl, rfl, ⟨_, _, _, _, rfl, rfl, (hs9.keepM e10 (by intro h; (try dsimp only at h); omega)), hs10, ((((hm47.keep e7).keep e8).keepM e9 (by intro k hk h; first | (have q1 := hF k hk; (try dsimp only at h); omega) | (have q1 := hF2 k hk; (try dsimp only at h); omega) | (have q1 := hFb k hk; (try dsimp only at h); omega) | ((try dsimp only at hk); (try dsimp only at h); omega))).keepM e10 (by intro k hk h; first | (have q1 := hF k hk; (try dsimp only at h); omega) | (have q1 := hF2 k hk; (try dsimp only at h); omega) | (have q1 := hFb k hk; (try dsimp only at h); omega) | ((try dsimp only at hk); (try dsimp only at h); omega))), ((((hm52.keep e7).keep e8).keepM e9 (by intro k hk h; first | (have q1 := hF k hk; (try dsimp only at h); omega) | (have q1 := hF2 k hk; (try dsimp only at h); omega) | (have q1 := hFb k hk; (try dsimp only at h); omega) | ((try dsimp only at hk); (try dsimp only at h); omega))).keepM e10 (by intro k hk h; first | (have q1 := hF k hk; (try dsimp only at h); omega) | (have q1 := hF2 k hk; (try dsimp only at h); omega) | (have q1 := hFb k hk; (try dsimp only at h); omega) | ((try dsimp only at hk); (try dsimp only at h); omega)))⟩⟩
              ·
                refine D.stepU rfl rfl ?_
                refine O.alloc Tryz.zeroValue56 (fun b7 w11 hb7 hz7 e11 => ?_)
                have z11 := e11.size
                have h7 := hz7.own
                have hl7 := h7.lt
                refine O.nil ⟨e11, ?_⟩
                refine D.one (i := 10) rfl rfl (by kernel_rfl) ?_
                refine O.alloc Tryz.zeroValue56 (fun b6 w12 hb6 hz6 e12 => ?_)
                have z12 := e12.size
                have h6 := hz6.own
                have hl6 := h6.lt
                refine O.nil ⟨(Ext.trans e11 e12), ?_⟩
                refine D.one (i := 12) rfl rfl (by kernel_rfl) ?_
                refine O.storeA (vs := [str (a.2[i]'hi2).1, slv s47]) Tryz.sizeOf56 rfl rfl rfl (ones2 rfl) h6 (Nat.le_of_ble_eq_true rfl) (fun w13 hs13 e13 z13 => ?_)
                refine O.nil ⟨(Ext.new (Ext.trans e11 e12) e13 (by rintro i hi rfl; omega)), ?_⟩
                refine D.one (i := 13) rfl rfl (by kernel_rfl) ?_
                refine O.storeA (vs := [str (b.2[i]'hi3).1, slv s52]) Tryz.sizeOf56 rfl rfl rfl (ones2 rfl) ((h7.keep e12).keepM e13 (by intro h; (try dsimp only at h); omega)) (Nat.le_of_ble_eq_true rfl) (fun w14 hs14 e14 z14 => ?_)
                refine O.nil ⟨(Ext.new (Ext.new (Ext.trans e11 e12) e13 (by rintro i hi rfl; omega)) e14 (by rintro i hi rfl; omega)), ?_⟩
                refine D.done (by kernel_rfl) ?_
                exact ⟨(Ext.new (Ext.new (Ext.trans (Ext.trans e6 e11) e12) e13 (by rintro i hi rfl; omega)) e14 (by rintro i hi rfl; omega)), rfl, rfl, rfl, ⟨_, _, _, _, rfl, rfl, (hs13.keepM e14 (by intro h; (try dsimp only at h); omega)), hs14, ((((hm47.keep e11).keep e12).keepM e13 (by intro k hk h; first | (have q1 := hF k hk; (try dsimp only at h); omega) | (have q1 := hF2 k hk; (try dsimp only at h); omega) | (have q1 := hFb k hk; (try dsimp only at h); omega) | ((try dsimp only at hk); (try dsimp only at h); omega))).keepM e14 (by intro k hk h; first | (have q1 := hF k hk; (try dsimp only at h); omega) | (have q1 := hF2 k hk; (try dsimp only at h); omega) | (have q1 := hFb k hk; (try dsimp only at h); omega) | ((try dsimp only at hk); (try dsimp only at h); omega))), ((((hm52.keep e11).keep e12).keepM e13 (by intro k hk h; first | (have q1 := hF k hk; (try dsimp only at h); omega) | (have q1 := hF2 k hk; (try dsimp only at h); omega) | (have q1 := hFb k hk; (try dsimp only at h); omega) | ((try dsimp only at hk); (try dsimp only at h); omega))).keepM e14 (by intro k hk h; first | (have q1 := hF k hk; (try dsimp only at h); omega) | (have q1 := hF2 k hk; (try dsimp only at h); omega) | (have q1 := hFb k hk; (try dsimp only at h); omega) | ((try dsimp only at hk); (try dsimp only at h); omega)))⟩⟩
            ·
              rintro f_2 w15 ⟨e_2, s2_2, s3_2, s5_2, ⟨b6, b7, vx, vy, s6_2, s7_2, q0_2, q1_2, q2_2, q3_2⟩⟩
              have z_2 := e_2.size
              have hlx := q2_2.le
              have hly := q3_2.le
              refine hK14 _ _ ?_
              refine C.seqK fun K15 hK15 => ?_
              refine C.seqK fun K16 hK16 => ?_
              refine C.region ?_
              refine O.fieldAd Tryz.underlying56 rfl Tryz.sizeOf9 (by decide) s6_2 ?_
              refine O.loadO Tryz.isAgg9 rfl q0_2 rfl ?_
              refine O.fieldAd Tryz.underlying56 rfl Tryz.sizeOf9 (by decide) s7_2 ?_
              refine O.loadO Tryz.isAgg9 rfl q1_2 rfl ?_
              refine O.neqS rfl rfl ?_
              refine O.mv ?_
              refine O.splitD (x := .tmp 58) rfl (fun c58 => ?_) (fun c58 => ?_)
              ·
                refine O.no rfl (noB (isT rfl c58) rfl) ?_
                refine O.no rfl (noB (isT rfl c58) rfl) ?_
                refine O.no rfl (noB (isT rfl c58) rfl) ?_
                refine O.no rfl (noB (isT rfl c58) rfl) ?_
                refine O.no rfl (noB (isT rfl c58) rfl) ?_
                refine O.no rfl (noB (isT rfl c58) rfl) ?_
                refine O.no rfl (noB (isT rfl c58) rfl) ?_
                refine O.pickT (isT rfl c58) ?_
                refine O.nil ?_
                refine hK16 _ _ ?_
                refine C.condT rfl ?_
                refine C.seqK fun K17 hK17 => ?_
                refine C.region ?_
                refine O.asg ?_
                refine O.nil ?_
                refine hK17 _ _ ?_
                refine C.ret ?_
                refine Outs.one rfl rfl ?_
                first
                | exact ⟨congrArg Value.bool (decide_eq_false (fun h => Cn.ne_of c17 (congrArg (fun x : Cn.Cart => x.1.1) h))).symm, (Ext.trans (Ext.trans (Ext.trans (Ext.trans (Ext.trans e1 e2) e3) e4) e_1) e_2)⟩
                | exact ⟨congrArg Value.bool (decide_eq_false (fun h => Cn.ne_of c27 (congrArg (fun x : Cn.Cart => x.1.2) h))).symm, (Ext.trans (Ext.trans (Ext.trans (Ext.trans (Ext.trans e1 e2) e3) e4) e_1) e_2)⟩
                | exact ⟨congrArg Value.bool (decide_eq_false (fun h => c35 (congrArg (fun x : Cn.Cart => (x.2.length : Int)) h))).symm, (Ext.trans (Ext.trans (Ext.trans (Ext.trans (Ext.trans e1 e2) e3) e4) e_1) e_2)⟩
                | exact ⟨congrArg Value.bool (decide_eq_false (fun h => c58 (congrArg Prod.fst (Cn.item_of h hi2 hi3)))).symm, (Ext.trans (Ext.trans (Ext.trans (Ext.trans (Ext.trans e1 e2) e3) e4) e_1) e_2)⟩
                | exact ⟨congrArg Value.bool (decide_eq_false (fun h => c66 (congrArg (fun x : ItemT => (x.2.length : Int)) (Cn.item_of h hi2 hi3)))).symm, (Ext.trans (Ext.trans (Ext.trans (Ext.trans (Ext.trans e1 e2) e3) e4) e_1) e_2)⟩
                | exact ⟨congrArg Value.bool (decide_eq_false (fun h => c84 (Cn.mark_of (Cn.item_of h hi2 hi3) hj2 hj3))).symm, (Ext.trans (Ext.trans (Ext.trans (Ext.trans (Ext.trans e1 e2) e3) e4) e_1) e_2)⟩
                | (obtain rfl : i = a.2.length := by omega
                   rw [List.take_length, List.take_of_length_le (by omega)] at hI
                   exact ⟨congrArg Value.bool (decide_eq_true (Prod.ext (Prod.ext q1 q2) hI)).symm, (Ext.trans (Ext.trans (Ext.trans (Ext.trans (Ext.trans e1 e2) e3) e4) e_1) e_2)⟩)
              ·
                refine O.yes rfl (isF rfl c58) ?_
                refine O.fieldAd Tryz.underlying56 rfl Tryz.sizeOf54 (by decide) s6_2 ?_
                refine O.yes rfl (isF rfl c58) ?_
                refine O.loadO Tryz.isAgg54 rfl q0_2 rfl ?_
                refine O.yes rfl (isF rfl c58) ?_
                refine O.len Tryz.underlying54 rfl q2_2 ?_
                refine O.yes rfl (isF rfl c58) ?_
                refine O.fieldAd Tryz.underlying56 rfl Tryz.sizeOf54 (by decide) s7_2 ?_
                refine O.yes rfl (isF rfl c58) ?_
                refine O.loadO Tryz.isAgg54 rfl q1_2 rfl ?_
                refine O.yes rfl (isF rfl c58) ?_
                refine O.len Tryz.underlying54 rfl q3_2 ?_
                refine O.yes rfl (isF rfl c58) ?_
                refine O.neqI rfl rfl ?_
                refine O.pickF (isF rfl c58) ?_
                refine O.nil ?_
                refine hK16 _ _ ?_
                refine C.condD rfl (fun c66 => ?_) (fun c66 => ?_)
                ·
                  refine C.seqK fun K18 hK18 => ?_
                  refine C.region ?_
                  refine O.asg ?_
                  refine O.nil ?_
                  refine hK18 _ _ ?_
                  refine C.ret ?_
                  refine Outs.one rfl rfl ?_
                  first
                  | exact ⟨congrArg Value.bool (decide_eq_false (fun h => Cn.ne_of c17 (congrArg (fun x : Cn.Cart => x.1.1) h))).symm, (Ext.trans (Ext.trans (Ext.trans (Ext.trans (Ext.trans e1 e2) e3) e4) e_1) e_2)⟩
                  | exact ⟨congrArg Value.bool (decide_eq_false (fun h => Cn.ne_of c27 (congrArg (fun x : Cn.Cart => x.1.2) h))).symm, (Ext.trans (Ext.trans (Ext.trans (Ext.trans (Ext.trans e1 e2) e3) e4) e_1) e_2)⟩
                  | exact ⟨congrArg Value.bool (decide_eq_false (fun h => c35 (congrArg (fun x : Cn.Cart => (x.2.length : Int)) h))).symm, (Ext.trans (Ext.trans (Ext.trans (Ext.trans (Ext.trans e1 e2) e3) e4) e_1) e_2)⟩
                  | exact ⟨congrArg Value.bool (decide_eq_false (fun h => c58 (congrArg Prod.fst (Cn.item_of h hi2 hi3)))).symm, (Ext.trans (Ext.trans (Ext.trans (Ext.trans (Ext.trans e1 e2) e3) e4) e_1) e_2)⟩
                  | exact ⟨congrArg Value.bool (decide_eq_false (fun h => c66 (congrArg (fun x : ItemT => (x.2.length : Int)) (Cn.item_of h hi2 hi3)))).symm, (Ext.trans (Ext.trans (Ext.trans (Ext.trans (Ext.trans e1 e2) e3) e4) e_1) e_2)⟩
                  | exact ⟨congrArg Value.bool (decide_eq_false (fun h => c84 (Cn.mark_of (Cn.item_of h hi2 hi3) hj2 hj3))).symm, (Ext.trans (Ext.trans (Ext.trans (Ext.trans (Ext.trans e1 e2) e3) e4) e_1) e_2)⟩
                  | (obtain rfl : i = a.2.length := by omega
                     rw [List.take_length, List.take_of_length_le (by omega)] at hI
                     exact ⟨congrArg Value.bool (decide_eq_true (Prod.ext (Prod.ext q1 q2) hI)).symm, (Ext.trans (Ext.trans (Ext.trans (Ext.trans (Ext.trans e1 e2) e3) e4) e_1) e_2)⟩)
                ·
                  have q4 : (a.2[i]'hi2).1 = (b.2[i]'hi3).1 := Decidable.of_not_not c58
                  have q5 : (a.2[i]'hi2).2.length = (b.2[i]'hi3).2.length := by omega
                  refine C.skip ?_
                  refine hK15 _ _ ?_
                  refine C.seqK fun K19 hK19 => ?_
                  refine C.region ?_
                  refine O.asg ?_
                  refine O.nil ?_
                  refine hK19 _ _ ?_
                  refine C.block fun K20 hK20 => ?_
                  refine C.loop0 (σ := Nat) (fun f0 w0 j f w => f 8 = .int .i64 (j) ∧ f 2 = f0 2 ∧ f 3 = f0 3 ∧ f 5 = f0 5 ∧ f 6 = f0 6 ∧ f 7 = f0 7 ∧ Le w0 w ∧ j ≤ (a.2[i]'hi2).2.length ∧ (a.2[i]'hi2).2.take j = (b.2[i]'hi3).2.take j) (fun j => (a.2[i]'hi2).2.length - j) 0 ?_ ?_
                  ·
                    refine ⟨rfl, rfl, rfl, rfl, rfl, rfl, Le.refl _, ?_⟩
                    exact ⟨Nat.zero_le _, rfl⟩
                  ·
                    rintro j f_3 w16 ⟨s8_3, s2_3, s3_3, s5_3, s6_3, s7_3, e_3, ⟨hj, hJ⟩⟩
                    have z_3 := e_3.size
                    refine C.seqK fun K21 hK21 => ?_
                    refine C.seqK fun K22 hK22 => ?_
                    refine C.region ?_
                    refine O.mv ?_
                    refine O.fieldAd Tryz.underlying56 rfl Tryz.sizeOf54 (by decide) (Eq.trans s6_3 s6_2) ?_
                    refine O.loadO Tryz.isAgg54 rfl (q0_2.keep e_3) rfl ?_
                    refine O.len Tryz.underlying54 rfl (q2_2.keep e_3) ?_
                    refine O.lssI s8_3 rfl ?_
                    refine O.nil ?_
                    refine hK22 _ _ ?_
                    refine C.condD rfl (fun c71 => ?_) (fun c71 => ?_)
                    ·
                      have hj2 : j < (a.2[i]'hi2).2.length := by omega
                      have hj3 : j < (b.2[i]'hi3).2.length := by omega
                      refine C.skip ?_
                      refine hK21 _ _ ?_
                      refine C.seqK fun K23 hK23 => ?_
                      refine C.block fun K24 hK24 => ?_
                      refine C.seqK fun K25 hK25 => ?_
                      refine C.draw (by kernel_rfl) fun w17 e17 => ?_
                      have z17 := e17.size
                      refine D.take (i := 0) rfl rfl rfl rfl (by kernel_rfl) (Le.refl _) ⟨_, rfl⟩ (fun w_ hw_ N_ hN => (O.fieldAd Tryz.underlying56 rfl Tryz.sizeOf54 (by decide) (Eq.trans s6_3 s6_2) (O.nil hN))) ?_
                      refine D.take (i := 1) rfl rfl rfl rfl (by kernel_rfl) (Le.refl _) ⟨_, rfl⟩ (fun w_ hw_ N_ hN => (O.loadO Tryz.isAgg54 rfl (((q0_2.keep e_3).keep e17).keep hw_) rfl (O.nil hN))) ?_
                      refine D.take (i := 2) rfl rfl rfl rfl (by kernel_rfl) (Le.refl _) ⟨pure _, rfl⟩ (fun w_ hw_ N_ hN => (O.mv (O.nil hN))) ?_
                      obtain ⟨a77, h77, hr77⟩ := Sl.at (i := (j : Int)) (P := Tryz.prog) Tryz.underlying54 Tryz.sizeOf53 rfl ((q2_2.keep e_3).keep e17) (by omega)
                      refine D.take (i := 3) rfl rfl rfl rfl (by kernel_rfl) (Le.refl _) ⟨_, rfl⟩ (fun w_ hw_ N_ hN => (O.idxR rfl s8_3 hr77 (O.nil hN))) ?_
                      refine D.take (i := 4) rfl rfl rfl rfl (by kernel_rfl) (Le.refl _) ⟨_, rfl⟩ (fun w_ hw_ N_ hN => (O.loadG (G := markF) Tryz.isAgg53 Tryz.sizeOf53 rfl (h77.keep hw_) (O.nil hN))) ?_
                      refine D.take (i := 5) rfl rfl rfl rfl (by kernel_rfl) (Le.refl _) ⟨_, rfl⟩ (fun w_ hw_ N_ hN => (O.fieldAd Tryz.underlying56 rfl Tryz.sizeOf54 (by decide) (Eq.trans s7_3 s7_2) (O.nil hN))) ?_
                      refine D.take (i := 6) rfl rfl rfl rfl (by kernel_rfl) (Le.refl _) ⟨_, rfl⟩ (fun w_ hw_ N_ hN => (O.loadO Tryz.isAgg54 rfl (((q1_2.keep e_3).keep e17).keep hw_) rfl (O.nil hN))) ?_
                      refine D.take (i := 7) rfl rfl rfl rfl (by kernel_rfl) (Le.refl _) ⟨pure _, rfl⟩ (fun w_ hw_ N_ hN => (O.mv (O.nil hN))) ?_
                      obtain ⟨a82, h82, hr82⟩ := Sl.at (i := (j : Int)) (P := Tryz.prog) Tryz.underlying54 Tryz.sizeOf53 rfl ((q3_2.keep e_3).keep e17) (by omega)
                      refine D.take (i := 8) rfl rfl rfl rfl (by kernel_rfl) (Le.refl _) ⟨_, rfl⟩ (fun w_ hw_ N_ hN => (O.idxR rfl s8_3 hr82 (O.nil hN))) ?_
                      refine D.take (i := 9) rfl rfl rfl rfl (by kernel_rfl) (Le.refl _) ⟨_, rfl⟩ (fun w_ hw_ N_ hN => (O.loadG (G := markF) Tryz.isAgg53 Tryz.sizeOf53 rfl (h82.keep hw_) (O.nil hN))) ?_
                      refine D.take (i := 10) rfl rfl rfl rfl (by kernel_rfl) (Le.refl _) ⟨_, rfl⟩ (fun w_ hw_ N_ hN => (O.neqM (a := (a.2[i]'hi2).2[j]'hj2) (b := (b.2[i]'hi3).2[j]'hj3) (fun a b => run_eq_mark Tryz.underlying53 (by decide) (by decide) (by decide) rfl rfl rfl Tryz.underlying51 (by decide) (by decide) rfl rfl Tryz.underlying3 Tryz.underlying3 Tryz.underlying3 Tryz.underlying49 Tryz.isAgg3 Tryz.isAgg3 Tryz.isAgg51 Tryz.sizeOf51 Tryz.isAgg3 Tryz.isAgg49 (by kernel_rfl) (by kernel_rfl) a b) (by kernel_rfl) rfl rfl (O.nil hN))) ?_
                      refine D.done (by kernel_rfl) ?_
                      refine hK25 _ _ ?_
                      refine C.condD rfl (fun c84 => ?_) (fun c84 => ?_)
                      ·
                        try simp only [Int.toNat_natCast] at c84
                        refine C.seqK fun K26 hK26 => ?_
                        refine C.region ?_
                        refine O.asg ?_
                        refine O.nil ?_
                        refine hK26 _ _ ?_
                        refine C.ret ?_
                        refine Outs.one rfl rfl ?_
                        first
                        | exact ⟨congrArg Value.bool (decide_eq_false (fun h => Cn.ne_of c17 (congrArg (fun x : Cn.Cart => x.1.1) h))).symm, (Ext.trans (Ext.trans (Ext.trans (Ext.trans (Ext.trans (Ext.trans (Ext.trans e1 e2) e3) e4) e_1) e_2) e_3) e17)⟩
                        | exact ⟨congrArg Value.bool (decide_eq_false (fun h => Cn.ne_of c27 (congrArg (fun x : Cn.Cart => x.1.2) h))).symm, (Ext.trans (Ext.trans (Ext.trans (Ext.trans (Ext.trans (Ext.trans (Ext.trans e1 e2) e3) e4) e_1) e_2) e_3) e17)⟩
                        | exact ⟨congrArg Value.bool (decide_eq_false (fun h => c35 (congrArg (fun x : Cn.Cart => (x.2.length : Int)) h))).symm, (Ext.trans (Ext.trans (Ext.trans (Ext.trans (Ext.trans (Ext.trans (Ext.trans e1 e2) e3) e4) e_1) e_2) e_3) e17)⟩
                        | exact ⟨congrArg Value.bool (decide_eq_false (fun h => c58 (congrArg Prod.fst (Cn.item_of h hi2 hi3)))).symm, (Ext.trans (Ext.trans (Ext.trans (Ext.trans (Ext.trans (Ext.trans (Ext.trans e1 e2) e3) e4) e_1) e_2) e_3) e17)⟩
                        | exact ⟨congrArg Value.bool (decide_eq_false (fun h => c66 (congrArg (fun x : ItemT => (x.2.length : Int)) (Cn.item_of h hi2 hi3)))).symm, (Ext.trans (Ext.trans (Ext.trans (Ext.trans (Ext.trans (Ext.trans (Ext.trans e1 e2) e3) e4) e_1) e_2) e_3) e17)⟩
                        | exact ⟨congrArg Value.bool (decide_eq_false (fun h => c84 (Cn.mark_of (Cn.item_of h hi2 hi3) hj2 hj3))).symm, (Ext.trans (Ext.trans (Ext.trans (Ext.trans (Ext.trans (Ext.trans (Ext.trans e1 e2) e3) e4) e_1) e_2) e_3) e17)⟩
                        | (obtain rfl : i = a.2.length := by omega
                           rw [List.take_length, List.take_of_length_le (by omega)] at hI
                           exact ⟨congrArg Value.bool (decide_eq_true (Prod.ext (Prod.ext q1 q2) hI)).symm, (Ext.trans (Ext.trans (Ext.trans (Ext.trans (Ext.trans (Ext.trans (Ext.trans e1 e2) e3) e4) e_1) e_2) e_3) e17)⟩)
                      ·
                        refine C.skip ?_
                        refine hK24 _ _ ?_
                        refine hK23 _ _ ?_
                        refine C.region ?_
                        refine O.mv ?_
                        refine O.addI s8_3 rfl (by unfold InI; omega) ?_
                        refine O.asg ?_
                        refine O.nil ?_
                        refine ⟨j + 1, ⟨rfl, s2_3, s3_3, s5_3, s6_3, s7_3, (Ext.trans e_3 e17), ?_⟩, by first | omega | (simp only []; omega)⟩
                        refine ⟨by omega, ?_⟩
                        rw [List.take_succ_eq_append_getElem hj2, List.take_succ_eq_append_getElem hj3, hJ, Decidable.of_not_not c84]
                    ·
                      have hj4 : j = (a.2[i]'hi2).2.length := by omega
                      refine C.exit ?_
                      refine hK20 _ _ ?_
                      refine hK13 _ _ ?_
                      refine hK12 _ _ ?_
                      refine C.region ?_
                      refine O.mv ?_
                      refine O.addI (Eq.trans s5_3 (Eq.trans s5_2 s5_1)) rfl (by unfold InI; omega) ?_
                      refine O.asg ?_
                      refine O.nil ?_
                      refine ⟨i + 1, ⟨rfl, (Eq.trans s2_3 (Eq.trans s2_2 s2_1)), (Eq.trans s3_3 (Eq.trans s3_2 s3_1)), (Ext.trans (Ext.trans e_1 e_2) e_3), ?_⟩, by first | omega | (simp only []; omega)⟩
                      refine ⟨by omega, ?_⟩
                      have q6 : (a.2[i]'hi2).2 = (b.2[i]'hi3).2 := by rw [hj4, List.take_length, List.take_of_length_le (by omega)] at hJ; exact hJ
                      rw [List.take_succ_eq_append_getElem hi2, List.take_succ_eq_append_getElem hi3, hI, show (a.2[i]'hi2) = (b.2[i]'hi3) from Prod.ext q4 q6]
          ·
            refine C.exit ?_
            refine hK9 _ _ ?_
            refine hK7 _ _ ?_
            refine C.seqK fun K27 hK27 => ?_
            refine C.region ?_
            refine O.asg ?_
            refine O.nil ?_
            refine hK27 _ _ ?_
            refine C.ret ?_
            refine Outs.one rfl rfl ?_
            first
            | exact ⟨congrArg Value.bool (decide_eq_false (fun h => Cn.ne_of c17 (congrArg (fun x : Cn.Cart => x.1.1) h))).symm, (Ext.trans (Ext.trans (Ext.trans (Ext.trans e1 e2) e3) e4) e_1)⟩
            | exact ⟨congrArg Value.bool (decide_eq_false (fun h => Cn.ne_of c27 (congrArg (fun x : Cn.Cart => x.1.2) h))).symm, (Ext.trans (Ext.trans (Ext.trans (Ext.trans e1 e2) e3) e4) e_1)⟩
            | exact ⟨congrArg Value.bool (decide_eq_false (fun h => c35 (congrArg (fun x : Cn.Cart => (x.2.length : Int)) h))).symm, (Ext.trans (Ext.trans (Ext.trans (Ext.trans e1 e2) e3) e4) e_1)⟩
            | exact ⟨congrArg Value.bool (decide_eq_false (fun h => c58 (congrArg Prod.fst (Cn.item_of h hi2 hi3)))).symm, (Ext.trans (Ext.trans (Ext.trans (Ext.trans e1 e2) e3) e4) e_1)⟩
            | exact ⟨congrArg Value.bool (decide_eq_false (fun h => c66 (congrArg (fun x : ItemT => (x.2.length : Int)) (Cn.item_of h hi2 hi3)))).symm, (Ext.trans (Ext.trans (Ext.trans (Ext.trans e1 e2) e3) e4) e_1)⟩
            | exact ⟨congrArg Value.bool (decide_eq_false (fun h => c84 (Cn.mark_of (Cn.item_of h hi2 hi3) hj2 hj3))).symm, (Ext.trans (Ext.trans (Ext.trans (Ext.trans e1 e2) e3) e4) e_1)⟩
            | (obtain rfl : i = a.2.length := by omega
               rw [List.take_length, List.take_of_length_le (by omega)] at hI
               exact ⟨congrArg Value.bool (decide_eq_true (Prod.ext (Prod.ext q1 q2) hI)).symm, (Ext.trans (Ext.trans (Ext.trans (Ext.trans e1 e2) e3) e4) e_1)⟩)

end Go.Proofs.YtnkcmaoaagnopaaGreatDoor
end
section
/-
  The walks of a cart copied, of the laws' helpers, of what is known. Conditions: slices as they lie in memory.
-/
namespace Go.Proofs.YtnkcmaoaagnopaaGreatDoor
open Go.Pn Go.RowKit Go.Proofs
attribute [local irreducible] O C D
theorem ones3c {a b c : Value} (h1 : a.oneCell' = true) (h2 : b.oneCell' = true) (h3 : c.oneCell' = true) : ∀ u ∈ [a, b, c], u.oneCell' = true := by
  intro u hu
  simp only [List.mem_cons, List.not_mem_nil, or_false] at hu
  rcases hu with rfl | rfl | rfl <;> assumption

end Go.Proofs.YtnkcmaoaagnopaaGreatDoor
end
section
/-
  The walks of what is known, and of the laws. Conditions: slices as they lie in memory.
-/
namespace Go.Proofs.YtnkcmaoaagnopaaGreatDoor
open Go.Pn Go.RowKit Go.Proofs
attribute [local irreducible] O C D

end Go.Proofs.YtnkcmaoaagnopaaGreatDoor
end
section
/-
  What the rows' arguments give the walks; a world that holds the rows' listed variables.
-/
namespace Go.Proofs.YtnkcmaoaagnopaaGreatDoor
open Go.Pn Go.ChangeShapes Go.WideShapes Go.ChangeAt Go.RowKit
theorem pOwn : ownKnob Tryz.prog.godebug = none := by kernel_rfl
theorem pLaidOut : laidOutB Tryz.prog = true := by kernel_rfl
/-- The library's variable. -/
theorem mx_of {W : World} (h : W.ShapedOpen Tryz.prog) : Mx W := ⟨Tryz.laysM144.s1_3 W h⟩
def pFlat : DataW Unit → List Value
  | .agg l => l.flatMap fun
    | .lit (.int k n) => [Value.int k n]
    | .agg l2 => l2.map fun
      | .lit (.int k n) => Value.int k n
      | _ => .nilIface
    | _ => [.nilIface]
  | _ => []
def pPut (h : Array Obj) (g : Nat) (cs : List Value) : Array Obj := h.modify g fun
  | .cells _ t frozen => .cells cs.toArray t frozen
  | o => o
noncomputable def pWorld (os : Os) : World :=
  { World.holding Tryz.prog os ⟨#[], #[], []⟩ with heap := pPut (pPut (World.holding Tryz.prog os ⟨#[], #[], []⟩).heap 1 (pFlat Rows.laid_unicode_utf8_first)) 2 (pFlat Rows.laid_unicode_utf8_acceptRanges) }
set_option maxRecDepth 100000 in
theorem pMet (os : Os) (args : Array Value) : laidMet Tryz.prog Rows.canonEncodesRow.laid ((pWorld os).forCall (fun _ _ => 0) ⟨#[], args, []⟩).memory :=
  laidMet_of_run' 8 (by kernel_rfl) (by kernel_rfl)
end Go.Proofs.YtnkcmaoaagnopaaGreatDoor
end
section
/-
  The walks of a reader of bytes: a number. Conditions: slices as they lie in memory.
-/
namespace Go.Proofs.YtnkcmaoaagnopaaGreatDoor
open Go.Pn Go.RowKit Go.Proofs
attribute [local irreducible] O C D

theorem rest_spec (b : Nat) (vr : Value) (l : List UInt8) (k : Nat) (F : Nat → Prop) (w : World) (ho : Own w b 152 [.bool true, vr, .int .i64 ((k : Int))]) (hl : Sl byteE w F vr l) (hk : k ≤ l.length) (hF : ∀ j, F j → j ≠ b ∧ j < w.heap.size) :
    Ret Tryz.prog 146 #[.pointer (some ⟨b, 0, none⟩)] w (fun v w' => Le w w' ∧ Sl byteE w' F v (l.drop k)) := by
  have _hF9 := hF
  have _hk9 := hk
  have hbl := ho.lt
  have hll := hl.le
  refine enter (args := [.pointer (some ⟨b, 0, none⟩)]) (n := 12) Tryz.func146 rfl rfl (Nat.le_of_ble_eq_true rfl) ?_
  refine C.seqK fun K1 hK1 => ?_
  refine C.region ?_
  refine O.asg ?_
  refine O.nil ?_
  refine hK1 _ _ ?_
  refine C.seqK fun K2 hK2 => ?_
  refine C.draw (by kernel_rfl) fun w1 e1 => ?_
  have z1 := e1.size
  refine D.take (i := 0) rfl rfl rfl rfl (by kernel_rfl) (Le.refl _) ⟨pure _, rfl⟩ (fun w_ hw_ N_ hN => (O.mv (O.nil hN))) ?_
  refine D.take (i := 1) rfl rfl rfl rfl (by kernel_rfl) (Le.refl _) (nil_form rfl) (fun w_ hw_ N_ hN => (O.nilChk rfl (O.nil hN))) ?_
  refine D.take (i := 2) rfl rfl rfl rfl (by kernel_rfl) (Le.refl _) ⟨_, rfl⟩ (fun w_ hw_ N_ hN => (O.fieldAd Tryz.underlying152 rfl Tryz.sizeOf32 (by decide) rfl (O.nil hN))) ?_
  refine D.take (i := 3) rfl rfl rfl rfl (by kernel_rfl) (Le.refl _) ⟨_, rfl⟩ (fun w_ hw_ N_ hN => (O.loadO Tryz.isAgg32 rfl ((ho.keep e1).keep hw_) rfl (O.nil hN))) ?_
  refine D.take (i := 4) rfl rfl rfl rfl (by kernel_rfl) (Le.refl _) ⟨pure _, rfl⟩ (fun w_ hw_ N_ hN => (O.mv (O.nil hN))) ?_
  refine D.take (i := 5) rfl rfl rfl rfl (by kernel_rfl) (Le.refl _) (nil_form rfl) (fun w_ hw_ N_ hN => (O.nilChk rfl (O.nil hN))) ?_
  refine D.take (i := 6) rfl rfl rfl rfl (by kernel_rfl) (Le.refl _) ⟨_, rfl⟩ (fun w_ hw_ N_ hN => (O.fieldAd Tryz.underlying152 rfl Tryz.sizeOf3 (by decide) rfl (O.nil hN))) ?_
  refine D.take (i := 7) rfl rfl rfl rfl (by kernel_rfl) (Le.refl _) ⟨_, rfl⟩ (fun w_ hw_ N_ hN => (O.loadO Tryz.isAgg3 rfl ((ho.keep e1).keep hw_) rfl (O.nil hN))) ?_
  have hb11 := Sl.sub (P := Tryz.prog) (k) (l.length) Tryz.underlying32 Tryz.sizeOf5 (by rfl) (hl.keep e1) hk (Nat.le_refl _)
  obtain ⟨v11, hs11, hr11⟩ := hb11
  refine D.take (i := 8) rfl rfl rfl rfl (by kernel_rfl) (Le.refl _) ⟨_, rfl⟩ (fun w_ hw_ N_ hN => (O.subR rfl hr11 (.inr ⟨_, _, rfl, rfl⟩) (.inl ⟨rfl, rfl⟩) (O.nil hN))) ?_
  refine D.take (i := 9) rfl rfl rfl rfl (by kernel_rfl) (Le.refl _) ⟨pure _, rfl⟩ (fun w_ hw_ N_ hN => (O.asg (O.nil hN))) ?_
  refine D.done (by kernel_rfl) ?_
  refine hK2 _ _ ?_
  refine C.ret ?_
  refine Outs.one rfl rfl ?_
  have q := hs11
  rw [List.take_length] at q
  exact ⟨e1, q⟩

theorem zero_spec (b : Nat) (vr : Value) (l : List UInt8) (k : Nat) (F : Nat → Prop) (w : World) (ho : Own w b 152 [.bool true, vr, .int .i64 ((k : Int))]) (hl : Sl byteE w F vr l) (hk : k ≤ l.length) (hF : ∀ j, F j → j ≠ b ∧ j < w.heap.size) :
    Ret Tryz.prog 110 #[.pointer (some ⟨b, 0, none⟩)] w (fun v w' => v = .bool false ∧ w' = w) := by
  have _hF9 := hF
  have _hk9 := hk
  have hbl := ho.lt
  have hll := hl.le
  refine enter (args := [.pointer (some ⟨b, 0, none⟩)]) (n := 12) Tryz.func110 rfl rfl (Nat.le_of_ble_eq_true rfl) ?_
  refine C.seqK fun K1 hK1 => ?_
  refine C.region ?_
  refine O.asg ?_
  refine O.nil ?_
  refine hK1 _ _ ?_
  refine C.seqK fun K2 hK2 => ?_
  refine C.region ?_
  refine O.mv ?_
  refine O.eqlP0 Tryz.underlying130 rfl ?_
  refine O.mv ?_
  refine O.yes rfl rfl ?_
  refine O.mv ?_
  refine O.yes rfl rfl ?_
  refine O.nilChk rfl ?_
  refine O.yes rfl rfl ?_
  refine O.fieldAd Tryz.underlying152 rfl Tryz.sizeOf4 (by decide) rfl ?_
  refine O.yes rfl rfl ?_
  refine O.loadO Tryz.isAgg4 rfl ho rfl ?_
  refine O.yes rfl rfl ?_
  refine O.not rfl ?_
  refine O.pickF rfl ?_
  refine O.asg ?_
  refine O.nil ?_
  refine hK2 _ _ ?_
  refine C.ret ?_
  refine Outs.one rfl rfl ?_
  exact ⟨rfl, rfl⟩

theorem num1_spec (c : BitVec 8) (w : World) :
    Ret Tryz.prog 163 #[.int .u8 ((c).toNat : Int)] w (fun v w' => v = .bool (decide (c < 128#8)) ∧ Le w w') := by
  refine enter (args := [.int .u8 ((c).toNat : Int)]) (n := 5) Tryz.func163 rfl rfl (Nat.le_of_ble_eq_true rfl) ?_
  refine C.seqK fun K1 hK1 => ?_
  refine C.region ?_
  refine O.asg ?_
  refine O.nil ?_
  refine hK1 _ _ ?_
  refine C.seqK fun K2 hK2 => ?_
  refine C.region ?_
  refine O.mv ?_
  refine O.lssU (m := 8) (b := 128#8) rfl rfl ?_
  refine O.asg ?_
  refine O.nil ?_
  refine hK2 _ _ ?_
  refine C.ret ?_
  refine Outs.one rfl rfl ?_
  exact ⟨rfl, (Le.refl _)⟩

theorem pred_small (M : Nat → Prop) (w : World) : Pred Tryz.prog M w (.func (.func 163) #[] #[]) (fun c : UInt8 => .int .u8 (c.toNat : Int)) Cn.small7 := ⟨163, [], rfl, Tryz.call163, fun c w' _ => by
  have h := num1_spec c.toBitVec w'
  refine h.mono ?_
  rintro v w2 ⟨rfl, e⟩
  exact ⟨congrArg Value.bool (decide_eq_decide.2 (by rw [BitVec.lt_def]; exact Iff.rfl)), e⟩⟩
theorem indexB_spec (v0 vf : Value) (l : List UInt8) (F M : Nat → Prop) (p : UInt8 → Bool) (w : World) (hl : Sl byteE w F v0 l) (hp : Pred Tryz.prog M w vf (fun c : UInt8 => .int .u8 (c.toNat : Int)) p) :
    Ret Tryz.prog 162 #[v0, vf] w (fun v w' => v = .int .i64 (Cn.idx p l) ∧ Le w w') := by
  have hle := hl.le
  refine enter (args := [v0, vf]) (n := 19) Tryz.func162 rfl rfl (Nat.le_of_ble_eq_true rfl) ?_
  refine C.seqK fun K1 hK1 => ?_
  refine C.region ?_
  refine O.asg ?_
  refine O.nil ?_
  refine hK1 _ _ ?_
  refine C.seqK fun K2 hK2 => ?_
  refine C.seqK fun K3 hK3 => ?_
  refine C.region ?_
  refine O.mv ?_
  refine O.len Tryz.underlying32 rfl hl ?_
  refine O.mv ?_
  refine O.nil ?_
  refine hK3 _ _ ?_
  refine C.block fun K4 hK4 => ?_
  refine C.loop0 (σ := Nat) (fun f0 w0 k f wz => f 8 = .int .i64 (k) ∧ f 0 = f0 0 ∧ f 1 = f0 1 ∧ f 7 = f0 7 ∧ Le w wz ∧ k ≤ l.length ∧ ∀ i, ∀ h : i < l.length, i < k → p l[i] = false) (fun k => l.length - k) 0 ?_ ?_
  ·
    refine ⟨rfl, rfl, rfl, rfl, (Le.refl _), ?_⟩
    exact ⟨Nat.zero_le _, fun i h k => absurd k (Nat.not_lt_zero _)⟩
  ·
    rintro k f_1 w1 ⟨s8_1, s0_1, s1_1, s7_1, e_1, ⟨hk, hI⟩⟩
    have z_1 := e_1.size
    refine C.seqK fun K5 hK5 => ?_
    refine C.region ?_
    refine O.lssI s8_1 s7_1 ?_
    refine O.nil ?_
    refine hK5 _ _ ?_
    refine C.seqK fun K6 hK6 => ?_
    refine C.condD rfl (fun c9 => ?_) (fun c9 => ?_)
    ·
      have hk2 : k < l.length := by omega
      refine C.skip ?_
      refine hK6 _ _ ?_
      refine C.seqK fun K7 hK7 => ?_
      refine C.block fun K8 hK8 => ?_
      refine C.seqK fun K9 hK9 => ?_
      refine C.region ?_
      refine O.mv ?_
      refine O.asg ?_
      refine O.nil ?_
      refine hK9 _ _ ?_
      refine C.seqK fun K10 hK10 => ?_
      refine C.region ?_
      refine O.mv ?_
      refine O.mv ?_
      refine O.mv ?_
      refine O.idx Tryz.underlying32 Tryz.sizeOf5 rfl s0_1 (hl.keep e_1) s8_1 (by omega) (fun a14 h14 => ?_)
      refine O.loadB Tryz.isAgg5 rfl h14 ?_
      refine O.callP (l[k]'hk2) (hp.keep e_1) s1_1 rfl (fun w2 e2 => ?_)
      have z2 := e2.size
      refine O.nil ?_
      refine hK10 _ _ ?_
      refine C.cond rfl (fun c16 => ?_) (fun c16 => ?_)
      ·
        refine C.seqK fun K11 hK11 => ?_
        refine C.region ?_
        refine O.mv ?_
        refine O.asg ?_
        refine O.nil ?_
        refine hK11 _ _ ?_
        refine C.ret ?_
        refine Outs.one rfl s8_1 ?_
        first
        | exact ⟨congrArg (Value.int .i64) (Cn.idx_yes hk2 c16 hI).symm, (Ext.trans e_1 e2)⟩
        | exact ⟨congrArg (Value.int .i64) (Cn.idx_no fun i hi => hI i hi (by omega)).symm, (Ext.trans e_1 e2)⟩
      ·
        refine C.skip ?_
        refine hK8 _ _ ?_
        refine hK7 _ _ ?_
        refine C.region ?_
        refine O.addI s8_1 rfl (by unfold InI; omega) ?_
        refine O.mv ?_
        refine O.nil ?_
        refine ⟨k + 1, ⟨rfl, s0_1, s1_1, s7_1, (Ext.trans e_1 e2), ?_⟩, by first | omega | (simp only []; omega)⟩
        refine ⟨by omega, fun i hi hik => ?_⟩
        rcases Nat.lt_or_eq_of_le (Nat.le_of_lt_succ hik) with h | rfl
        · exact hI i hi h
        · exact c16
    ·
      refine C.exit ?_
      refine hK4 _ _ ?_
      refine hK2 _ _ ?_
      refine C.seqK fun K12 hK12 => ?_
      refine C.region ?_
      refine O.asg ?_
      refine O.nil ?_
      refine hK12 _ _ ?_
      refine C.ret ?_
      refine Outs.one rfl rfl ?_
      first
      | exact ⟨congrArg (Value.int .i64) (Cn.idx_yes hk2 c16 hI).symm, e_1⟩
      | exact ⟨congrArg (Value.int .i64) (Cn.idx_no fun i hi => hI i hi (by omega)).symm, e_1⟩

set_option maxHeartbeats 4000000 in
theorem rdnum_spec (b : Nat) (vr : Value) (l : List UInt8) (k : Nat) (F : Nat → Prop) (w : World) (ho : Own w b 152 [.bool true, vr, .int .i64 ((k : Int))]) (hl : Sl byteE w F vr l) (hk : k ≤ l.length) (hF : ∀ j, F j → j ≠ b ∧ j < w.heap.size) (hL : l.length ≤ 1000000) :
    Ret Tryz.prog 148 #[.pointer (some ⟨b, 0, none⟩)] w (fun v w' => ∃ (n : BitVec 64) (e : Int) (k' : Nat), v = .tuple #[.int .u64 (n.toNat : Int), .int .i64 e] ∧ Own w' b 152 [.bool true, vr, .int .i64 ((k' : Int))] ∧ ((e = 0 ∧ Cn.Seg (Cn.num n.toNat) l k k') ∨ (0 < e ∧ n = 0#64 ∧ k' = k ∧ Cn.No (fun _ : BitVec 64 => True) (fun q => Cn.num q.toNat) l k)) ∧ Ext (fun j => j = b) w w') := by
  have _hF9 := hF
  have _hk9 := hk
  have hbl := ho.lt
  have hll := hl.le
  obtain ⟨x, hx⟩ : ∃ x, x = l.drop k := ⟨_, rfl⟩
  have hxl : x.length = l.length - k := by rw [hx, List.length_drop]
  refine enter (args := [.pointer (some ⟨b, 0, none⟩)]) (n := 73) Tryz.func148 rfl rfl (Nat.le_of_ble_eq_true rfl) ?_
  refine C.seqK fun K1 hK1 => ?_
  refine C.region ?_
  refine O.asg ?_
  refine O.asg ?_
  refine O.nil ?_
  refine hK1 _ _ ?_
  refine C.seqK fun K2 hK2 => ?_
  refine C.region ?_
  refine O.mv ?_
  refine O.call Tryz.call146 (args1 rfl) (rest_spec b vr l k F _ ho hl hk (fun j hj => by have q1 := hF j hj; omega)) ?_
  rintro v_9 w1 ⟨e1, h9⟩
  have z1 := e1.size
  rw [← hx] at h9
  refine O.asg ?_
  refine O.nil ?_
  refine hK2 _ _ ?_
  refine C.seqK fun K3 hK3 => ?_
  refine C.region ?_
  refine O.mv ?_
  refine O.mv ?_
  refine O.len Tryz.underlying32 rfl h9 ?_
  refine O.minI rfl rfl ?_
  refine O.cast (v' := .int .i64 ((min x.length 10 : Nat) : Int)) (congrArg (Value.int .i64) (by omega)) ?_
  have hb14 := Sl.sub (P := Tryz.prog) (0) (min x.length 10) Tryz.underlying32 Tryz.sizeOf5 (by rfl) h9 (Nat.zero_le _) (by omega)
  obtain ⟨v14, hs14, hr14⟩ := hb14
  refine O.subR rfl hr14 (.inl ⟨rfl, rfl⟩) (.inr ⟨_, _, rfl, rfl⟩) ?_
  rw [List.drop_zero, Cn.take_min] at hs14
  refine O.call Tryz.call162 (args2 rfl rfl) (indexB_spec _ _ (x.take 10) _ (fun _ => False) _ _ hs14 (pred_small _ _)) ?_
  rintro v_15 w2 ⟨rfl, e2⟩
  have z2 := e2.size
  obtain ⟨e, he⟩ : ∃ e, e = Cn.endN x := ⟨_, rfl⟩
  have hge : -1 ≤ e := by rw [he]; exact Cn.endN_ge x
  have hat : 0 ≤ e → e.toNat < x.length ∧ e ≤ 9 := fun h => by
    have := Cn.endN_at (x := x) (e := e.toNat) (by omega)
    exact ⟨this.1, by omega⟩
  have hed : e = Cn.endN (l.drop k) := by rw [← hx]; exact he
  obtain ⟨y, hy⟩ : ∃ y, y = x.getD e.toNat 0 := ⟨_, rfl⟩
  have q1 : (y.toBitVec = 0#8) ↔ y.toNat = 0 := ⟨fun h => by rw [← UInt8.toNat_toBitVec, h]; rfl, fun h => BitVec.eq_of_toNat_eq h⟩
  have q2 : (1#8 < y.toBitVec) ↔ 1 < y.toNat := by rw [BitVec.lt_def]; exact Iff.rfl
  refine O.cast (v' := .int .i64 e) (by rw [he]; rfl) ?_
  refine O.asg ?_
  refine O.nil ?_
  refine hK3 _ _ ?_
  refine C.seqK fun K4 hK4 => ?_
  refine C.block fun K5 hK5 => ?_
  refine C.seqK fun K6 hK6 => ?_
  refine C.region ?_
  refine O.mv ?_
  refine O.lssI rfl rfl ?_
  refine O.mv ?_
  refine O.cut 4 (fun f f' => f' 23 = .bool (decide (e < 0 ∧ ((x.length : Nat) : Int) < 10)) ∧ f' 0 = f 0 ∧ f' 2 = f 2 ∧ f' 3 = f 3 ∧ f' 4 = f 4 ∧ f' 5 = f 5) ?_ ?_
  ·
    refine O.splitD (x := .tmp 19) rfl (fun c19 => ?_) (fun c19 => ?_)
    ·
      refine O.yes rfl (isT rfl c19) ?_
      refine O.mv ?_
      refine O.yes rfl (isT rfl c19) ?_
      refine O.len Tryz.underlying32 rfl (h9.keep e2) ?_
      refine O.yes rfl (isT rfl c19) ?_
      refine O.lssI rfl rfl ?_
      refine O.pickT (isT rfl c19) ?_
      refine O.nil ?_
      refine ⟨⟨?_, rfl, rfl, rfl, rfl, rfl⟩, rfl⟩
      first | exact rfl | exact Eq.trans rfl (congrArg Value.bool (dAnd (by assumption))) | exact Eq.trans rfl (congrArg Value.bool (dAndF (by assumption))) | exact Eq.trans rfl (congrArg Value.bool (dOr (by assumption))) | exact Eq.trans rfl (congrArg Value.bool (dOrT (by assumption)))
    ·
      refine O.no rfl (noB (isF rfl c19) rfl) ?_
      refine O.no rfl (noB (isF rfl c19) rfl) ?_
      refine O.no rfl (noB (isF rfl c19) rfl) ?_
      refine O.pickF (isF rfl c19) ?_
      refine O.nil ?_
      refine ⟨⟨?_, rfl, rfl, rfl, rfl, rfl⟩, rfl⟩
      first | exact rfl | exact Eq.trans rfl (congrArg Value.bool (dAnd (by assumption))) | exact Eq.trans rfl (congrArg Value.bool (dAndF (by assumption))) | exact Eq.trans rfl (congrArg Value.bool (dOr (by assumption))) | exact Eq.trans rfl (congrArg Value.bool (dOrT (by assumption)))
  ·
    rintro f_1 ⟨s23_1, s0_1, s2_1, s3_1, s4_1, s5_1⟩
    refine O.asg ?_
    refine O.nil ?_
    refine hK6 _ _ ?_
    refine C.condD s23_1 (fun c16 => ?_) (fun c16 => ?_)
    ·
      refine C.seqK fun K7 hK7 => ?_
      refine C.region ?_
      refine O.asg ?_
      refine O.asg ?_
      refine O.nil ?_
      refine hK7 _ _ ?_
      refine C.ret ?_
      refine Outs.two rfl rfl rfl ?_
      first
      | exact ⟨0#64, 4, k, rfl, ((ho.keep e1).keep e2), .inr ⟨by decide, rfl, rfl, Cn.bad_no hed (.inl (by omega))⟩, (Ext.new (Ext.new (Ext.refl _ _) e1 (by intro i hi hk; first | exact hk.elim | ((try dsimp only at hk); (try dsimp only); omega))) e2 (by intro i hi hk; first | exact hk.elim | ((try dsimp only at hk); (try dsimp only); omega)))⟩
      | exact ⟨0#64, 12, k, rfl, ((ho.keep e1).keep e2), .inr ⟨by decide, rfl, rfl, Cn.bad_no hed (by rw [← hx]; exact c24)⟩, (Ext.new (Ext.new (Ext.refl _ _) e1 (by intro i hi hk; first | exact hk.elim | ((try dsimp only at hk); (try dsimp only); omega))) e2 (by intro i hi hk; first | exact hk.elim | ((try dsimp only at hk); (try dsimp only); omega)))⟩
      | (obtain rfl : j = 0 := by omega
         exact ⟨_, 0, k + (e.toNat + 1), rfl, ((ho.keep e1).keep e2), .inl ⟨rfl, by rw [hx]; exact hgood⟩, (Ext.new (Ext.new (Ext.refl _ _) e1 (by intro i hi hk; first | exact hk.elim | ((try dsimp only at hk); (try dsimp only); omega))) e2 (by intro i hi hk; first | exact hk.elim | ((try dsimp only at hk); (try dsimp only); omega)))⟩)
    ·
      refine C.seqK fun K8 hK8 => ?_
      refine C.region ?_
      refine O.mv ?_
      refine O.lssI s5_1 rfl ?_
      refine O.mv ?_
      refine O.cut 21 (fun f f' => f' 48 = .bool (decide (Cn.badN x e)) ∧ f' 0 = f 0 ∧ f' 2 = f 2 ∧ f' 3 = f 3 ∧ f' 4 = f 4 ∧ f' 5 = f 5) ?_ ?_
      ·
        refine O.splitD (x := .tmp 27) rfl (fun c27 => ?_) (fun c27 => ?_)
        ·
          refine O.no rfl (noB (isT rfl c27) rfl) ?_
          refine O.no rfl (noB (isT rfl c27) rfl) ?_
          refine O.no rfl (noB (isT rfl c27) rfl) ?_
          refine O.no rfl (noU rfl) ?_
          refine O.no rfl (noU rfl) ?_
          refine O.no rfl (noU rfl) ?_
          refine O.no rfl (noU rfl) ?_
          refine O.no rfl (noU rfl) ?_
          refine O.no rfl (noB (isT rfl c27) rfl) ?_
          refine O.pickT (isT rfl c27) ?_
          refine O.mv ?_
          refine O.no rfl (noB rfl rfl) ?_
          refine O.no rfl (noB rfl rfl) ?_
          refine O.no rfl (noB rfl rfl) ?_
          refine O.no rfl (noU rfl) ?_
          refine O.no rfl (noU rfl) ?_
          refine O.no rfl (noU rfl) ?_
          refine O.no rfl (noU rfl) ?_
          refine O.no rfl (noU rfl) ?_
          refine O.no rfl (noB rfl rfl) ?_
          refine O.pickT rfl ?_
          refine O.nil ?_
          refine ⟨⟨?_, rfl, rfl, rfl, rfl, rfl⟩, rfl⟩
          refine Eq.trans rfl (congrArg Value.bool ?_)
          try rw [q1] at c38
          first
          | (refine (decide_eq_true ?_).symm; unfold Cn.badN; rw [← hy]; omega)
          | (refine (decide_eq_false ?_).symm; unfold Cn.badN; rw [← hy]; omega)
          | (refine decide_eq_decide.2 ?_; unfold Cn.badN; rw [← hy, q2]; omega)
        ·
          have hat2 := hat (by omega)
          refine O.yes rfl (isF rfl c27) ?_
          refine O.mv ?_
          refine O.yes rfl (isF rfl c27) ?_
          refine O.gtrI s5_1 rfl ?_
          refine O.yes rfl (isF rfl c27) ?_
          refine O.mv ?_
          refine O.splitD (x := .tmp 30) rfl (fun c30 => ?_) (fun c30 => ?_)
          ·
            refine O.yes rfl (isT rfl c30) ?_
            refine O.mv ?_
            refine O.yes rfl (isT rfl c30) ?_
            refine O.mv ?_
            refine O.yes rfl (isT rfl c30) ?_
            refine O.idx Tryz.underlying32 Tryz.sizeOf5 rfl s4_1 (h9.keep e2) s5_1 (by omega) (fun a33 h33 => ?_)
            refine O.yes rfl (isT rfl c30) ?_
            refine O.loadB Tryz.isAgg5 rfl h33 ?_
            refine O.cast (v' := .int .u8 (y.toBitVec.toNat : Int)) (by rw [hy, Cn.getD_at (by omega)]) ?_
            refine O.yes rfl (isT rfl c30) ?_
            refine O.eqlU (m := 8) (b := 0#8) rfl rfl ?_
            refine O.yes rfl (isF rfl c27) ?_
            refine O.pickT (isT rfl c30) ?_
            refine O.pickF (isF rfl c27) ?_
            refine O.mv ?_
            refine O.splitD (x := .tmp 38) rfl (fun c38 => ?_) (fun c38 => ?_)
            ·
              refine O.no rfl (noB (isT rfl c38) rfl) ?_
              refine O.no rfl (noB (isT rfl c38) rfl) ?_
              refine O.no rfl (noB (isT rfl c38) rfl) ?_
              refine O.no rfl (noU rfl) ?_
              refine O.no rfl (noU rfl) ?_
              refine O.no rfl (noU rfl) ?_
              refine O.no rfl (noU rfl) ?_
              refine O.no rfl (noU rfl) ?_
              refine O.no rfl (noB (isT rfl c38) rfl) ?_
              refine O.pickT (isT rfl c38) ?_
              refine O.nil ?_
              refine ⟨⟨?_, rfl, rfl, rfl, rfl, rfl⟩, rfl⟩
              refine Eq.trans rfl (congrArg Value.bool ?_)
              try rw [q1] at c38
              first
              | (refine (decide_eq_true ?_).symm; unfold Cn.badN; rw [← hy]; omega)
              | (refine (decide_eq_false ?_).symm; unfold Cn.badN; rw [← hy]; omega)
              | (refine decide_eq_decide.2 ?_; unfold Cn.badN; rw [← hy, q2]; omega)
            ·
              refine O.yes rfl (isF rfl c38) ?_
              refine O.mv ?_
              refine O.yes rfl (isF rfl c38) ?_
              refine O.eqlI s5_1 rfl ?_
              refine O.yes rfl (isF rfl c38) ?_
              refine O.mv ?_
              refine O.splitD (x := .tmp 41) rfl (fun c41 => ?_) (fun c41 => ?_)
              ·
                refine O.yes rfl (isT rfl c41) ?_
                refine O.mv ?_
                refine O.yes rfl (isT rfl c41) ?_
                refine O.mv ?_
                refine O.yes rfl (isT rfl c41) ?_
                refine O.idx Tryz.underlying32 Tryz.sizeOf5 rfl s4_1 (h9.keep e2) s5_1 (by omega) (fun a44 h44 => ?_)
                refine O.yes rfl (isT rfl c41) ?_
                refine O.loadB Tryz.isAgg5 rfl h44 ?_
                refine O.cast (v' := .int .u8 (y.toBitVec.toNat : Int)) (by rw [hy, Cn.getD_at (by omega)]) ?_
                refine O.yes rfl (isT rfl c41) ?_
                refine O.gtrU (m := 8) (b := 1#8) rfl rfl ?_
                refine O.yes rfl (isF rfl c38) ?_
                refine O.pickT (isT rfl c41) ?_
                refine O.pickF (isF rfl c38) ?_
                refine O.nil ?_
                refine ⟨⟨?_, rfl, rfl, rfl, rfl, rfl⟩, rfl⟩
                refine Eq.trans rfl (congrArg Value.bool ?_)
                try rw [q1] at c38
                first
                | (refine (decide_eq_true ?_).symm; unfold Cn.badN; rw [← hy]; omega)
                | (refine (decide_eq_false ?_).symm; unfold Cn.badN; rw [← hy]; omega)
                | (refine decide_eq_decide.2 ?_; unfold Cn.badN; rw [← hy, q2]; omega)
              ·
                refine O.no rfl (noB (isF rfl c41) rfl) ?_
                refine O.no rfl (noB (isF rfl c41) rfl) ?_
                refine O.no rfl (noB (isF rfl c41) rfl) ?_
                refine O.no rfl (noB (isF rfl c41) rfl) ?_
                refine O.no rfl (noB (isF rfl c41) rfl) ?_
                refine O.yes rfl (isF rfl c38) ?_
                refine O.pickF (isF rfl c41) ?_
                refine O.pickF (isF rfl c38) ?_
                refine O.nil ?_
                refine ⟨⟨?_, rfl, rfl, rfl, rfl, rfl⟩, rfl⟩
                refine Eq.trans rfl (congrArg Value.bool ?_)
                try rw [q1] at c38
                first
                | (refine (decide_eq_true ?_).symm; unfold Cn.badN; rw [← hy]; omega)
                | (refine (decide_eq_false ?_).symm; unfold Cn.badN; rw [← hy]; omega)
                | (refine decide_eq_decide.2 ?_; unfold Cn.badN; rw [← hy, q2]; omega)
          ·
            refine O.no rfl (noB (isF rfl c30) rfl) ?_
            refine O.no rfl (noB (isF rfl c30) rfl) ?_
            refine O.no rfl (noB (isF rfl c30) rfl) ?_
            refine O.no rfl (noB (isF rfl c30) rfl) ?_
            refine O.no rfl (noB (isF rfl c30) rfl) ?_
            refine O.yes rfl (isF rfl c27) ?_
            refine O.pickF (isF rfl c30) ?_
            refine O.pickF (isF rfl c27) ?_
            refine O.mv ?_
            refine O.yes rfl rfl ?_
            refine O.mv ?_
            refine O.yes rfl rfl ?_
            refine O.eqlI s5_1 rfl ?_
            refine O.yes rfl rfl ?_
            refine O.mv ?_
            refine O.splitD (x := .tmp 41) rfl (fun c41 => ?_) (fun c41 => ?_)
            ·
              refine O.yes rfl (isT rfl c41) ?_
              refine O.mv ?_
              refine O.yes rfl (isT rfl c41) ?_
              refine O.mv ?_
              refine O.yes rfl (isT rfl c41) ?_
              refine O.idx Tryz.underlying32 Tryz.sizeOf5 rfl s4_1 (h9.keep e2) s5_1 (by omega) (fun a44 h44 => ?_)
              refine O.yes rfl (isT rfl c41) ?_
              refine O.loadB Tryz.isAgg5 rfl h44 ?_
              refine O.cast (v' := .int .u8 (y.toBitVec.toNat : Int)) (by rw [hy, Cn.getD_at (by omega)]) ?_
              refine O.yes rfl (isT rfl c41) ?_
              refine O.gtrU (m := 8) (b := 1#8) rfl rfl ?_
              refine O.yes rfl rfl ?_
              refine O.pickT (isT rfl c41) ?_
              refine O.pickF rfl ?_
              refine O.nil ?_
              refine ⟨⟨?_, rfl, rfl, rfl, rfl, rfl⟩, rfl⟩
              refine Eq.trans rfl (congrArg Value.bool ?_)
              try rw [q1] at c38
              first
              | (refine (decide_eq_true ?_).symm; unfold Cn.badN; rw [← hy]; omega)
              | (refine (decide_eq_false ?_).symm; unfold Cn.badN; rw [← hy]; omega)
              | (refine decide_eq_decide.2 ?_; unfold Cn.badN; rw [← hy, q2]; omega)
            ·
              refine O.no rfl (noB (isF rfl c41) rfl) ?_
              refine O.no rfl (noB (isF rfl c41) rfl) ?_
              refine O.no rfl (noB (isF rfl c41) rfl) ?_
              refine O.no rfl (noB (isF rfl c41) rfl) ?_
              refine O.no rfl (noB (isF rfl c41) rfl) ?_
              refine O.yes rfl rfl ?_
              refine O.pickF (isF rfl c41) ?_
              refine O.pickF rfl ?_
              refine O.nil ?_
              refine ⟨⟨?_, rfl, rfl, rfl, rfl, rfl⟩, rfl⟩
              refine Eq.trans rfl (congrArg Value.bool ?_)
              try rw [q1] at c38
              first
              | (refine (decide_eq_true ?_).symm; unfold Cn.badN; rw [← hy]; omega)
              | (refine (decide_eq_false ?_).symm; unfold Cn.badN; rw [← hy]; omega)
              | (refine decide_eq_decide.2 ?_; unfold Cn.badN; rw [← hy, q2]; omega)
      ·
        rintro f_2 ⟨s48_2, s0_2, s2_2, s3_2, s4_2, s5_2⟩
        refine O.asg ?_
        refine O.nil ?_
        refine hK8 _ _ ?_
        refine C.condD s48_2 (fun c24 => ?_) (fun c24 => ?_)
        ·
          refine C.seqK fun K9 hK9 => ?_
          refine C.region ?_
          refine O.asg ?_
          refine O.asg ?_
          refine O.nil ?_
          refine hK9 _ _ ?_
          refine C.ret ?_
          refine Outs.two rfl rfl rfl ?_
          first
          | exact ⟨0#64, 4, k, rfl, ((ho.keep e1).keep e2), .inr ⟨by decide, rfl, rfl, Cn.bad_no hed (.inl (by omega))⟩, (Ext.new (Ext.new (Ext.refl _ _) e1 (by intro i hi hk; first | exact hk.elim | ((try dsimp only at hk); (try dsimp only); omega))) e2 (by intro i hi hk; first | exact hk.elim | ((try dsimp only at hk); (try dsimp only); omega)))⟩
          | exact ⟨0#64, 12, k, rfl, ((ho.keep e1).keep e2), .inr ⟨by decide, rfl, rfl, Cn.bad_no hed (by rw [← hx]; exact c24)⟩, (Ext.new (Ext.new (Ext.refl _ _) e1 (by intro i hi hk; first | exact hk.elim | ((try dsimp only at hk); (try dsimp only); omega))) e2 (by intro i hi hk; first | exact hk.elim | ((try dsimp only at hk); (try dsimp only); omega)))⟩
          | (obtain rfl : j = 0 := by omega
             exact ⟨_, 0, k + (e.toNat + 1), rfl, ((ho.keep e1).keep e2), .inl ⟨rfl, by rw [hx]; exact hgood⟩, (Ext.new (Ext.new (Ext.refl _ _) e1 (by intro i hi hk; first | exact hk.elim | ((try dsimp only at hk); (try dsimp only); omega))) e2 (by intro i hi hk; first | exact hk.elim | ((try dsimp only at hk); (try dsimp only); omega)))⟩)
        ·
          have hgood := Cn.good_num hk hed (by rw [← hx]; exact c24)
          have he0 : 0 ≤ e := by unfold Cn.badN at c24; omega
          have hat2 := hat he0
          refine C.skip ?_
          refine hK5 _ _ ?_
          refine hK4 _ _ ?_
          refine C.seqK fun K10 hK10 => ?_
          refine C.region ?_
          refine O.asg ?_
          refine O.nil ?_
          refine hK10 _ _ ?_
          refine C.seqK fun K11 hK11 => ?_
          refine C.seqK fun K12 hK12 => ?_
          refine C.region ?_
          refine O.mv ?_
          refine O.asg ?_
          refine O.nil ?_
          refine hK12 _ _ ?_
          refine C.block fun K13 hK13 => ?_
          refine C.loop0 (σ := Nat) (fun f0 w0 j f w => f 6 = .int .u64 ((BitVec.ofNat 64 (Cn.valN ((x.take (e.toNat + 1)).drop j))).toNat : Int) ∧ f 7 = .int .i64 ((j : Int) - 1) ∧ f 0 = f0 0 ∧ f 2 = f0 2 ∧ f 3 = f0 3 ∧ f 4 = f0 4 ∧ f 5 = f0 5 ∧ Le w0 w ∧ j ≤ e.toNat + 1) (fun j => j) (e.toNat + 1) ?_ ?_
          ·
            refine ⟨(Eq.trans rfl (by rw [List.drop_of_length_le (by rw [List.length_take]; omega)]; rfl)), (Eq.trans (Eq.trans s5_2 s5_1) (i64_eq (by omega))), rfl, rfl, rfl, rfl, rfl, Le.refl _, ?_⟩
            exact Nat.le_refl _
          ·
            rintro j f_3 w3 ⟨s6_3, s7_3, s0_3, s2_3, s3_3, s4_3, s5_3, e_3, hj⟩
            have z_3 := e_3.size
            refine C.seqK fun K14 hK14 => ?_
            refine C.seqK fun K15 hK15 => ?_
            refine C.region ?_
            refine O.mv ?_
            refine O.geqI s7_3 rfl ?_
            refine O.nil ?_
            refine hK15 _ _ ?_
            refine C.condD rfl (fun c51 => ?_) (fun c51 => ?_)
            ·
              refine C.skip ?_
              refine hK14 _ _ ?_
              refine C.seqK fun K16 hK16 => ?_
              refine C.block fun K17 hK17 => ?_
              refine C.region ?_
              refine O.mv ?_
              refine O.shlU (m := 64) (c := 7) rfl rfl s6_3 rfl ?_
              refine O.mv ?_
              refine O.mv ?_
              refine O.idx Tryz.underlying32 Tryz.sizeOf5 rfl (Eq.trans s4_3 (Eq.trans s4_2 s4_1)) ((h9.keep e2).keep e_3) s7_3 (by omega) (fun a58 h58 => ?_)
              refine O.loadB Tryz.isAgg5 rfl h58 ?_
              refine O.andNotU (m := 8) (b := 128#8) rfl rfl rfl rfl ?_
              refine O.convUU (m := 8) (m' := 64) Tryz.underlying5 Tryz.underlying49 rfl rfl rfl ?_
              refine O.orU (m := 64) rfl rfl rfl rfl ?_
              refine O.asg ?_
              refine O.nil ?_
              refine hK17 _ _ ?_
              refine hK16 _ _ ?_
              refine C.region ?_
              refine O.mv ?_
              refine O.subI s7_3 rfl (by unfold InI; omega) ?_
              refine O.asg ?_
              refine O.nil ?_
              refine ⟨(j - 1), ⟨(Eq.trans rfl (congrArg (fun q : BitVec 64 => Value.int .u64 (q.toNat : Int)) (by rw [Cn.valN_step (i := j - 1) (by omega) (by omega), show j - 1 + 1 = j by omega]; simp only [show ((j : Int) - 1).toNat = j - 1 by omega]; exact Cn.group _ _))), (Eq.trans rfl (i64_eq (by omega))), s0_3, s2_3, s3_3, s4_3, s5_3, e_3, ?_⟩, by first | omega | (simp only []; omega)⟩
              omega
            ·
              refine C.exit ?_
              refine hK13 _ _ ?_
              refine hK11 _ _ ?_
              refine C.seqK fun K18 hK18 => ?_
              refine C.region ?_
              refine O.mv ?_
              refine O.nilChk (Eq.trans s0_3 (Eq.trans s0_2 s0_1)) ?_
              refine O.fieldAd Tryz.underlying152 rfl Tryz.sizeOf3 (by decide) rfl ?_
              refine O.loadO Tryz.isAgg3 rfl (((ho.keep e1).keep e2).keep e_3) rfl ?_
              refine O.mv ?_
              refine O.addI (Eq.trans s5_3 (Eq.trans s5_2 s5_1)) rfl (by unfold InI; omega) ?_
              refine O.addI rfl rfl (by unfold InI; omega) ?_
              refine O.cast (v' := .int .i64 ((k + (e.toNat + 1) : Nat) : Int)) (congrArg (Value.int .i64) (by omega)) ?_
              refine O.nilChk (Eq.trans s0_3 (Eq.trans s0_2 s0_1)) ?_
              refine O.fieldAd Tryz.underlying152 rfl Tryz.sizeOf3 (by decide) rfl ?_
              refine O.store Tryz.sizeOf3 rfl rfl rfl (((ho.keep e1).keep e2).keep e_3) (by simp) (fun w4 hs4 e4 z4 => ?_)
              try simp only [Nat.zero_add] at hs4
              refine O.nil ?_
              refine hK18 _ _ ?_
              refine C.seqK fun K19 hK19 => ?_
              refine C.region ?_
              refine O.mv ?_
              refine O.asg ?_
              refine O.asg ?_
              refine O.nil ?_
              refine hK19 _ _ ?_
              refine C.ret ?_
              refine Outs.two rfl s6_3 rfl ?_
              first
              | exact ⟨0#64, 4, k, rfl, hs4, .inr ⟨by decide, rfl, rfl, Cn.bad_no hed (.inl (by omega))⟩, (Ext.new (Ext.new (Ext.new (Ext.new (Ext.refl _ _) e1 (by intro i hi hk; first | exact hk.elim | ((try dsimp only at hk); (try dsimp only); omega))) e2 (by intro i hi hk; first | exact hk.elim | ((try dsimp only at hk); (try dsimp only); omega))) e_3 (by intro i hi hk; first | exact hk.elim | ((try dsimp only at hk); (try dsimp only); omega))) e4 (by intro i hi hk; first | exact hk.elim | ((try dsimp only at hk); (try dsimp only); omega)))⟩
              | exact ⟨0#64, 12, k, rfl, hs4, .inr ⟨by decide, rfl, rfl, Cn.bad_no hed (by rw [← hx]; exact c24)⟩, (Ext.new (Ext.new (Ext.new (Ext.new (Ext.refl _ _) e1 (by intro i hi hk; first | exact hk.elim | ((try dsimp only at hk); (try dsimp only); omega))) e2 (by intro i hi hk; first | exact hk.elim | ((try dsimp only at hk); (try dsimp only); omega))) e_3 (by intro i hi hk; first | exact hk.elim | ((try dsimp only at hk); (try dsimp only); omega))) e4 (by intro i hi hk; first | exact hk.elim | ((try dsimp only at hk); (try dsimp only); omega)))⟩
              | (obtain rfl : j = 0 := by omega
                 exact ⟨_, 0, k + (e.toNat + 1), rfl, hs4, .inl ⟨rfl, by rw [hx]; exact hgood⟩, (Ext.new (Ext.new (Ext.new (Ext.new (Ext.refl _ _) e1 (by intro i hi hk; first | exact hk.elim | ((try dsimp only at hk); (try dsimp only); omega))) e2 (by intro i hi hk; first | exact hk.elim | ((try dsimp only at hk); (try dsimp only); omega))) e_3 (by intro i hi hk; first | exact hk.elim | ((try dsimp only at hk); (try dsimp only); omega))) e4 (by intro i hi hk; first | exact hk.elim | ((try dsimp only at hk); (try dsimp only); omega)))⟩)

set_option maxHeartbeats 1000000 in
theorem wholeN_spec (b : Nat) (vr : Value) (l : List UInt8) (k : Nat) (F : Nat → Prop) (w : World) (ho : Own w b 152 [.bool true, vr, .int .i64 ((k : Int))]) (hl : Sl byteE w F vr l) (hk : k ≤ l.length) (hF : ∀ j, F j → j ≠ b ∧ j < w.heap.size) (hL : l.length ≤ 1000000) :
    Ret Tryz.prog 147 #[.pointer (some ⟨b, 0, none⟩), .func (.func 148) #[] #[]] w (fun v w' => ∃ (n : BitVec 64) (e : Int) (k' : Nat), v = .tuple #[.int .u64 (n.toNat : Int), .int .i64 e] ∧ Own w' b 152 [.bool true, vr, .int .i64 ((k' : Int))] ∧ ((e = 0 ∧ Cn.Seg (Cn.num n.toNat) l k k') ∨ (0 < e ∧ n = 0#64 ∧ k' = k ∧ Cn.No (fun _ : BitVec 64 => True) (fun q => Cn.num q.toNat) l k)) ∧ Ext (fun j => j = b) w w') := by
  have _hF9 := hF
  have _hk9 := hk
  have hbl := ho.lt
  have hll := hl.le
  refine enter (args := [.pointer (some ⟨b, 0, none⟩), .func (.func 148) #[] #[]]) (n := 32) Tryz.func147 rfl rfl (Nat.le_of_ble_eq_true rfl) ?_
  refine C.seqK fun K1 hK1 => ?_
  refine C.region ?_
  refine O.asg ?_
  refine O.asg ?_
  refine O.nil ?_
  refine hK1 _ _ ?_
  refine C.seqK fun K2 hK2 => ?_
  refine C.region ?_
  refine O.asg ?_
  refine O.nil ?_
  refine hK2 _ _ ?_
  refine C.seqK fun K3 hK3 => ?_
  refine C.seqK fun K4 hK4 => ?_
  refine C.region ?_
  refine O.mv ?_
  refine O.call Tryz.call110 (args1 rfl) (zero_spec b vr l _ F _ ho hl (by omega) (fun j hj => by have q1 := hF j hj; omega)) ?_
  rintro v_11 w1 ⟨rfl, hw_⟩
  replace hw_ := hw_.symm
  subst hw_
  refine O.nil ?_
  refine hK4 _ _ ?_
  refine C.condF rfl ?_
  refine C.skip ?_
  refine hK3 _ _ ?_
  refine C.seqK fun K5 hK5 => ?_
  refine C.region ?_
  refine O.mv ?_
  refine O.nilChk rfl ?_
  refine O.fieldAd Tryz.underlying152 rfl Tryz.sizeOf3 (by decide) rfl ?_
  refine O.loadO Tryz.isAgg3 rfl ho rfl ?_
  refine O.asg ?_
  refine O.nil ?_
  refine hK5 _ _ ?_
  refine C.seqK fun K6 hK6 => ?_
  refine C.region ?_
  refine O.mv ?_
  refine O.mv ?_
  refine O.callV (vs := [.pointer (some ⟨b, 0, none⟩)]) Tryz.call148 rfl (args1 rfl) (rdnum_spec b vr l k F _ ho hl hk (fun j hj => by have q1 := hF j hj; omega) hL) ?_
  rintro v_20 w1 ⟨nv20, env20, knv20, rfl, hov20, hcv20, e1⟩
  have z1 := e1.size
  refine O.mv ?_
  refine O.extract rfl rfl ?_
  refine O.extract rfl rfl ?_
  refine O.asg ?_
  refine O.asg ?_
  refine O.nil ?_
  refine hK6 _ _ ?_
  refine C.seqK fun K7 hK7 => ?_
  refine C.seqK fun K8 hK8 => ?_
  refine C.region ?_
  refine O.mv ?_
  refine O.neqI rfl rfl ?_
  refine O.nil ?_
  refine hK8 _ _ ?_
  refine C.condD rfl (fun c24 => ?_) (fun c24 => ?_)
  ·
    refine C.seqK fun K9 hK9 => ?_
    refine C.region ?_
    refine O.mv ?_
    refine O.mv ?_
    refine O.cast (v' := .int .i64 (k : Int)) rfl ?_
    refine O.nilChk rfl ?_
    refine O.fieldAd Tryz.underlying152 rfl Tryz.sizeOf3 (by decide) rfl ?_
    refine O.store Tryz.sizeOf3 rfl rfl rfl hov20 (by simp) (fun w2 hs2 e2 z2 => ?_)
    try simp only [Nat.zero_add] at hs2
    refine O.nil ?_
    refine hK9 _ _ ?_
    refine C.seqK fun K10 hK10 => ?_
    refine C.region ?_
    refine O.mv ?_
    refine O.mv ?_
    refine O.asg ?_
    refine O.asg ?_
    refine O.nil ?_
    refine hK10 _ _ ?_
    refine C.ret ?_
    refine Outs.two rfl rfl rfl ?_
    rcases hcv20 with ⟨q1, q2⟩ | ⟨q1, q2⟩
    · first
      | exact absurd q1 c24
      | exact ⟨nv20, 0, knv20, rfl, hs2, .inl ⟨rfl, q2⟩, (Ext.new (Ext.new (Ext.refl _ _) e1 (by intro i hi hk; first | exact hk.elim | ((try dsimp only at hk); (try dsimp only); omega))) e2 (by intro i hi hk; first | exact hk.elim | ((try dsimp only at hk); (try dsimp only); omega)))⟩
    · first
      | exact ⟨0#64, env20, k, rfl, hs2, .inr ⟨q1, rfl, rfl, q2.2.2⟩, (Ext.new (Ext.new (Ext.refl _ _) e1 (by intro i hi hk; first | exact hk.elim | ((try dsimp only at hk); (try dsimp only); omega))) e2 (by intro i hi hk; first | exact hk.elim | ((try dsimp only at hk); (try dsimp only); omega)))⟩
      | omega
  ·
    refine C.skip ?_
    refine hK7 _ _ ?_
    refine C.seqK fun K11 hK11 => ?_
    refine C.region ?_
    refine O.mv ?_
    refine O.asg ?_
    refine O.asg ?_
    refine O.nil ?_
    refine hK11 _ _ ?_
    refine C.ret ?_
    refine Outs.two rfl rfl rfl ?_
    rcases hcv20 with ⟨q1, q2⟩ | ⟨q1, q2⟩
    · first
      | exact absurd q1 c24
      | exact ⟨nv20, 0, knv20, rfl, hov20, .inl ⟨rfl, q2⟩, (Ext.new (Ext.refl _ _) e1 (by intro i hi hk; first | exact hk.elim | ((try dsimp only at hk); (try dsimp only); omega)))⟩
    · first
      | exact ⟨0#64, env20, k, rfl, hov20, .inr ⟨q1, rfl, rfl, q2.2.2⟩, (Ext.new (Ext.refl _ _) e1 (by intro i hi hk; first | exact hk.elim | ((try dsimp only at hk); (try dsimp only); omega)))⟩
      | omega

set_option maxHeartbeats 1000000 in
theorem rdNum_spec (b : Nat) (vr : Value) (l : List UInt8) (k : Nat) (F : Nat → Prop) (most : BitVec 64) (w : World) (ho : Own w b 152 [.bool true, vr, .int .i64 ((k : Int))]) (hl : Sl byteE w F vr l) (hk : k ≤ l.length) (hF : ∀ j, F j → j ≠ b ∧ j < w.heap.size) (hL : l.length ≤ 1000000) :
    Ret Tryz.prog 123 #[.pointer (some ⟨b, 0, none⟩), .int .u64 ((most).toNat : Int)] w (fun v w' => ∃ (n : BitVec 64) (e : Int) (k' : Nat), v = .tuple #[.int .u64 (n.toNat : Int), .int .i64 e] ∧ Own w' b 152 [.bool true, vr, .int .i64 ((k' : Int))] ∧ ((e = 0 ∧ n.toNat ≤ most.toNat ∧ Cn.Seg (Cn.num n.toNat) l k k') ∨ (0 < e ∧ n = 0#64 ∧ k' = k ∧ Cn.No (fun q : BitVec 64 => q.toNat ≤ most.toNat) (fun q => Cn.num q.toNat) l k)) ∧ Ext (fun j => j = b) w w') := by
  have _hF9 := hF
  have _hk9 := hk
  have hbl := ho.lt
  have hll := hl.le
  refine enter (args := [.pointer (some ⟨b, 0, none⟩), .int .u64 ((most).toNat : Int)]) (n := 33) Tryz.func123 rfl rfl (Nat.le_of_ble_eq_true rfl) ?_
  refine C.seqK fun K1 hK1 => ?_
  refine C.region ?_
  refine O.asg ?_
  refine O.asg ?_
  refine O.nil ?_
  refine hK1 _ _ ?_
  refine C.seqK fun K2 hK2 => ?_
  refine C.seqK fun K3 hK3 => ?_
  refine C.region ?_
  refine O.mv ?_
  refine O.call Tryz.call110 (args1 rfl) (zero_spec b vr l _ F _ ho hl (by omega) (fun j hj => by have q1 := hF j hj; omega)) ?_
  rintro v_10 w1 ⟨rfl, hw_⟩
  replace hw_ := hw_.symm
  subst hw_
  refine O.nil ?_
  refine hK3 _ _ ?_
  refine C.condF rfl ?_
  refine C.skip ?_
  refine hK2 _ _ ?_
  refine C.seqK fun K4 hK4 => ?_
  refine C.region ?_
  refine O.mv ?_
  refine O.nilChk rfl ?_
  refine O.fieldAd Tryz.underlying152 rfl Tryz.sizeOf3 (by decide) rfl ?_
  refine O.loadO Tryz.isAgg3 rfl ho rfl ?_
  refine O.asg ?_
  refine O.nil ?_
  refine hK4 _ _ ?_
  refine C.seqK fun K5 hK5 => ?_
  refine C.region ?_
  refine O.mv ?_
  refine O.call Tryz.call147 (args2 rfl rfl) (wholeN_spec b vr l k F _ ho hl hk (fun j hj => by have q1 := hF j hj; omega) hL) ?_
  rintro v_17 w1 ⟨nv17, env17, knv17, rfl, hov17, hcv17, e1⟩
  have z1 := e1.size
  refine O.mv ?_
  refine O.extract rfl rfl ?_
  refine O.extract rfl rfl ?_
  refine O.asg ?_
  refine O.asg ?_
  refine O.nil ?_
  refine hK5 _ _ ?_
  refine C.seqK fun K6 hK6 => ?_
  refine C.seqK fun K7 hK7 => ?_
  refine C.region ?_
  refine O.mv ?_
  refine O.eqlI rfl rfl ?_
  refine O.mv ?_
  refine O.splitD (x := .tmp 22) rfl (fun c22 => ?_) (fun c22 => ?_)
  ·
    refine O.yes rfl (isT rfl c22) ?_
    refine O.mv ?_
    refine O.yes rfl (isT rfl c22) ?_
    refine O.mv ?_
    refine O.yes rfl (isT rfl c22) ?_
    refine O.gtrU (m := 64) rfl rfl ?_
    refine O.pickT (isT rfl c22) ?_
    refine O.nil ?_
    refine hK7 _ _ ?_
    refine C.condD rfl (fun c26 => ?_) (fun c26 => ?_)
    ·
      refine C.seqK fun K8 hK8 => ?_
      refine C.region ?_
      refine O.mv ?_
      refine O.mv ?_
      refine O.cast (v' := .int .i64 (k : Int)) rfl ?_
      refine O.nilChk rfl ?_
      refine O.fieldAd Tryz.underlying152 rfl Tryz.sizeOf3 (by decide) rfl ?_
      refine O.store Tryz.sizeOf3 rfl rfl rfl hov17 (by simp) (fun w2 hs2 e2 z2 => ?_)
      try simp only [Nat.zero_add] at hs2
      refine O.nil ?_
      refine hK8 _ _ ?_
      refine C.seqK fun K9 hK9 => ?_
      refine C.region ?_
      refine O.asg ?_
      refine O.asg ?_
      refine O.nil ?_
      refine hK9 _ _ ?_
      refine C.ret ?_
      refine Outs.two rfl rfl rfl ?_
      rcases hcv17 with ⟨q1, q2⟩ | ⟨q1, q2, q3, q4⟩
      · first
        | exact ⟨0#64, 3, k, rfl, hs2, .inr ⟨by decide, rfl, rfl, Cn.no_most q2 (BitVec.lt_def.1 c26)⟩, (Ext.new (Ext.new (Ext.refl _ _) e1 (by intro i hi hk; first | exact hk.elim | ((try dsimp only at hk); (try dsimp only); omega))) e2 (by intro i hi hk; first | exact hk.elim | ((try dsimp only at hk); (try dsimp only); omega)))⟩
        | exact ⟨nv17, env17, knv17, rfl, hs2, .inl ⟨q1, Nat.le_of_not_lt (fun h => c26 (BitVec.lt_def.2 h)), q2⟩, (Ext.new (Ext.new (Ext.refl _ _) e1 (by intro i hi hk; first | exact hk.elim | ((try dsimp only at hk); (try dsimp only); omega))) e2 (by intro i hi hk; first | exact hk.elim | ((try dsimp only at hk); (try dsimp only); omega)))⟩
        | exact absurd q1 c22
      · first
        | (exfalso; omega)
        | exact ⟨nv17, env17, knv17, rfl, hs2, .inr ⟨q1, q2, q3, q4.mono fun _ _ => trivial⟩, (Ext.new (Ext.new (Ext.refl _ _) e1 (by intro i hi hk; first | exact hk.elim | ((try dsimp only at hk); (try dsimp only); omega))) e2 (by intro i hi hk; first | exact hk.elim | ((try dsimp only at hk); (try dsimp only); omega)))⟩
    ·
      refine C.skip ?_
      refine hK6 _ _ ?_
      refine C.seqK fun K10 hK10 => ?_
      refine C.region ?_
      refine O.mv ?_
      refine O.mv ?_
      refine O.asg ?_
      refine O.asg ?_
      refine O.nil ?_
      refine hK10 _ _ ?_
      refine C.ret ?_
      refine Outs.two rfl rfl rfl ?_
      rcases hcv17 with ⟨q1, q2⟩ | ⟨q1, q2, q3, q4⟩
      · first
        | exact ⟨0#64, 3, k, rfl, hov17, .inr ⟨by decide, rfl, rfl, Cn.no_most q2 (BitVec.lt_def.1 c26)⟩, (Ext.new (Ext.refl _ _) e1 (by intro i hi hk; first | exact hk.elim | ((try dsimp only at hk); (try dsimp only); omega)))⟩
        | exact ⟨nv17, env17, knv17, rfl, hov17, .inl ⟨q1, Nat.le_of_not_lt (fun h => c26 (BitVec.lt_def.2 h)), q2⟩, (Ext.new (Ext.refl _ _) e1 (by intro i hi hk; first | exact hk.elim | ((try dsimp only at hk); (try dsimp only); omega)))⟩
        | exact absurd q1 c22
      · first
        | (exfalso; omega)
        | exact ⟨nv17, env17, knv17, rfl, hov17, .inr ⟨q1, q2, q3, q4.mono fun _ _ => trivial⟩, (Ext.new (Ext.refl _ _) e1 (by intro i hi hk; first | exact hk.elim | ((try dsimp only at hk); (try dsimp only); omega)))⟩
  ·
    refine O.no rfl (noB (isF rfl c22) rfl) ?_
    refine O.no rfl (noB (isF rfl c22) rfl) ?_
    refine O.no rfl (noB (isF rfl c22) rfl) ?_
    refine O.pickF (isF rfl c22) ?_
    refine O.nil ?_
    refine hK7 _ _ ?_
    refine C.condF rfl ?_
    refine C.skip ?_
    refine hK6 _ _ ?_
    refine C.seqK fun K11 hK11 => ?_
    refine C.region ?_
    refine O.mv ?_
    refine O.mv ?_
    refine O.asg ?_
    refine O.asg ?_
    refine O.nil ?_
    refine hK11 _ _ ?_
    refine C.ret ?_
    refine Outs.two rfl rfl rfl ?_
    rcases hcv17 with ⟨q1, q2⟩ | ⟨q1, q2, q3, q4⟩
    · first
      | exact ⟨0#64, 3, k, rfl, hov17, .inr ⟨by decide, rfl, rfl, Cn.no_most q2 (BitVec.lt_def.1 c26)⟩, (Ext.new (Ext.refl _ _) e1 (by intro i hi hk; first | exact hk.elim | ((try dsimp only at hk); (try dsimp only); omega)))⟩
      | exact ⟨nv17, env17, knv17, rfl, hov17, .inl ⟨q1, Nat.le_of_not_lt (fun h => c26 (BitVec.lt_def.2 h)), q2⟩, (Ext.new (Ext.refl _ _) e1 (by intro i hi hk; first | exact hk.elim | ((try dsimp only at hk); (try dsimp only); omega)))⟩
      | exact absurd q1 c22
    · first
      | (exfalso; omega)
      | exact ⟨nv17, env17, knv17, rfl, hov17, .inr ⟨q1, q2, q3, q4.mono fun _ _ => trivial⟩, (Ext.new (Ext.refl _ _) e1 (by intro i hi hk; first | exact hk.elim | ((try dsimp only at hk); (try dsimp only); omega)))⟩

set_option maxHeartbeats 1000000 in
theorem rtake_spec (b : Nat) (vr : Value) (l : List UInt8) (k : Nat) (F : Nat → Prop) (n : BitVec 64) (w : World) (ho : Own w b 152 [.bool true, vr, .int .i64 ((k : Int))]) (hl : Sl byteE w F vr l) (hk : k ≤ l.length) (hF : ∀ j, F j → j ≠ b ∧ j < w.heap.size) (hL : l.length ≤ 1000000) :
    Ret Tryz.prog 151 #[.pointer (some ⟨b, 0, none⟩), .int .u64 ((n).toNat : Int)] w (fun v w' => ∃ (vb : Value) (s : List UInt8) (e : Int) (k' : Nat), v = .tuple #[vb, .int .i64 e] ∧ Own w' b 152 [.bool true, vr, .int .i64 ((k' : Int))] ∧ OwnF byteF 5 w.heap.size w' vb (s) ∧ ((e = 0 ∧ n.toNat ≤ l.length - k ∧ k' = k + n.toNat ∧ s = (l.drop k).take n.toNat) ∨ (e = 4 ∧ l.length - k < n.toNat ∧ k' = k)) ∧ Ext (fun j => j = b) w w') := by
  have _hF9 := hF
  have _hk9 := hk
  have hbl := ho.lt
  have hll := hl.le
  have hnl := n.isLt
  obtain ⟨ie5, ti5, ts5, tb5, tz5⟩ := inf5
  refine enter (args := [.pointer (some ⟨b, 0, none⟩), .int .u64 ((n).toNat : Int)]) (n := 28) Tryz.func151 rfl rfl (Nat.le_of_ble_eq_true rfl) ?_
  refine C.seqK fun K1 hK1 => ?_
  refine C.region ?_
  refine O.asg ?_
  refine O.asg ?_
  refine O.nil ?_
  refine hK1 _ _ ?_
  refine C.seqK fun K2 hK2 => ?_
  refine C.seqK fun K3 hK3 => ?_
  refine C.region ?_
  refine O.mv ?_
  refine O.call Tryz.call146 (args1 rfl) (rest_spec b vr l k F _ ho hl hk (fun j hj => by have q1 := hF j hj; omega)) ?_
  rintro v_8 w1 ⟨e1, h8⟩
  have z1 := e1.size
  refine O.len Tryz.underlying32 rfl h8 ?_
  refine O.convIU (m' := 64) Tryz.underlying3 Tryz.underlying49 rfl rfl rfl ?_
  have h10 : (BitVec.ofInt 64 ((l.drop k).length : Int)).toNat = l.length - k := by rw [List.length_drop, BitVec.toNat_ofInt]; omega
  refine O.mv ?_
  refine O.lssU (m := 64) rfl rfl ?_
  refine O.nil ?_
  refine hK3 _ _ ?_
  refine C.condD rfl (fun c12 => ?_) (fun c12 => ?_)
  ·
    refine C.seqK fun K4 hK4 => ?_
    refine C.region ?_
    refine O.asg ?_
    refine O.asg ?_
    refine O.nil ?_
    refine hK4 _ _ ?_
    refine C.ret ?_
    refine Outs.two rfl rfl rfl ?_
    first
    | exact ⟨_, [], 4, k, rfl, (ho.keep e1), OwnF.nil _ _ _ _, .inr ⟨rfl, by rw [BitVec.lt_def, h10] at c12; exact c12, rfl⟩, (Ext.new (Ext.refl _ _) e1 (by intro i hi hk; first | exact hk.elim | ((try dsimp only at hk); (try dsimp only); omega)))⟩
    | exact ⟨_, _, 0, k + n.toNat, rfl, (ho.keep e1), ({app:17}).low (by omega), .inl ⟨rfl, hnk, rfl, rfl⟩, (Ext.new (Ext.refl _ _) e1 (by intro i hi hk; first | exact hk.elim | ((try dsimp only at hk); (try dsimp only); omega)))⟩
  ·
    have hnk : n.toNat ≤ l.length - k := by rw [BitVec.lt_def, h10] at c12; omega
    refine C.skip ?_
    refine hK2 _ _ ?_
    refine C.seqK fun K5 hK5 => ?_
    refine C.region ?_
    refine O.mv ?_
    refine O.call Tryz.call146 (args1 rfl) (rest_spec b vr l k F _ (ho.keep e1) (hl.keep e1) hk (fun j hj => by have q1 := hF j hj; omega)) ?_
    rintro v_14 w2 ⟨e2, h14⟩
    have z2 := e2.size
    refine O.mv ?_
    have hb16 := Sl.sub (P := Tryz.prog) (0) (n.toNat) Tryz.underlying32 Tryz.sizeOf5 (by rfl) h14 (Nat.zero_le _) (by rw [List.length_drop]; omega)
    obtain ⟨v16, hs16, hr16⟩ := hb16
    refine O.subR rfl hr16 (.inl ⟨rfl, rfl⟩) (.inr ⟨_, _, rfl, rfl⟩) ?_
    refine O.call Tryz.call61 (args1 rfl) (cloneB_spec _ _ _ _ hs16 (by simp; omega)) ?_
    rintro v_17 w3 ⟨e3, h17⟩
    have z3 := e3.size
    rw [List.drop_zero] at h17
    have h17s := h17.sl
    refine O.asg ?_
    refine O.nil ?_
    refine hK5 _ _ ?_
    refine C.seqK fun K6 hK6 => ?_
    refine C.region ?_
    refine O.mv ?_
    refine O.nilChk rfl ?_
    refine O.fieldAd Tryz.underlying152 rfl Tryz.sizeOf3 (by decide) rfl ?_
    refine O.loadO Tryz.isAgg3 rfl (((ho.keep e1).keep e2).keep e3) rfl ?_
    refine O.mv ?_
    refine O.convU64I Tryz.underlying49 Tryz.underlying3 rfl ?_
    refine O.cast (v' := .int .i64 (n.toNat : Int)) (congrArg (Value.int .i64) (by rw [BitVec.toInt_eq_toNat_cond, if_pos (by omega)])) ?_
    refine O.addI rfl rfl (by unfold InI; omega) ?_
    refine O.cast (v' := .int .i64 ((k + n.toNat : Nat) : Int)) (congrArg (Value.int .i64) (by omega)) ?_
    refine O.nilChk rfl ?_
    refine O.fieldAd Tryz.underlying152 rfl Tryz.sizeOf3 (by decide) rfl ?_
    refine O.store Tryz.sizeOf3 rfl rfl rfl (((ho.keep e1).keep e2).keep e3) (by simp) (fun w4 hs4 e4 z4 => ?_)
    try simp only [Nat.zero_add] at hs4
    refine O.nil ?_
    refine hK6 _ _ ?_
    refine C.seqK fun K7 hK7 => ?_
    refine C.region ?_
    refine O.mv ?_
    refine O.asg ?_
    refine O.asg ?_
    refine O.nil ?_
    refine hK7 _ _ ?_
    refine C.ret ?_
    refine Outs.two rfl rfl rfl ?_
    first
    | exact ⟨_, [], 4, k, rfl, hs4, OwnF.nil _ _ _ _, .inr ⟨rfl, by rw [BitVec.lt_def, h10] at c12; exact c12, rfl⟩, (Ext.new (Ext.new (Ext.new (Ext.new (Ext.refl _ _) e1 (by intro i hi hk; first | exact hk.elim | ((try dsimp only at hk); (try dsimp only); omega))) e2 (by intro i hi hk; first | exact hk.elim | ((try dsimp only at hk); (try dsimp only); omega))) e3 (by intro i hi hk; first | exact hk.elim | ((try dsimp only at hk); (try dsimp only); omega))) e4 (by intro i hi hk; first | exact hk.elim | ((try dsimp only at hk); (try dsimp only); omega)))⟩
    | exact ⟨_, _, 0, k + n.toNat, rfl, hs4, ((h17.keepM e4 (fun k hk h => by have := h17.bk_ge k hk; (try dsimp only at h); omega))).low (by omega), .inl ⟨rfl, hnk, rfl, rfl⟩, (Ext.new (Ext.new (Ext.new (Ext.new (Ext.refl _ _) e1 (by intro i hi hk; first | exact hk.elim | ((try dsimp only at hk); (try dsimp only); omega))) e2 (by intro i hi hk; first | exact hk.elim | ((try dsimp only at hk); (try dsimp only); omega))) e3 (by intro i hi hk; first | exact hk.elim | ((try dsimp only at hk); (try dsimp only); omega))) e4 (by intro i hi hk; first | exact hk.elim | ((try dsimp only at hk); (try dsimp only); omega)))⟩

set_option maxHeartbeats 1000000 in
theorem rstr1_spec (b : Nat) (vr : Value) (l : List UInt8) (k : Nat) (F : Nat → Prop) (bm : Nat) (most : Int) (w : World) (ho : Own w b 152 [.bool true, vr, .int .i64 ((k : Int))]) (hl : Sl byteE w F vr l) (hk : k ≤ l.length) (hF : ∀ j, F j → j ≠ b ∧ j < w.heap.size) (hL : l.length ≤ 1000000) (hm : Own w bm 3 [.int .i64 most]) (hne : bm ≠ b) (hmost : InI most) :
    Ret Tryz.prog 150 #[.pointer (some ⟨b, 0, none⟩), .pointer (some ⟨bm, 0, none⟩)] w (fun v w' => ∃ (s : List UInt8) (e : Int) (k' : Nat), v = .tuple #[str s, .int .i64 e] ∧ Own w' b 152 [.bool true, vr, .int .i64 ((k' : Int))] ∧ ((e = 0 ∧ (s.length : Int) ≤ most ∧ Cn.Seg (Cn.strB s) l k k') ∨ (0 < e ∧ True ∧ Cn.No (fun s : List UInt8 => (s.length : Int) ≤ most) Cn.strB l k)) ∧ Ext (fun j => j = b) w w') := by
  have _hF9 := hF
  have _hk9 := hk
  have hbl := ho.lt
  have hll := hl.le
  refine enter (args := [.pointer (some ⟨b, 0, none⟩), .pointer (some ⟨bm, 0, none⟩)]) (n := 33) Tryz.func150 rfl rfl (Nat.le_of_ble_eq_true rfl) ?_
  refine C.seqK fun K1 hK1 => ?_
  refine C.region ?_
  refine O.asg ?_
  refine O.asg ?_
  refine O.nil ?_
  refine hK1 _ _ ?_
  refine C.seqK fun K2 hK2 => ?_
  refine C.region ?_
  refine O.mv ?_
  refine O.call Tryz.call123 (args2 rfl rfl) (rdNum_spec b vr l k F 18446744073709551615#64 _ ho hl hk (fun j hj => by have q1 := hF j hj; omega) hL) ?_
  rintro v_10 w1 ⟨nv10, env10, knv10, rfl, hov10, hcv10, e1⟩
  have z1 := e1.size
  refine O.mv ?_
  refine O.extract rfl rfl ?_
  refine O.extract rfl rfl ?_
  refine O.asg ?_
  refine O.asg ?_
  refine O.nil ?_
  refine hK2 _ _ ?_
  refine C.seqK fun K3 hK3 => ?_
  refine C.seqK fun K4 hK4 => ?_
  refine C.region ?_
  refine O.mv ?_
  refine O.neqI rfl rfl ?_
  refine O.nil ?_
  refine hK4 _ _ ?_
  refine C.condD rfl (fun c14 => ?_) (fun c14 => ?_)
  ·
    refine C.seqK fun K5 hK5 => ?_
    refine C.region ?_
    refine O.mv ?_
    refine O.asg ?_
    refine O.asg ?_
    refine O.nil ?_
    refine hK5 _ _ ?_
    refine C.ret ?_
    refine Outs.two rfl rfl rfl ?_
    first
    | (rcases hcv10 with ⟨q1, _⟩ | ⟨q1, _, q3, q4⟩
       · exact absurd q1 c14
       · exact ⟨[], env10, knv10, rfl, hov10, .inr ⟨q1, trivial, Cn.no_str_len (q4.mono fun q _ => by have h9 := q.isLt; show q.toNat ≤ 18446744073709551615; omega) (by omega)⟩, (Ext.new (Ext.refl _ _) e1 (by intro i hi hk; first | exact hk.elim | ((try dsimp only at hk); (try dsimp only); omega)))⟩)
    | exact ⟨[], 5, knv10, rfl, hov10, .inr ⟨by decide, trivial, Cn.no_str hs10 (.inl (by have := nv10.isLt; first | omega | (rw [BitVec.lt_def, BitVec.toNat_ofInt] at c23; unfold InI at hmost; omega)))⟩, (Ext.new (Ext.refl _ _) e1 (by intro i hi hk; first | exact hk.elim | ((try dsimp only at hk); (try dsimp only); omega)))⟩
    | (rcases hcv27 with ⟨q1, q2, q3, q4⟩ | ⟨q1, q2, q3⟩
       · exact ⟨sv27, env27, knv27, rfl, hov10, .inl ⟨q1, by rw [q4, List.length_take, List.length_drop]; rw [BitVec.lt_def, BitVec.toNat_ofInt] at c23; unfold InI at hmost; omega, by rw [q3, q4]; exact Cn.seg_str hs10 q2⟩, (Ext.new (Ext.refl _ _) e1 (by intro i hi hk; first | exact hk.elim | ((try dsimp only at hk); (try dsimp only); omega)))⟩
       · exact ⟨sv27, env27, knv27, rfl, hov10, .inr ⟨by omega, trivial, Cn.no_str hs10 (.inr q2)⟩, (Ext.new (Ext.refl _ _) e1 (by intro i hi hk; first | exact hk.elim | ((try dsimp only at hk); (try dsimp only); omega)))⟩)
  ·
    obtain ⟨q1, hs10⟩ : env10 = 0 ∧ Cn.Seg (Cn.num nv10.toNat) l k knv10 := by
      rcases hcv10 with ⟨q1, _, q2⟩ | ⟨q1, _⟩
      · exact ⟨q1, q2⟩
      · exfalso; omega
    have hk10 := hs10.2.2
    refine C.skip ?_
    refine hK3 _ _ ?_
    refine C.seqK fun K6 hK6 => ?_
    refine C.seqK fun K7 hK7 => ?_
    refine C.region ?_
    refine O.loadO Tryz.isAgg3 rfl (hm.keepM e1 (by intro h; (try dsimp only at h); omega)) rfl ?_
    refine O.lssI rfl rfl ?_
    refine O.mv ?_
    refine O.splitD (x := .tmp 18) rfl (fun c18 => ?_) (fun c18 => ?_)
    ·
      refine O.no rfl (noB (isT rfl c18) rfl) ?_
      refine O.no rfl (noB (isT rfl c18) rfl) ?_
      refine O.no rfl (noB (isT rfl c18) rfl) ?_
      refine O.no rfl (noB (isT rfl c18) rfl) ?_
      refine O.pickT (isT rfl c18) ?_
      refine O.nil ?_
      refine hK7 _ _ ?_
      refine C.condT rfl ?_
      refine C.seqK fun K8 hK8 => ?_
      refine C.region ?_
      refine O.asg ?_
      refine O.asg ?_
      refine O.nil ?_
      refine hK8 _ _ ?_
      refine C.ret ?_
      refine Outs.two rfl rfl rfl ?_
      first
      | (rcases hcv10 with ⟨q1, _⟩ | ⟨q1, _, q3, q4⟩
         · exact absurd q1 c14
         · exact ⟨[], env10, knv10, rfl, hov10, .inr ⟨q1, trivial, Cn.no_str_len (q4.mono fun q _ => by have h9 := q.isLt; show q.toNat ≤ 18446744073709551615; omega) (by omega)⟩, (Ext.new (Ext.refl _ _) e1 (by intro i hi hk; first | exact hk.elim | ((try dsimp only at hk); (try dsimp only); omega)))⟩)
      | exact ⟨[], 5, knv10, rfl, hov10, .inr ⟨by decide, trivial, Cn.no_str hs10 (.inl (by have := nv10.isLt; first | omega | (rw [BitVec.lt_def, BitVec.toNat_ofInt] at c23; unfold InI at hmost; omega)))⟩, (Ext.new (Ext.refl _ _) e1 (by intro i hi hk; first | exact hk.elim | ((try dsimp only at hk); (try dsimp only); omega)))⟩
      | (rcases hcv27 with ⟨q1, q2, q3, q4⟩ | ⟨q1, q2, q3⟩
         · exact ⟨sv27, env27, knv27, rfl, hov10, .inl ⟨q1, by rw [q4, List.length_take, List.length_drop]; rw [BitVec.lt_def, BitVec.toNat_ofInt] at c23; unfold InI at hmost; omega, by rw [q3, q4]; exact Cn.seg_str hs10 q2⟩, (Ext.new (Ext.refl _ _) e1 (by intro i hi hk; first | exact hk.elim | ((try dsimp only at hk); (try dsimp only); omega)))⟩
         · exact ⟨sv27, env27, knv27, rfl, hov10, .inr ⟨by omega, trivial, Cn.no_str hs10 (.inr q2)⟩, (Ext.new (Ext.refl _ _) e1 (by intro i hi hk; first | exact hk.elim | ((try dsimp only at hk); (try dsimp only); omega)))⟩)
    ·
      refine O.yes rfl (isF rfl c18) ?_
      refine O.mv ?_
      refine O.yes rfl (isF rfl c18) ?_
      refine O.loadO Tryz.isAgg3 rfl (hm.keepM e1 (by intro h; (try dsimp only at h); omega)) rfl ?_
      refine O.yes rfl (isF rfl c18) ?_
      refine O.convIU (m' := 64) Tryz.underlying3 Tryz.underlying49 rfl rfl rfl ?_
      refine O.yes rfl (isF rfl c18) ?_
      refine O.gtrU (m := 64) rfl rfl ?_
      refine O.pickF (isF rfl c18) ?_
      refine O.nil ?_
      refine hK7 _ _ ?_
      refine C.condD rfl (fun c23 => ?_) (fun c23 => ?_)
      ·
        refine C.seqK fun K9 hK9 => ?_
        refine C.region ?_
        refine O.asg ?_
        refine O.asg ?_
        refine O.nil ?_
        refine hK9 _ _ ?_
        refine C.ret ?_
        refine Outs.two rfl rfl rfl ?_
        first
        | (rcases hcv10 with ⟨q1, _⟩ | ⟨q1, _, q3, q4⟩
           · exact absurd q1 c14
           · exact ⟨[], env10, knv10, rfl, hov10, .inr ⟨q1, trivial, Cn.no_str_len (q4.mono fun q _ => by have h9 := q.isLt; show q.toNat ≤ 18446744073709551615; omega) (by omega)⟩, (Ext.new (Ext.refl _ _) e1 (by intro i hi hk; first | exact hk.elim | ((try dsimp only at hk); (try dsimp only); omega)))⟩)
        | exact ⟨[], 5, knv10, rfl, hov10, .inr ⟨by decide, trivial, Cn.no_str hs10 (.inl (by have := nv10.isLt; first | omega | (rw [BitVec.lt_def, BitVec.toNat_ofInt] at c23; unfold InI at hmost; omega)))⟩, (Ext.new (Ext.refl _ _) e1 (by intro i hi hk; first | exact hk.elim | ((try dsimp only at hk); (try dsimp only); omega)))⟩
        | (rcases hcv27 with ⟨q1, q2, q3, q4⟩ | ⟨q1, q2, q3⟩
           · exact ⟨sv27, env27, knv27, rfl, hov10, .inl ⟨q1, by rw [q4, List.length_take, List.length_drop]; rw [BitVec.lt_def, BitVec.toNat_ofInt] at c23; unfold InI at hmost; omega, by rw [q3, q4]; exact Cn.seg_str hs10 q2⟩, (Ext.new (Ext.refl _ _) e1 (by intro i hi hk; first | exact hk.elim | ((try dsimp only at hk); (try dsimp only); omega)))⟩
           · exact ⟨sv27, env27, knv27, rfl, hov10, .inr ⟨by omega, trivial, Cn.no_str hs10 (.inr q2)⟩, (Ext.new (Ext.refl _ _) e1 (by intro i hi hk; first | exact hk.elim | ((try dsimp only at hk); (try dsimp only); omega)))⟩)
      ·
        refine C.skip ?_
        refine hK6 _ _ ?_
        refine C.seqK fun K10 hK10 => ?_
        refine C.region ?_
        refine O.mv ?_
        refine O.mv ?_
        refine O.call Tryz.call151 (args2 rfl rfl) (rtake_spec b vr l knv10 F nv10 _ hov10 (hl.keepM e1 (by intro k hk h; first | (have q1 := hF k hk; (try dsimp only at h); omega) | ((try dsimp only at hk); (try dsimp only at h); omega))) hk10 (fun j hj => by have q1 := hF j hj; omega) hL) ?_
        rintro v_27 w2 ⟨vbv27, sv27, env27, knv27, rfl, hov27, hbv27, hcv27, e2⟩
        have z2 := e2.size
        have hb27s := hbv27.sl
        refine O.mv ?_
        refine O.extract rfl rfl ?_
        refine O.extract rfl rfl ?_
        refine O.asg ?_
        refine O.asg ?_
        refine O.nil ?_
        refine hK10 _ _ ?_
        refine C.seqK fun K11 hK11 => ?_
        refine C.region ?_
        refine O.mv ?_
        refine O.bytesS Tryz.underlying32 Tryz.underlying5 Tryz.underlying9 rfl hb27s ?_
        refine O.mv ?_
        refine O.asg ?_
        refine O.asg ?_
        refine O.nil ?_
        refine hK11 _ _ ?_
        refine C.ret ?_
        refine Outs.two rfl rfl rfl ?_
        first
        | (rcases hcv10 with ⟨q1, _⟩ | ⟨q1, _, q3, q4⟩
           · exact absurd q1 c14
           · exact ⟨[], env10, knv10, rfl, hov27, .inr ⟨q1, trivial, Cn.no_str_len (q4.mono fun q _ => by have h9 := q.isLt; show q.toNat ≤ 18446744073709551615; omega) (by omega)⟩, (Ext.new (Ext.new (Ext.refl _ _) e1 (by intro i hi hk; first | exact hk.elim | ((try dsimp only at hk); (try dsimp only); omega))) e2 (by intro i hi hk; first | exact hk.elim | ((try dsimp only at hk); (try dsimp only); omega)))⟩)
        | exact ⟨[], 5, knv10, rfl, hov27, .inr ⟨by decide, trivial, Cn.no_str hs10 (.inl (by have := nv10.isLt; first | omega | (rw [BitVec.lt_def, BitVec.toNat_ofInt] at c23; unfold InI at hmost; omega)))⟩, (Ext.new (Ext.new (Ext.refl _ _) e1 (by intro i hi hk; first | exact hk.elim | ((try dsimp only at hk); (try dsimp only); omega))) e2 (by intro i hi hk; first | exact hk.elim | ((try dsimp only at hk); (try dsimp only); omega)))⟩
        | (rcases hcv27 with ⟨q1, q2, q3, q4⟩ | ⟨q1, q2, q3⟩
           · exact ⟨sv27, env27, knv27, rfl, hov27, .inl ⟨q1, by rw [q4, List.length_take, List.length_drop]; rw [BitVec.lt_def, BitVec.toNat_ofInt] at c23; unfold InI at hmost; omega, by rw [q3, q4]; exact Cn.seg_str hs10 q2⟩, (Ext.new (Ext.new (Ext.refl _ _) e1 (by intro i hi hk; first | exact hk.elim | ((try dsimp only at hk); (try dsimp only); omega))) e2 (by intro i hi hk; first | exact hk.elim | ((try dsimp only at hk); (try dsimp only); omega)))⟩
           · exact ⟨sv27, env27, knv27, rfl, hov27, .inr ⟨by omega, trivial, Cn.no_str hs10 (.inr q2)⟩, (Ext.new (Ext.new (Ext.refl _ _) e1 (by intro i hi hk; first | exact hk.elim | ((try dsimp only at hk); (try dsimp only); omega))) e2 (by intro i hi hk; first | exact hk.elim | ((try dsimp only at hk); (try dsimp only); omega)))⟩)

set_option maxHeartbeats 1000000 in
theorem wholeS_spec (b : Nat) (vr : Value) (l : List UInt8) (k : Nat) (F : Nat → Prop) (bm : Nat) (most : Int) (w : World) (ho : Own w b 152 [.bool true, vr, .int .i64 ((k : Int))]) (hl : Sl byteE w F vr l) (hk : k ≤ l.length) (hF : ∀ j, F j → j ≠ b ∧ j < w.heap.size) (hL : l.length ≤ 1000000) (hm : Own w bm 3 [.int .i64 most]) (hne : bm ≠ b) (hmost : InI most) :
    Ret Tryz.prog 149 #[.pointer (some ⟨b, 0, none⟩), .func (.func 150) #[] #[.pointer (some ⟨bm, 0, none⟩)]] w (fun v w' => ∃ (s : List UInt8) (e : Int) (k' : Nat), v = .tuple #[str s, .int .i64 e] ∧ Own w' b 152 [.bool true, vr, .int .i64 ((k' : Int))] ∧ ((e = 0 ∧ (s.length : Int) ≤ most ∧ Cn.Seg (Cn.strB s) l k k') ∨ (0 < e ∧ k' = k ∧ Cn.No (fun s : List UInt8 => (s.length : Int) ≤ most) Cn.strB l k)) ∧ Ext (fun j => j = b) w w') := by
  have _hF9 := hF
  have _hk9 := hk
  have hbl := ho.lt
  have hll := hl.le
  refine enter (args := [.pointer (some ⟨b, 0, none⟩), .func (.func 150) #[] #[.pointer (some ⟨bm, 0, none⟩)]]) (n := 32) Tryz.func149 rfl rfl (Nat.le_of_ble_eq_true rfl) ?_
  refine C.seqK fun K1 hK1 => ?_
  refine C.region ?_
  refine O.asg ?_
  refine O.asg ?_
  refine O.nil ?_
  refine hK1 _ _ ?_
  refine C.seqK fun K2 hK2 => ?_
  refine C.region ?_
  refine O.asg ?_
  refine O.nil ?_
  refine hK2 _ _ ?_
  refine C.seqK fun K3 hK3 => ?_
  refine C.seqK fun K4 hK4 => ?_
  refine C.region ?_
  refine O.mv ?_
  refine O.call Tryz.call110 (args1 rfl) (zero_spec b vr l _ F _ ho hl (by omega) (fun j hj => by have q1 := hF j hj; omega)) ?_
  rintro v_11 w1 ⟨rfl, hw_⟩
  replace hw_ := hw_.symm
  subst hw_
  refine O.nil ?_
  refine hK4 _ _ ?_
  refine C.condF rfl ?_
  refine C.skip ?_
  refine hK3 _ _ ?_
  refine C.seqK fun K5 hK5 => ?_
  refine C.region ?_
  refine O.mv ?_
  refine O.nilChk rfl ?_
  refine O.fieldAd Tryz.underlying152 rfl Tryz.sizeOf3 (by decide) rfl ?_
  refine O.loadO Tryz.isAgg3 rfl ho rfl ?_
  refine O.asg ?_
  refine O.nil ?_
  refine hK5 _ _ ?_
  refine C.seqK fun K6 hK6 => ?_
  refine C.region ?_
  refine O.mv ?_
  refine O.mv ?_
  refine O.callV (vs := [.pointer (some ⟨b, 0, none⟩)]) Tryz.call150 rfl (args1 rfl) (rstr1_spec b vr l k F bm most _ ho hl hk (fun j hj => by have q1 := hF j hj; omega) hL hm hne hmost) ?_
  rintro v_20 w1 ⟨nv20, env20, knv20, rfl, hov20, hcv20, e1⟩
  have z1 := e1.size
  refine O.mv ?_
  refine O.extract rfl rfl ?_
  refine O.extract rfl rfl ?_
  refine O.asg ?_
  refine O.asg ?_
  refine O.nil ?_
  refine hK6 _ _ ?_
  refine C.seqK fun K7 hK7 => ?_
  refine C.seqK fun K8 hK8 => ?_
  refine C.region ?_
  refine O.mv ?_
  refine O.neqI rfl rfl ?_
  refine O.nil ?_
  refine hK8 _ _ ?_
  refine C.condD rfl (fun c24 => ?_) (fun c24 => ?_)
  ·
    refine C.seqK fun K9 hK9 => ?_
    refine C.region ?_
    refine O.mv ?_
    refine O.mv ?_
    refine O.cast (v' := .int .i64 (k : Int)) rfl ?_
    refine O.nilChk rfl ?_
    refine O.fieldAd Tryz.underlying152 rfl Tryz.sizeOf3 (by decide) rfl ?_
    refine O.store Tryz.sizeOf3 rfl rfl rfl hov20 (by simp) (fun w2 hs2 e2 z2 => ?_)
    try simp only [Nat.zero_add] at hs2
    refine O.nil ?_
    refine hK9 _ _ ?_
    refine C.seqK fun K10 hK10 => ?_
    refine C.region ?_
    refine O.mv ?_
    refine O.mv ?_
    refine O.asg ?_
    refine O.asg ?_
    refine O.nil ?_
    refine hK10 _ _ ?_
    refine C.ret ?_
    refine Outs.two rfl rfl rfl ?_
    rcases hcv20 with ⟨q1, q2⟩ | ⟨q1, q2⟩
    · first
      | exact absurd q1 c24
      | exact ⟨nv20, 0, knv20, rfl, hs2, .inl ⟨rfl, q2⟩, (Ext.new (Ext.new (Ext.refl _ _) e1 (by intro i hi hk; first | exact hk.elim | ((try dsimp only at hk); (try dsimp only); omega))) e2 (by intro i hi hk; first | exact hk.elim | ((try dsimp only at hk); (try dsimp only); omega)))⟩
    · first
      | exact ⟨[], env20, k, rfl, hs2, .inr ⟨q1, rfl, q2.2⟩, (Ext.new (Ext.new (Ext.refl _ _) e1 (by intro i hi hk; first | exact hk.elim | ((try dsimp only at hk); (try dsimp only); omega))) e2 (by intro i hi hk; first | exact hk.elim | ((try dsimp only at hk); (try dsimp only); omega)))⟩
      | omega
  ·
    refine C.skip ?_
    refine hK7 _ _ ?_
    refine C.seqK fun K11 hK11 => ?_
    refine C.region ?_
    refine O.mv ?_
    refine O.asg ?_
    refine O.asg ?_
    refine O.nil ?_
    refine hK11 _ _ ?_
    refine C.ret ?_
    refine Outs.two rfl rfl rfl ?_
    rcases hcv20 with ⟨q1, q2⟩ | ⟨q1, q2⟩
    · first
      | exact absurd q1 c24
      | exact ⟨nv20, 0, knv20, rfl, hov20, .inl ⟨rfl, q2⟩, (Ext.new (Ext.refl _ _) e1 (by intro i hi hk; first | exact hk.elim | ((try dsimp only at hk); (try dsimp only); omega)))⟩
    · first
      | exact ⟨[], env20, k, rfl, hov20, .inr ⟨q1, rfl, q2.2⟩, (Ext.new (Ext.refl _ _) e1 (by intro i hi hk; first | exact hk.elim | ((try dsimp only at hk); (try dsimp only); omega)))⟩
      | omega

set_option maxHeartbeats 1000000 in
theorem rdStr_spec (b : Nat) (vr : Value) (l : List UInt8) (k : Nat) (F : Nat → Prop) (most : Int) (w : World) (ho : Own w b 152 [.bool true, vr, .int .i64 ((k : Int))]) (hl : Sl byteE w F vr l) (hk : k ≤ l.length) (hF : ∀ j, F j → j ≠ b ∧ j < w.heap.size) (hL : l.length ≤ 1000000) (hmost : InI most) :
    Ret Tryz.prog 124 #[.pointer (some ⟨b, 0, none⟩), .int .i64 (most)] w (fun v w' => ∃ (s : List UInt8) (e : Int) (k' : Nat), v = .tuple #[str s, .int .i64 e] ∧ Own w' b 152 [.bool true, vr, .int .i64 ((k' : Int))] ∧ ((e = 0 ∧ (s.length : Int) ≤ most ∧ Cn.Seg (Cn.strB s) l k k') ∨ (0 < e ∧ k' = k ∧ Cn.No (fun s : List UInt8 => (s.length : Int) ≤ most) Cn.strB l k)) ∧ Ext (fun j => j = b) w w') := by
  have _hF9 := hF
  have _hk9 := hk
  have hbl := ho.lt
  have hll := hl.le
  refine enter (args := [.pointer (some ⟨b, 0, none⟩), .int .i64 (most)]) (n := 11) Tryz.func124 rfl rfl (Nat.le_of_ble_eq_true rfl) ?_
  refine C.seqK fun K1 hK1 => ?_
  refine C.region ?_
  refine O.box (v := .int .i64 (most)) rfl (fun b3 w1 hb3 hz3 e1 => ?_)
  have z1 := e1.size
  have h3 := hz3.own
  have hl3 := h3.lt
  refine O.asg ?_
  refine O.asg ?_
  refine O.nil ?_
  refine hK1 _ _ ?_
  refine C.seqK fun K2 hK2 => ?_
  refine C.region ?_
  refine O.mv ?_
  refine O.makeF (v1 := []) rfl rfl ?_
  refine O.call Tryz.call149 (args2 rfl rfl) (wholeS_spec b vr l k F b3 most _ (ho.keep e1) (hl.keep e1) hk (fun j hj => by have q1 := hF j hj; omega) hL h3 (by omega) hmost) ?_
  rintro v_8 w2 ⟨nv8, env8, knv8, rfl, hov8, hcv8, e2⟩
  have z2 := e2.size
  refine O.extract rfl rfl ?_
  refine O.extract rfl rfl ?_
  refine O.asg ?_
  refine O.asg ?_
  refine O.nil ?_
  refine hK2 _ _ ?_
  refine C.ret ?_
  refine Outs.two rfl rfl rfl ?_
  exact ⟨nv8, env8, knv8, rfl, hov8, hcv8, (Ext.new (Ext.new (Ext.refl _ _) e1 (by intro i hi hk; first | exact hk.elim | ((try dsimp only at hk); (try dsimp only); omega))) e2 (by intro i hi hk; first | exact hk.elim | ((try dsimp only at hk); (try dsimp only); omega)))⟩

theorem rdAt_spec (b : Nat) (vr : Value) (l : List UInt8) (k : Nat) (F : Nat → Prop) (w : World) (ho : Own w b 152 [.bool true, vr, .int .i64 ((k : Int))]) (hl : Sl byteE w F vr l) (hk : k ≤ l.length) (hF : ∀ j, F j → j ≠ b ∧ j < w.heap.size) :
    Ret Tryz.prog 85 #[.pointer (some ⟨b, 0, none⟩)] w (fun v w' => v = .int .i64 (k : Int) ∧ w' = w) := by
  have _hF9 := hF
  have _hk9 := hk
  have hbl := ho.lt
  have hll := hl.le
  refine enter (args := [.pointer (some ⟨b, 0, none⟩)]) (n := 9) Tryz.func85 rfl rfl (Nat.le_of_ble_eq_true rfl) ?_
  refine C.seqK fun K1 hK1 => ?_
  refine C.region ?_
  refine O.asg ?_
  refine O.nil ?_
  refine hK1 _ _ ?_
  refine C.seqK fun K2 hK2 => ?_
  refine C.seqK fun K3 hK3 => ?_
  refine C.region ?_
  refine O.mv ?_
  refine O.call Tryz.call110 (args1 rfl) (zero_spec b vr l _ F _ ho hl (by omega) (fun j hj => by have q1 := hF j hj; omega)) ?_
  rintro v_4 w1 ⟨rfl, hw_⟩
  replace hw_ := hw_.symm
  subst hw_
  refine O.nil ?_
  refine hK3 _ _ ?_
  refine C.condF rfl ?_
  refine C.skip ?_
  refine hK2 _ _ ?_
  refine C.seqK fun K4 hK4 => ?_
  refine C.region ?_
  refine O.mv ?_
  refine O.nilChk rfl ?_
  refine O.fieldAd Tryz.underlying152 rfl Tryz.sizeOf3 (by decide) rfl ?_
  refine O.loadO Tryz.isAgg3 rfl ho rfl ?_
  refine O.asg ?_
  refine O.nil ?_
  refine hK4 _ _ ?_
  refine C.ret ?_
  refine Outs.one rfl rfl ?_
  exact ⟨rfl, rfl⟩

theorem rdLeft_spec (b : Nat) (vr : Value) (l : List UInt8) (k : Nat) (F : Nat → Prop) (w : World) (ho : Own w b 152 [.bool true, vr, .int .i64 ((k : Int))]) (hl : Sl byteE w F vr l) (hk : k ≤ l.length) (hF : ∀ j, F j → j ≠ b ∧ j < w.heap.size) :
    Ret Tryz.prog 122 #[.pointer (some ⟨b, 0, none⟩)] w (fun v w' => v = .int .i64 ((l.length - k : Nat) : Int) ∧ Le w w') := by
  have _hF9 := hF
  have _hk9 := hk
  have hbl := ho.lt
  have hll := hl.le
  refine enter (args := [.pointer (some ⟨b, 0, none⟩)]) (n := 8) Tryz.func122 rfl rfl (Nat.le_of_ble_eq_true rfl) ?_
  refine C.seqK fun K1 hK1 => ?_
  refine C.region ?_
  refine O.asg ?_
  refine O.nil ?_
  refine hK1 _ _ ?_
  refine C.seqK fun K2 hK2 => ?_
  refine C.seqK fun K3 hK3 => ?_
  refine C.region ?_
  refine O.mv ?_
  refine O.call Tryz.call110 (args1 rfl) (zero_spec b vr l _ F _ ho hl (by omega) (fun j hj => by have q1 := hF j hj; omega)) ?_
  rintro v_4 w1 ⟨rfl, hw_⟩
  replace hw_ := hw_.symm
  subst hw_
  refine O.nil ?_
  refine hK3 _ _ ?_
  refine C.condF rfl ?_
  refine C.skip ?_
  refine hK2 _ _ ?_
  refine C.seqK fun K4 hK4 => ?_
  refine C.region ?_
  refine O.mv ?_
  refine O.call Tryz.call146 (args1 rfl) (rest_spec b vr l k F _ ho hl hk (fun j hj => by have q1 := hF j hj; omega)) ?_
  rintro v_6 w1 ⟨e1, h6⟩
  have z1 := e1.size
  refine O.len Tryz.underlying32 rfl h6 ?_
  refine O.cast (v' := .int .i64 ((l.length - k : Nat) : Int)) (congrArg (Value.int .i64) (by rw [List.length_drop])) ?_
  refine O.asg ?_
  refine O.nil ?_
  refine hK4 _ _ ?_
  refine C.ret ?_
  refine Outs.one rfl rfl ?_
  exact ⟨rfl, e1⟩

theorem rdEnd_spec (b : Nat) (vr : Value) (l : List UInt8) (k : Nat) (F : Nat → Prop) (w : World) (ho : Own w b 152 [.bool true, vr, .int .i64 ((k : Int))]) (hl : Sl byteE w F vr l) (hk : k ≤ l.length) (hF : ∀ j, F j → j ≠ b ∧ j < w.heap.size) :
    Ret Tryz.prog 106 #[.pointer (some ⟨b, 0, none⟩)] w (fun v w' => v = .int .i64 (if k < l.length then 12 else 0) ∧ Le w w') := by
  have _hF9 := hF
  have _hk9 := hk
  have hbl := ho.lt
  have hll := hl.le
  refine enter (args := [.pointer (some ⟨b, 0, none⟩)]) (n := 10) Tryz.func106 rfl rfl (Nat.le_of_ble_eq_true rfl) ?_
  refine C.seqK fun K1 hK1 => ?_
  refine C.region ?_
  refine O.asg ?_
  refine O.nil ?_
  refine hK1 _ _ ?_
  refine C.seqK fun K2 hK2 => ?_
  refine C.block fun K3 hK3 => ?_
  refine C.seqK fun K4 hK4 => ?_
  refine C.region ?_
  refine O.mv ?_
  refine O.call Tryz.call110 (args1 rfl) (zero_spec b vr l _ F _ ho hl (by omega) (fun j hj => by have q1 := hF j hj; omega)) ?_
  rintro v_5 w1 ⟨rfl, hw_⟩
  replace hw_ := hw_.symm
  subst hw_
  refine O.asg ?_
  refine O.nil ?_
  refine hK4 _ _ ?_
  refine C.condF rfl ?_
  refine C.seqK fun K5 hK5 => ?_
  refine C.region ?_
  refine O.mv ?_
  refine O.call Tryz.call122 (args1 rfl) (rdLeft_spec b vr l k F _ ho hl hk (fun j hj => by have q1 := hF j hj; omega)) ?_
  rintro v_8 w1 ⟨rfl, e1⟩
  have z1 := e1.size
  refine O.gtrI rfl rfl ?_
  refine O.asg ?_
  refine O.nil ?_
  refine hK5 _ _ ?_
  refine C.condD rfl (fun c6 => ?_) (fun c6 => ?_)
  ·
    refine C.seqK fun K6 hK6 => ?_
    refine C.region ?_
    refine O.asg ?_
    refine O.nil ?_
    refine hK6 _ _ ?_
    refine C.ret ?_
    refine Outs.one rfl rfl ?_
    refine ⟨congrArg (Value.int .i64) ?_, e1⟩
    first
    | rw [if_pos (by omega)]
    | rw [if_neg (by omega)]
  ·
    refine C.skip ?_
    refine hK3 _ _ ?_
    refine hK2 _ _ ?_
    refine C.seqK fun K7 hK7 => ?_
    refine C.region ?_
    refine O.asg ?_
    refine O.nil ?_
    refine hK7 _ _ ?_
    refine C.ret ?_
    refine Outs.one rfl rfl ?_
    refine ⟨congrArg (Value.int .i64) ?_, e1⟩
    first
    | rw [if_pos (by omega)]
    | rw [if_neg (by omega)]

theorem rdNew_spec (v0 : Value) (l : List UInt8) (F : Nat → Prop) (w : World) (hl : Sl byteE w F v0 l) (hL : l.length ≤ 1000000) :
    Ret Tryz.prog 83 #[v0] w (fun v w' => ∃ (b : Nat) (vr : Value), v = .pointer (some ⟨b, 0, none⟩) ∧ Own w' b 152 [.bool true, vr, .int .i64 0] ∧ Sl byteE w' (fun j => w.heap.size ≤ j ∧ j < b) vr l ∧ w.heap.size ≤ b ∧ b < w'.heap.size ∧ Le w w') := by
  obtain ⟨ie5, ti5, ts5, tb5, tz5⟩ := inf5
  refine enter (args := [v0]) (n := 7) Tryz.func83 rfl rfl (Nat.le_of_ble_eq_true rfl) ?_
  refine C.seqK fun K1 hK1 => ?_
  refine C.region ?_
  refine O.asg ?_
  refine O.nil ?_
  refine hK1 _ _ ?_
  refine C.seqK fun K2 hK2 => ?_
  refine C.region ?_
  refine O.mv ?_
  refine O.call Tryz.call61 (args1 rfl) (cloneB_spec _ l _ _ hl (by omega)) ?_
  rintro v_4 w1 ⟨e1, h4⟩
  have z1 := e1.size
  have h4s := h4.sl
  have h4b := h4.bk_ge
  obtain ⟨a4, rfl⟩ := h4s.slv
  refine O.build (cells := #[.bool true, slv a4, .int .i64 0]) rfl (by kernel_rfl) ?_
  refine O.box (v := .agg #[.bool true, slv a4, .int .i64 0]) rfl (fun b6 w2 hb6 hz6 e2 => ?_)
  have z2 := e2.size
  have h6 := hz6.own
  have hl6 := h6.lt
  refine O.asg ?_
  refine O.nil ?_
  refine hK2 _ _ ?_
  refine C.ret ?_
  refine Outs.one rfl rfl ?_
  exact ⟨b6, slv a4, rfl, h6, ((h4s.keep e2)).weak (by intro j hj; have := h4b j hj; omega), by omega, hl6, (Ext.trans e1 e2)⟩

end Go.Proofs.YtnkcmaoaagnopaaGreatDoor
end
section
/-
  The walks that read parts of a cart. Conditions: slices as they lie in memory.
-/
namespace Go.Proofs.YtnkcmaoaagnopaaGreatDoor
open Go.Pn Go.RowKit Go.Proofs
attribute [local irreducible] O C D

theorem Mx.keepM {M : Nat → Prop} {w w' : World} (h : Mx w) (e : Ext M w w') (hM : ¬ M 0) : Mx w' := by obtain ⟨m, hm⟩ := h.h; exact ⟨m, hm.keepM e hM⟩
theorem Mx.lt {w : World} (h : Mx w) : 0 < w.heap.size := by obtain ⟨m, hm⟩ := h.h; exact hm.lt
theorem must_spec (e : Int) (w : World) :
    RetZ Tryz.prog 105 #[.int .i64 (e)] w (fun v w' => v = .tuple #[] ∧ e = 0 ∧ Le w w') (fun ch w' => ch = [{ v := .iface 150 (.agg #[]), recovered := false }] ∧ e ≠ 0 ∧ Le w w') := by
  refine enterZ (args := [.int .i64 (e)]) (n := 6) Tryz.func105 rfl rfl (Nat.le_of_ble_eq_true rfl) ?_
  refine C.seqK fun K1 hK1 => ?_
  refine C.region ?_
  refine O.mv ?_
  refine O.neqI rfl rfl ?_
  refine O.nil ?_
  refine hK1 _ _ ?_
  refine C.condD rfl (fun c3 => ?_) (fun c3 => ?_)
  ·
    refine C.region ?_
    refine O.build (cells := #[]) rfl (by kernel_rfl) ?_
    refine O.mkI Tryz.underlying150 rfl rfl ?_
    refine O.panics rfl ?_
    exact ⟨rfl, c3, (Le.refl _)⟩
  ·
    refine C.skip ?_
    refine Outs.none rfl ?_
    exact ⟨rfl, by omega, (Le.refl _)⟩

theorem num_spec (b : Nat) (vr : Value) (l : List UInt8) (k : Nat) (F : Nat → Prop) (most : BitVec 64) (w : World) (ho : Own w b 152 [.bool true, vr, .int .i64 ((k : Int))]) (hl : Sl byteE w F vr l) (hk : k ≤ l.length) (hF : ∀ j, F j → j ≠ b ∧ j < w.heap.size) (hL : l.length ≤ 1000000) :
    RetZ Tryz.prog 108 #[.pointer (some ⟨b, 0, none⟩), .int .u64 ((most).toNat : Int)] w (fun v w' => ∃ (n : BitVec 64) (k' : Nat), v = .int .u64 (n.toNat : Int) ∧ Own w' b 152 [.bool true, vr, .int .i64 ((k' : Int))] ∧ n.toNat ≤ most.toNat ∧ Cn.SegN n l k k' ∧ Ext (fun j => j = b) w w') (fun ch w' => ch = [{ v := .iface 150 (.agg #[]), recovered := false }] ∧ Cn.NumQ most.toNat l k ∧ Ext (fun j => j = b) w w') := by
  have _hF9 := hF
  have _hk9 := hk
  have hbl := ho.lt
  have hll := hl.le
  refine enterZ (args := [.pointer (some ⟨b, 0, none⟩), .int .u64 ((most).toNat : Int)]) (n := 16) Tryz.func108 rfl rfl (Nat.le_of_ble_eq_true rfl) ?_
  refine C.seqK fun K1 hK1 => ?_
  refine C.region ?_
  refine O.asg ?_
  refine O.nil ?_
  refine hK1 _ _ ?_
  refine C.seqK fun K2 hK2 => ?_
  refine C.region ?_
  refine O.mv ?_
  refine O.mv ?_
  refine O.call Tryz.call123 (args2 rfl rfl) (rdNum_spec b vr l k F most _ ho hl hk (fun j hj => by have q1 := hF j hj; omega) hL) ?_
  rintro v_10 w1 ⟨nv10, env10, knv10, rfl, hov10, hcv10, e1⟩
  have z1 := e1.size
  refine O.mv ?_
  refine O.extract rfl rfl ?_
  refine O.extract rfl rfl ?_
  refine O.asg ?_
  refine O.asg ?_
  refine O.nil ?_
  refine hK2 _ _ ?_
  refine C.seqK fun K3 hK3 => ?_
  refine C.region ?_
  refine O.mv ?_
  refine O.callZ Tryz.call105 (args1 rfl) (must_spec _ _) (fun ch_ wz_ hz_ => ?_) ?_
  ·
    rcases hcv10 with ⟨q1, _⟩ | ⟨q1, q2, q3, q4⟩
    · exact absurd q1 hz_.2.1
    · exact ⟨hz_.1, q4, Ext.trans (Ext.new (Ext.refl _ _) e1 (by intro i hi hk; first | exact hk.elim | ((try dsimp only at hk); (try dsimp only); omega))) (Le.to hz_.2.2)⟩
  rintro v_14 w2 ⟨rfl, hzv14, e2⟩
  have z2 := e2.size
  refine O.nil ?_
  refine hK3 _ _ ?_
  refine C.seqK fun K4 hK4 => ?_
  refine C.region ?_
  refine O.mv ?_
  refine O.asg ?_
  refine O.nil ?_
  refine hK4 _ _ ?_
  refine C.ret ?_
  refine Outs.one rfl rfl ?_
  rcases hcv10 with ⟨q1, q2, q3⟩ | ⟨q1, _⟩
  · exact ⟨nv10, knv10, rfl, (hov10.keep e2), q2, q3, (Ext.new (Ext.new (Ext.refl _ _) e1 (by intro i hi hk; first | exact hk.elim | ((try dsimp only at hk); (try dsimp only); omega))) e2 (by intro i hi hk; first | exact hk.elim | ((try dsimp only at hk); (try dsimp only); omega)))⟩
  · exfalso; omega

theorem one_spec (b : Nat) (vr : Value) (l : List UInt8) (k : Nat) (F : Nat → Prop) (w : World) (ho : Own w b 152 [.bool true, vr, .int .i64 ((k : Int))]) (hl : Sl byteE w F vr l) (hk : k ≤ l.length) (hF : ∀ j, F j → j ≠ b ∧ j < w.heap.size) (hL : l.length ≤ 1000000) :
    RetZ Tryz.prog 125 #[.pointer (some ⟨b, 0, none⟩)] w (fun v w' => ∃ (d : Dt.Dot) (k' : Nat), v = Dt.dv d ∧ Own w' b 152 [.bool true, vr, .int .i64 ((k' : Int))] ∧ Cn.dotQ d ∧ Cn.Seg (Cn.dotB d) l k k' ∧ Ext (fun j => j = b) w w') (fun ch w' => ch = [{ v := .iface 150 (.agg #[]), recovered := false }] ∧ Cn.No Cn.dotQ Cn.dotB l k ∧ Ext (fun j => j = b) w w') := by
  have _hF9 := hF
  have _hk9 := hk
  have hbl := ho.lt
  have hll := hl.le
  refine enterZ (args := [.pointer (some ⟨b, 0, none⟩)]) (n := 12) Tryz.func125 rfl rfl (Nat.le_of_ble_eq_true rfl) ?_
  refine C.seqK fun K1 hK1 => ?_
  refine C.region ?_
  refine O.alloc Tryz.zeroValue51 (fun b2 w1 hb2 hz2 e1 => ?_)
  have z1 := e1.size
  have h2 := hz2.own
  have hl2 := h2.lt
  refine O.nil ?_
  refine hK1 _ _ ?_
  refine C.seqK fun K2 hK2 => ?_
  refine C.region ?_
  refine O.mv ?_
  refine O.callZ Tryz.call108 (args2 rfl rfl) (num_spec b vr l k F 65535#64 _ (ho.keep e1) (hl.keep e1) hk (fun j hj => by have q1 := hF j hj; omega) hL) (fun ch_ wz_ hz_ => ?_) ?_
  ·
    exact ⟨hz_.1, Cn.no_dot1 hz_.2.1, Ext.trans (Ext.new (Ext.refl _ _) e1 (by intro i hi hk; first | exact hk.elim | ((try dsimp only at hk); (try dsimp only); omega))) hz_.2.2⟩
  rintro v_5 w2 ⟨nv5, knv5, rfl, hov5, hqv5, hsv5, e2⟩
  have z2 := e2.size
  refine O.asg ?_
  refine O.nil ?_
  refine hK2 _ _ ?_
  refine C.seqK fun K3 hK3 => ?_
  refine C.region ?_
  refine O.mv ?_
  refine O.convU64I Tryz.underlying49 Tryz.underlying3 rfl ?_
  refine O.mv ?_
  refine O.callZ Tryz.call108 (args2 rfl rfl) (num_spec b vr l knv5 F 4294967295#64 _ hov5 ((hl.keep e1).keepM e2 (by intro k hk h; first | (have q1 := hF k hk; (try dsimp only at h); omega) | ((try dsimp only at hk); (try dsimp only at h); omega))) hsv5.2.2 (fun j hj => by have q1 := hF j hj; omega) hL) (fun ch_ wz_ hz_ => ?_) ?_
  ·
    exact ⟨hz_.1, Cn.no_dot2 hsv5 hqv5 hz_.2.1, Ext.trans (Ext.new (Ext.new (Ext.refl _ _) e1 (by intro i hi hk; first | exact hk.elim | ((try dsimp only at hk); (try dsimp only); omega))) e2 (by intro i hi hk; first | exact hk.elim | ((try dsimp only at hk); (try dsimp only); omega))) hz_.2.2⟩
  rintro v_9 w3 ⟨nv9, knv9, rfl, hov9, hqv9, hsv9, e3⟩
  have z3 := e3.size
  refine O.convU64I Tryz.underlying49 Tryz.underlying3 rfl ?_
  refine O.build (cells := #[.int .i64 nv5.toInt, .int .i64 nv9.toInt]) rfl (by kernel_rfl) ?_
  refine O.storeA (vs := [.int .i64 nv5.toInt, .int .i64 nv9.toInt]) Tryz.sizeOf51 rfl rfl rfl (by simp [Value.oneCell']) ((h2.keepM e2 (by intro h; (try dsimp only at h); omega)).keepM e3 (by intro h; (try dsimp only at h); omega)) (Nat.le_of_ble_eq_true rfl) (fun w4 hs4 e4 z4 => ?_)
  refine O.nil ?_
  refine hK3 _ _ ?_
  refine C.ret ?_
  refine Outs.cellA rfl Tryz.isAgg51 Tryz.sizeOf51 rfl hs4 rfl ?_
  exact ⟨(nv5.toInt, nv9.toInt), knv9, rfl, (hov9.keepM e4 (by intro h; (try dsimp only at h); omega)), Cn.dotQ_mk hqv5 hqv9, Cn.seg_dot hsv5 hsv9, (Ext.new (Ext.new (Ext.new (Ext.new (Ext.refl _ _) e1 (by intro i hi hk; first | exact hk.elim | ((try dsimp only at hk); (try dsimp only); omega))) e2 (by intro i hi hk; first | exact hk.elim | ((try dsimp only at hk); (try dsimp only); omega))) e3 (by intro i hi hk; first | exact hk.elim | ((try dsimp only at hk); (try dsimp only); omega))) e4 (by intro i hi hk; first | exact hk.elim | ((try dsimp only at hk); (try dsimp only); omega)))⟩

set_option maxHeartbeats 1000000 in
theorem ddots_spec (b : Nat) (vr : Value) (l : List UInt8) (k : Nat) (F : Nat → Prop) (w : World) (ho : Own w b 152 [.bool true, vr, .int .i64 ((k : Int))]) (hl : Sl byteE w F vr l) (hk : k ≤ l.length) (hF : ∀ j, F j → j ≠ b ∧ j < w.heap.size) (hL : l.length ≤ 1000000) :
    RetZ Tryz.prog 121 #[.pointer (some ⟨b, 0, none⟩)] w (fun v w' => ∃ (ds : List Dt.Dot) (k' : Nat), Own w' b 152 [.bool true, vr, .int .i64 ((k' : Int))] ∧ Fre Dt.dotF 51 w' (fun j => w.heap.size ≤ j ∧ j < w'.heap.size) v ds ∧ ds.length ≤ l.length ∧ Cn.manyQ Cn.dotQ ds ∧ Cn.Seg (Cn.manyB Cn.dotB ds) l k k' ∧ Ext (fun j => j = b) w w') (fun ch w' => ch = [{ v := .iface 150 (.agg #[]), recovered := false }] ∧ Cn.No (Cn.manyQ Cn.dotQ) (Cn.manyB Cn.dotB) l k ∧ Ext (fun j => j = b) w w') := by
  have _hF9 := hF
  have _hk9 := hk
  have hbl := ho.lt
  have hll := hl.le
  obtain ⟨ie51, ti51, ts51, tb51, tz51⟩ := inf51
  refine enterZ (args := [.pointer (some ⟨b, 0, none⟩)]) (n := 17) Tryz.func121 rfl rfl (Nat.le_of_ble_eq_true rfl) ?_
  refine C.seqK fun K1 hK1 => ?_
  refine C.region ?_
  refine O.asg ?_
  refine O.nil ?_
  refine hK1 _ _ ?_
  refine C.seqK fun K2 hK2 => ?_
  refine C.region ?_
  refine O.asg ?_
  refine O.nil ?_
  refine hK2 _ _ ?_
  refine C.seqK fun K3 hK3 => ?_
  refine C.seqK fun K4 hK4 => ?_
  refine C.region ?_
  refine O.mv ?_
  refine O.callZ Tryz.call108 (args2 rfl rfl) (num_spec b vr l k F 18446744073709551615#64 _ ho hl hk (fun j hj => by have q1 := hF j hj; omega) hL) (fun ch_ wz_ hz_ => ?_) ?_
  ·
    exact ⟨hz_.1, Cn.no_many1 (Cn.numA_of hz_.2.1 (by decide)) Cn.dotB_ge (by omega), Ext.trans (Ext.refl _ _) hz_.2.2⟩
  rintro v_6 w1 ⟨nv6, knv6, rfl, hov6, hqv6, hsv6, e1⟩
  have z1 := e1.size
  refine O.asg ?_
  refine O.nil ?_
  refine hK4 _ _ ?_
  refine C.block fun K5 hK5 => ?_
  refine C.loop0 (σ := List Dt.Dot × Value × Nat) (fun f0 w0 ⟨ds, vs, kc⟩ f wz => f 3 = vs ∧ f 4 = .int .u64 ((BitVec.ofNat 64 (nv6.toNat - ds.length)).toNat : Int) ∧ f 0 = f0 0 ∧ f 2 = f0 2 ∧ Ext (fun j => j = b) w wz ∧ Own wz b 152 [.bool true, vr, .int .i64 ((kc : Int))] ∧ OwnF Dt.dotF 51 w.heap.size wz vs ds ∧ ds.length ≤ nv6.toNat ∧ Cn.manyQ Cn.dotQ ds ∧ Cn.Seg (ds.flatMap Cn.dotB) l knv6 kc) (fun ⟨ds, vs, kc⟩ => nv6.toNat - ds.length) ([], .slice none 0 0, knv6) ?_ ?_
  ·
    refine ⟨rfl, (Eq.trans rfl (congrArg (fun q : BitVec 64 => Value.int .u64 (q.toNat : Int)) (by simp))), rfl, rfl, (Ext.new (Ext.refl _ _) e1 (by intro i hi hk; first | exact hk.elim | ((try dsimp only at hk); (try dsimp only); omega))), hov6, (OwnF.nil _ _ _ _), ?_⟩
    exact ⟨Nat.zero_le _, Cn.manyQ_nil, Cn.Seg.nil hsv6.2.2⟩
  ·
    rintro ⟨ds, vs, kc⟩ f_1 w2 ⟨s3_1, s4_1, s0_1, s2_1, e_1, r0_1, r1_1, ⟨hj, hQ, hS⟩⟩
    have z_1 := e_1.size
    have r1_1s := r1_1.sl
    have hln := Cn.seg_len Cn.dotB_ge hS
    have hNl := nv6.isLt
    refine C.seqK fun K6 hK6 => ?_
    refine C.seqK fun K7 hK7 => ?_
    refine C.region ?_
    refine O.mv ?_
    refine O.gtrU (m := 64) (b := 0#64) s4_1 rfl ?_
    refine O.nil ?_
    refine hK7 _ _ ?_
    refine C.condD rfl (fun c8 => ?_) (fun c8 => ?_)
    ·
      have hj2 : ds.length < nv6.toNat := by have q := (Cn.pos_ofNat (m := nv6.toNat - ds.length) (by omega)).1 c8; omega
      refine C.skip ?_
      refine hK6 _ _ ?_
      refine C.seqK fun K8 hK8 => ?_
      refine C.block fun K9 hK9 => ?_
      refine C.region ?_
      refine O.mv ?_
      refine O.mv ?_
      refine O.callZ Tryz.call125 (args1 s0_1) (one_spec b vr l kc F _ r0_1 (hl.keepM e_1 (by intro k hk h; first | (have q1 := hF k hk; (try dsimp only at h); omega) | ((try dsimp only at hk); (try dsimp only at h); omega))) hS.2.2 (fun j hj => by have q1 := hF j hj; omega) hL) (fun ch_ wz_ hz_ => ?_) ?_
      ·
        exact ⟨hz_.1, Cn.no_many2 hsv6 Cn.pre_dotQ hQ hS hj2 hz_.2.1, Ext.trans (Ext.new (Ext.refl _ _) e_1 (by intro i hi hk; first | exact hk.elim | ((try dsimp only at hk); (try dsimp only); omega))) hz_.2.2⟩
      rintro v_13 w3 ⟨dv13, knv13, rfl, hov13, hqv13, hsv13, e3⟩
      have z3 := e3.size
      refine O.litG (G := Dt.dotF) [dv13] Tryz.underlying22 ti51 ts51 tz51 rfl (by decide) (by decide) rfl (fun b14 w4 hb14 hz14 e4 => ?_)
      have z4 := e4.size
      have h14 := hz14.own
      have hq14 := Sl.litG (n := 1) h14 rfl (by unfold maxLen; omega)
      refine O.appF (G := Dt.dotF) Tryz.underlying22 ti51 tz51 ts51 rfl s3_1 rfl ((r1_1.keepM e3 (fun k hk h => by have := r1_1.bk_ge k hk; (try dsimp only at h); omega)).keep e4) hq14 (by rw [tb51]; simp; omega) (by unfold maxLen; simp; omega) (by omega) (fun v15 w5 h15 e5 => ?_)
      have e5m : Ext (fun j => w.heap.size ≤ j) w4 w5 := e5.mono (fun j _ hj => by have := ((r1_1.keepM e3 (fun k hk h => by have := r1_1.bk_ge k hk; (try dsimp only at h); omega)).keep e4).bk_ge j hj; omega)
      have z5 := e5.size
      have h15s := h15.sl
      refine O.asg ?_
      refine O.nil ?_
      refine hK9 _ _ ?_
      refine hK8 _ _ ?_
      refine C.region ?_
      refine O.mv ?_
      refine O.subU (m := 64) (b := 1#64) rfl rfl s4_1 rfl ?_
      refine O.asg ?_
      refine O.nil ?_
      refine ⟨(ds ++ [dv13], v15, knv13), ⟨rfl, (Eq.trans rfl (congrArg (fun q : BitVec 64 => Value.int .u64 (q.toNat : Int)) (by rw [Cn.dec_ofNat (by omega) (by omega), List.length_append]; rfl))), s0_1, s2_1, (Ext.new (Ext.new (Ext.new (Ext.new (Ext.refl _ _) e_1 (by intro i hi hk; first | exact hk.elim | ((try dsimp only at hk); (try dsimp only); omega))) e3 (by intro i hi hk; first | exact hk.elim | ((try dsimp only at hk); (try dsimp only); omega))) e4 (by intro i hi hk; first | exact hk.elim | ((try dsimp only at hk); (try dsimp only); omega))) e5m (by intro i hi hk; first | exact hk.elim | ((try dsimp only at hk); (try dsimp only); omega))), ((hov13.keep e4).keepM e5 (by intro h; have := ((r1_1.keepM e3 (fun k hk h => by have := r1_1.bk_ge k hk; (try dsimp only at h); omega)).keep e4).bk_ge _ h; omega)), h15, ?_⟩, by show nv6.toNat - (ds ++ [dv13]).length < nv6.toNat - ds.length; rw [List.length_append]; show nv6.toNat - (ds.length + 1) < _; omega⟩
      exact ⟨by rw [List.length_append]; exact hj2, Cn.manyQ_snoc hQ hqv13, Cn.Seg.snoc hS hsv13⟩
    ·
      have hj3 : ds.length = nv6.toNat := by have q := mt (Cn.pos_ofNat (m := nv6.toNat - ds.length) (by omega)).2 c8; omega
      refine C.exit ?_
      refine hK5 _ _ ?_
      refine hK3 _ _ ?_
      refine C.seqK fun K10 hK10 => ?_
      refine C.region ?_
      refine O.mv ?_
      refine O.asg ?_
      refine O.nil ?_
      refine hK10 _ _ ?_
      refine C.ret ?_
      refine Outs.one rfl s3_1 ?_
      exact ⟨ds, kc, r0_1, (r1_1).fre (fun j hj => by have := (r1_1).bk_ge j hj; exact ⟨by omega, by omega⟩), by omega, hQ, Cn.seg_many hsv6 hS hj3, (Ext.new (Ext.refl _ _) e_1 (by intro i hi hk; first | exact hk.elim | ((try dsimp only at hk); (try dsimp only); omega)))⟩

set_option maxHeartbeats 1000000 in
theorem dseen_spec (b : Nat) (vr : Value) (l : List UInt8) (k : Nat) (F : Nat → Prop) (w : World) (ho : Own w b 152 [.bool true, vr, .int .i64 ((k : Int))]) (hl : Sl byteE w F vr l) (hk : k ≤ l.length) (hF : ∀ j, F j → j ≠ b ∧ j < w.heap.size) (hL : l.length ≤ 1000000) :
    RetZ Tryz.prog 104 #[.pointer (some ⟨b, 0, none⟩)] w (fun v w' => ∃ (v1 v2 : Value) (x : Cn.Ctx) (k' : Nat), v = .agg #[v1, v2] ∧ Own w' b 152 [.bool true, vr, .int .i64 ((k' : Int))] ∧ Fre Dt.dotF 51 w' (fun j => w.heap.size ≤ j ∧ j < w'.heap.size) v1 x.1 ∧ Fre Dt.dotF 51 w' (fun j => w.heap.size ≤ j ∧ j < w'.heap.size) v2 x.2 ∧ (x.1.length ≤ l.length ∧ x.2.length ≤ l.length) ∧ Cn.isCompact x = true ∧ Cn.Seg (Cn.ctxB x) l k k' ∧ Ext (fun j => j = b) w w') (fun ch w' => ch = [{ v := .iface 150 (.agg #[]), recovered := false }] ∧ Cn.No Cn.comp Cn.ctxB l k ∧ Ext (fun j => j = b) w w') := by
  have _hF9 := hF
  have _hk9 := hk
  have hbl := ho.lt
  have hll := hl.le
  refine enterZ (args := [.pointer (some ⟨b, 0, none⟩)]) (n := 16) Tryz.func104 rfl rfl (Nat.le_of_ble_eq_true rfl) ?_
  refine C.seqK fun K1 hK1 => ?_
  refine C.region ?_
  refine O.alloc Tryz.zeroValue25 (fun b2 w1 hb2 hz2 e1 => ?_)
  have z1 := e1.size
  have h2 := hz2.own
  have hl2 := h2.lt
  refine O.nil ?_
  refine hK1 _ _ ?_
  refine C.seqK fun K2 hK2 => ?_
  refine C.region ?_
  refine O.mv ?_
  refine O.callZ Tryz.call121 (args1 rfl) (ddots_spec b vr l k F _ (ho.keep e1) (hl.keep e1) hk (fun j hj => by have q1 := hF j hj; omega) hL) (fun ch_ wz_ hz_ => ?_) ?_
  ·
    exact ⟨hz_.1, Cn.no_comp (Cn.no_ctx1 hz_.2.1), Ext.trans (Ext.new (Ext.refl _ _) e1 (by intro i hi hk; first | exact hk.elim | ((try dsimp only at hk); (try dsimp only); omega))) hz_.2.2⟩
  rintro v_5 w2 ⟨dsv5, knv5, hov5, hlv5, hnv5, hqv5, hsv5, e2⟩
  have z2 := e2.size
  obtain ⟨p5, rfl⟩ := hlv5.slv
  have hls5 := hlv5.sl
  refine O.build (cells := #[slv p5, .slice none 0 0]) rfl (by kernel_rfl) ?_
  refine O.alloc Tryz.zeroValue25 (fun b3 w3 hb3 hz3 e3 => ?_)
  have z3 := e3.size
  have h3 := hz3.own
  have hl3 := h3.lt
  refine O.storeA (vs := [slv p5, .slice none 0 0]) Tryz.sizeOf25 rfl rfl rfl (by simp [slv, Value.oneCell']) h3 (Nat.le_of_ble_eq_true rfl) (fun w4 hs4 e4 z4 => ?_)
  refine O.nil ?_
  refine hK2 _ _ ?_
  refine C.seqK fun K3 hK3 => ?_
  refine C.region ?_
  refine O.mv ?_
  refine O.callZ Tryz.call121 (args1 rfl) (ddots_spec b vr l knv5 F _ ((hov5.keep e3).keepM e4 (by intro h; (try dsimp only at h); omega)) ((((hl.keep e1).keepM e2 (by intro k hk h; first | (have q1 := hF k hk; (try dsimp only at h); omega) | ((try dsimp only at hk); (try dsimp only at h); omega))).keep e3).keepM e4 (by intro k hk h; first | (have q1 := hF k hk; (try dsimp only at h); omega) | (have q1 := hF2 k hk; (try dsimp only at h); omega) | (have q1 := hFb k hk; (try dsimp only at h); omega) | ((try dsimp only at hk); (try dsimp only at h); omega))) hsv5.2.2 (fun j hj => by have q1 := hF j hj; omega) hL) (fun ch_ wz_ hz_ => ?_) ?_
  ·
    exact ⟨hz_.1, Cn.no_comp (Cn.no_ctx2 hsv5 hqv5 hz_.2.1), Ext.trans (Ext.new (Ext.new (Ext.new (Ext.new (Ext.refl _ _) e1 (by intro i hi hk; first | exact hk.elim | ((try dsimp only at hk); (try dsimp only); omega))) e2 (by intro i hi hk; first | exact hk.elim | ((try dsimp only at hk); (try dsimp only); omega))) e3 (by intro i hi hk; first | exact hk.elim | ((try dsimp only at hk); (try dsimp only); omega))) e4 (by intro i hi hk; first | exact hk.elim | ((try dsimp only at hk); (try dsimp only); omega))) hz_.2.2⟩
  rintro v_8 w5 ⟨dsv8, knv8, hov8, hlv8, hnv8, hqv8, hsv8, e5⟩
  have z5 := e5.size
  obtain ⟨p8, rfl⟩ := hlv8.slv
  have hls8 := hlv8.sl
  refine O.fieldAd Tryz.underlying25 rfl Tryz.sizeOf22 (by decide) rfl ?_
  refine O.store Tryz.sizeOf22 rfl rfl rfl (hs4.keepM e5 (by intro h; (try dsimp only at h); omega)) (by simp) (fun w6 hs6 e6 z6 => ?_)
  try simp only [Nat.zero_add] at hs6
  refine O.nil ?_
  refine hK3 _ _ ?_
  refine C.seqK fun K4 hK4 => ?_
  refine C.seqK fun K5 hK5 => ?_
  refine C.region ?_
  refine O.loadOA Tryz.isAgg25 Tryz.sizeOf25 rfl hs6 (Nat.le_of_ble_eq_true rfl) ?_
  refine O.call Tryz.call17 (args1 rfl) (isCompact_spec (slv p5) (slv p8) (dsv5, dsv8) (fun _ => True) _ ((((((hls5.keep e3).keepM e4 (by intro k hk h; first | (have q1 := hF k hk; (try dsimp only at h); omega) | (have q1 := hF2 k hk; (try dsimp only at h); omega) | (have q1 := hFb k hk; (try dsimp only at h); omega) | ((try dsimp only at hk); (try dsimp only at h); omega))).keepM e5 (by intro k hk h; first | (have q1 := hF k hk; (try dsimp only at h); omega) | ((try dsimp only at hk); (try dsimp only at h); omega))).keepM e6 (by intro k hk h; first | (have q1 := hF k hk; (try dsimp only at h); omega) | (have q1 := hF2 k hk; (try dsimp only at h); omega) | (have q1 := hFb k hk; (try dsimp only at h); omega) | ((try dsimp only at hk); (try dsimp only at h); omega)))).weak fun _ _ => trivial) (((hls8.keepM e6 (by intro k hk h; first | (have q1 := hF k hk; (try dsimp only at h); omega) | (have q1 := hF2 k hk; (try dsimp only at h); omega) | (have q1 := hFb k hk; (try dsimp only at h); omega) | ((try dsimp only at hk); (try dsimp only at h); omega)))).weak fun _ _ => trivial)) ?_
  rintro v_11 w7 ⟨rfl, e7⟩
  have z7 := e7.size
  refine O.not rfl ?_
  refine O.nil ?_
  refine hK5 _ _ ?_
  refine C.cond rfl (fun c12 => ?_) (fun c12 => ?_)
  ·
    refine C.region ?_
    refine O.build (cells := #[]) rfl (by kernel_rfl) ?_
    refine O.mkI Tryz.underlying150 rfl rfl ?_
    refine O.panics rfl ?_
    exact ⟨rfl, Cn.no_comp3 (Cn.seg_ctx hsv5 hsv8) ⟨hqv5, hqv8⟩ (by simpa using c12), (Ext.new (Ext.new (Ext.new (Ext.new (Ext.new (Ext.new (Ext.new (Ext.refl _ _) e1 (by intro i hi hk; first | exact hk.elim | ((try dsimp only at hk); (try dsimp only); omega))) e2 (by intro i hi hk; first | exact hk.elim | ((try dsimp only at hk); (try dsimp only); omega))) e3 (by intro i hi hk; first | exact hk.elim | ((try dsimp only at hk); (try dsimp only); omega))) e4 (by intro i hi hk; first | exact hk.elim | ((try dsimp only at hk); (try dsimp only); omega))) e5 (by intro i hi hk; first | exact hk.elim | ((try dsimp only at hk); (try dsimp only); omega))) e6 (by intro i hi hk; first | exact hk.elim | ((try dsimp only at hk); (try dsimp only); omega))) e7 (by intro i hi hk; first | exact hk.elim | ((try dsimp only at hk); (try dsimp only); omega)))⟩
  ·
    refine C.skip ?_
    refine hK4 _ _ ?_
    refine C.seqK fun K6 hK6 => ?_
    refine C.region ?_
    refine O.loadOA Tryz.isAgg25 Tryz.sizeOf25 rfl (hs6.keep e7) (Nat.le_of_ble_eq_true rfl) ?_
    refine O.storeA (vs := [slv p5, slv p8]) Tryz.sizeOf25 rfl rfl rfl (by simp [slv, Value.oneCell']) ((((((h2.keepM e2 (by intro h; (try dsimp only at h); omega)).keep e3).keepM e4 (by intro h; (try dsimp only at h); omega)).keepM e5 (by intro h; (try dsimp only at h); omega)).keepM e6 (by intro h; (try dsimp only at h); omega)).keep e7) (Nat.le_of_ble_eq_true rfl) (fun w8 hs8 e8 z8 => ?_)
    refine O.nil ?_
    refine hK6 _ _ ?_
    refine C.ret ?_
    refine Outs.cellA rfl Tryz.isAgg25 Tryz.sizeOf25 rfl hs8 rfl ?_
    exact ⟨slv p5, slv p8, (dsv5, dsv8), knv8, rfl, (((hov8.keepM e6 (by intro h; (try dsimp only at h); omega)).keep e7).keepM e8 (by intro h; (try dsimp only at h); omega)), (((((((hlv5.keep e3).keepM e4 (by intro k hk h; first | (have q1 := hF k hk; (try dsimp only at h); omega) | (have q1 := hF2 k hk; (try dsimp only at h); omega) | (have q1 := hFb k hk; (try dsimp only at h); omega) | ((try dsimp only at hk); (try dsimp only at h); omega))).keepM e5 (by intro k hk h; first | (have q1 := hF k hk; (try dsimp only at h); omega) | ((try dsimp only at hk); (try dsimp only at h); omega))).keepM e6 (by intro k hk h; first | (have q1 := hF k hk; (try dsimp only at h); omega) | (have q1 := hF2 k hk; (try dsimp only at h); omega) | (have q1 := hFb k hk; (try dsimp only at h); omega) | ((try dsimp only at hk); (try dsimp only at h); omega))).keep e7).keepM e8 (by intro k hk h; first | (have q1 := hF k hk; (try dsimp only at h); omega) | (have q1 := hF2 k hk; (try dsimp only at h); omega) | (have q1 := hFb k hk; (try dsimp only at h); omega) | ((try dsimp only at hk); (try dsimp only at h); omega)))).weak (by intro j hj; (try dsimp only at hj); (try dsimp only); omega), ((((hlv8.keepM e6 (by intro k hk h; first | (have q1 := hF k hk; (try dsimp only at h); omega) | (have q1 := hF2 k hk; (try dsimp only at h); omega) | (have q1 := hFb k hk; (try dsimp only at h); omega) | ((try dsimp only at hk); (try dsimp only at h); omega))).keep e7).keepM e8 (by intro k hk h; first | (have q1 := hF k hk; (try dsimp only at h); omega) | (have q1 := hF2 k hk; (try dsimp only at h); omega) | (have q1 := hFb k hk; (try dsimp only at h); omega) | ((try dsimp only at hk); (try dsimp only at h); omega)))).weak (by intro j hj; (try dsimp only at hj); (try dsimp only); omega), ⟨hnv5, hnv8⟩, by simpa using c12, Cn.seg_ctx hsv5 hsv8, (Ext.new (Ext.new (Ext.new (Ext.new (Ext.new (Ext.new (Ext.new (Ext.new (Ext.refl _ _) e1 (by intro i hi hk; first | exact hk.elim | ((try dsimp only at hk); (try dsimp only); omega))) e2 (by intro i hi hk; first | exact hk.elim | ((try dsimp only at hk); (try dsimp only); omega))) e3 (by intro i hi hk; first | exact hk.elim | ((try dsimp only at hk); (try dsimp only); omega))) e4 (by intro i hi hk; first | exact hk.elim | ((try dsimp only at hk); (try dsimp only); omega))) e5 (by intro i hi hk; first | exact hk.elim | ((try dsimp only at hk); (try dsimp only); omega))) e6 (by intro i hi hk; first | exact hk.elim | ((try dsimp only at hk); (try dsimp only); omega))) e7 (by intro i hi hk; first | exact hk.elim | ((try dsimp only at hk); (try dsimp only); omega))) e8 (by intro i hi hk; first | exact hk.elim | ((try dsimp only at hk); (try dsimp only); omega)))⟩

set_option maxHeartbeats 2000000 in
theorem ditem_spec (b : Nat) (vr : Value) (l : List UInt8) (k : Nat) (F : Nat → Prop) (w : World) (ho : Own w b 152 [.bool true, vr, .int .i64 ((k : Int))]) (hl : Sl byteE w F vr l) (hk : k ≤ l.length) (hF : ∀ j, F j → j ≠ b ∧ j < w.heap.size) (hL : l.length ≤ 1000000) :
    RetZ Tryz.prog 109 #[.pointer (some ⟨b, 0, none⟩)] w (fun v w' => ∃ (s : List UInt8) (vm : Value) (ms : List MarkT) (k' : Nat), v = .agg #[str s, vm] ∧ Own w' b 152 [.bool true, vr, .int .i64 ((k' : Int))] ∧ Fre markF 53 w' (fun j => w.heap.size ≤ j ∧ j < w'.heap.size) vm ms ∧ ms.length ≤ l.length ∧ Cn.itemQ (s, ms) ∧ Cn.Seg (Cn.itemB (s, ms)) l k k' ∧ Ext (fun j => j = b) w w') (fun ch w' => ch = [{ v := .iface 150 (.agg #[]), recovered := false }] ∧ Cn.No Cn.itemQ Cn.itemB l k ∧ Ext (fun j => j = b) w w') := by
  have _hF9 := hF
  have _hk9 := hk
  have hbl := ho.lt
  have hll := hl.le
  obtain ⟨ie53, ti53, ts53, tb53, tz53⟩ := inf53
  refine enterZ (args := [.pointer (some ⟨b, 0, none⟩)]) (n := 40) Tryz.func109 rfl rfl (Nat.le_of_ble_eq_true rfl) ?_
  refine C.seqK fun K1 hK1 => ?_
  refine C.region ?_
  refine O.alloc Tryz.zeroValue56 (fun b2 w1 hb2 hz2 e1 => ?_)
  have z1 := e1.size
  have h2 := hz2.own
  have hl2 := h2.lt
  refine O.nil ?_
  refine hK1 _ _ ?_
  refine C.seqK fun K2 hK2 => ?_
  refine C.region ?_
  refine O.mv ?_
  refine O.call Tryz.call124 (args2 rfl rfl) (rdStr_spec b vr l k F 64 _ (ho.keep e1) (hl.keep e1) hk (fun j hj => by have q1 := hF j hj; omega) hL (by unfold InI; omega)) ?_
  rintro v_10 w2 ⟨nv10, env10, knv10, rfl, hov10, hcv10, e2⟩
  have z2 := e2.size
  refine O.mv ?_
  refine O.extract rfl rfl ?_
  refine O.extract rfl rfl ?_
  refine O.asg ?_
  refine O.asg ?_
  refine O.nil ?_
  refine hK2 _ _ ?_
  refine C.seqK fun K3 hK3 => ?_
  refine C.region ?_
  refine O.mv ?_
  refine O.callZ Tryz.call105 (args1 rfl) (must_spec _ _) (fun ch_ wz_ hz_ => ?_) ?_
  ·
    rcases hcv10 with ⟨q1, _⟩ | ⟨q1, q2, q4⟩
    · exact absurd q1 hz_.2.1
    · exact ⟨hz_.1, Cn.no_item1 q4, Ext.trans (Ext.new (Ext.new (Ext.refl _ _) e1 (by intro i hi hk; first | exact hk.elim | ((try dsimp only at hk); (try dsimp only); omega))) e2 (by intro i hi hk; first | exact hk.elim | ((try dsimp only at hk); (try dsimp only); omega))) (Le.to hz_.2.2)⟩
  rintro v_14 w3 ⟨rfl, hzv14, e3⟩
  have z3 := e3.size
  obtain ⟨q1, hnm, hsg10⟩ : env10 = 0 ∧ Cn.nameQ nv10 ∧ Cn.Seg (Cn.strB nv10) l k knv10 := by
    rcases hcv10 with ⟨q1, q2, q3⟩ | ⟨q1, _⟩
    · exact ⟨q1, q2, q3⟩
    · exfalso; omega
  refine O.nil ?_
  refine hK3 _ _ ?_
  refine C.seqK fun K4 hK4 => ?_
  refine C.region ?_
  refine O.mv ?_
  refine O.build (cells := #[str nv10, .slice none 0 0]) rfl (by kernel_rfl) ?_
  refine O.alloc Tryz.zeroValue56 (fun b5 w4 hb5 hz5 e4 => ?_)
  have z4 := e4.size
  have h5 := hz5.own
  have hl5 := h5.lt
  refine O.storeA (vs := [str nv10, .slice none 0 0]) Tryz.sizeOf56 rfl rfl rfl (ones2 rfl) h5 (Nat.le_of_ble_eq_true rfl) (fun w5 hs5 e5 z5 => ?_)
  refine O.nil ?_
  refine hK4 _ _ ?_
  refine C.seqK fun K5 hK5 => ?_
  refine C.seqK fun K6 hK6 => ?_
  refine C.region ?_
  refine O.mv ?_
  refine O.callZ Tryz.call108 (args2 rfl rfl) (num_spec b vr l knv10 F 18446744073709551615#64 _ (((hov10.keep e3).keep e4).keepM e5 (by intro h; (try dsimp only at h); omega)) (((((hl.keep e1).keepM e2 (by intro k hk h; first | (have q1 := hF k hk; (try dsimp only at h); omega) | ((try dsimp only at hk); (try dsimp only at h); omega))).keep e3).keep e4).keepM e5 (by intro k hk h; first | (have q1 := hF k hk; (try dsimp only at h); omega) | (have q1 := hF2 k hk; (try dsimp only at h); omega) | (have q1 := hFb k hk; (try dsimp only at h); omega) | ((try dsimp only at hk); (try dsimp only at h); omega))) hsg10.2.2 (fun j hj => by have q1 := hF j hj; omega) hL) (fun ch_ wz_ hz_ => ?_) ?_
  ·
    exact ⟨hz_.1, Cn.no_item2 hsg10 hnm (Cn.no_many1 (Cn.numA_of hz_.2.1 (by decide)) Cn.markB_ge (by omega)), Ext.trans (Ext.new (Ext.new (Ext.new (Ext.new (Ext.new (Ext.refl _ _) e1 (by intro i hi hk; first | exact hk.elim | ((try dsimp only at hk); (try dsimp only); omega))) e2 (by intro i hi hk; first | exact hk.elim | ((try dsimp only at hk); (try dsimp only); omega))) e3 (by intro i hi hk; first | exact hk.elim | ((try dsimp only at hk); (try dsimp only); omega))) e4 (by intro i hi hk; first | exact hk.elim | ((try dsimp only at hk); (try dsimp only); omega))) e5 (by intro i hi hk; first | exact hk.elim | ((try dsimp only at hk); (try dsimp only); omega))) hz_.2.2⟩
  rintro v_18 w6 ⟨nv18, knv18, rfl, hov18, hqv18, hsv18, e6⟩
  have z6 := e6.size
  refine O.asg ?_
  refine O.nil ?_
  refine hK6 _ _ ?_
  refine C.block fun K7 hK7 => ?_
  refine C.loop0 (σ := List MarkT × Value × Nat) (fun f0 w0 ⟨ms, vm, kc⟩ f wz => f 6 = .int .u64 ((BitVec.ofNat 64 (nv18.toNat - ms.length)).toNat : Int) ∧ f 0 = f0 0 ∧ f 2 = f0 2 ∧ f 5 = f0 5 ∧ Ext (fun j => j = b) w wz ∧ Own wz b 152 [.bool true, vr, .int .i64 ((kc : Int))] ∧ Own wz b2 56 [str [], .slice none 0 0] ∧ Own wz b5 56 [str nv10, vm] ∧ OwnF markF 53 (b5 + 1) wz vm ms ∧ ms.length ≤ nv18.toNat ∧ Cn.manyQ Cn.markQ ms ∧ Cn.Seg (ms.flatMap Cn.markB) l knv18 kc) (fun ⟨ms, vm, kc⟩ => nv18.toNat - ms.length) ([], .slice none 0 0, knv18) ?_ ?_
  ·
    refine ⟨(Eq.trans rfl (congrArg (fun q : BitVec 64 => Value.int .u64 (q.toNat : Int)) (by simp))), rfl, rfl, rfl, (Ext.new (Ext.new (Ext.new (Ext.new (Ext.new (Ext.new (Ext.refl _ _) e1 (by intro i hi hk; first | exact hk.elim | ((try dsimp only at hk); (try dsimp only); omega))) e2 (by intro i hi hk; first | exact hk.elim | ((try dsimp only at hk); (try dsimp only); omega))) e3 (by intro i hi hk; first | exact hk.elim | ((try dsimp only at hk); (try dsimp only); omega))) e4 (by intro i hi hk; first | exact hk.elim | ((try dsimp only at hk); (try dsimp only); omega))) e5 (by intro i hi hk; first | exact hk.elim | ((try dsimp only at hk); (try dsimp only); omega))) e6 (by intro i hi hk; first | exact hk.elim | ((try dsimp only at hk); (try dsimp only); omega))), hov18, (((((h2.keepM e2 (by intro h; (try dsimp only at h); omega)).keep e3).keep e4).keepM e5 (by intro h; (try dsimp only at h); omega)).keepM e6 (by intro h; (try dsimp only at h); omega)), (hs5.keepM e6 (by intro h; (try dsimp only at h); omega)), (OwnF.nil _ _ _ _), ?_⟩
    exact ⟨Nat.zero_le _, Cn.manyQ_nil, Cn.Seg.nil hsv18.2.2⟩
  ·
    rintro ⟨ms, vm, kc⟩ f_1 w7 ⟨s6_1, s0_1, s2_1, s5_1, e_1, r0_1, r1_1, r2_1, r3_1, ⟨hj, hQ, hS⟩⟩
    have z_1 := e_1.size
    have r3_1s := r3_1.sl
    have hln := Cn.seg_len Cn.markB_ge hS
    have hNl := nv18.isLt
    have hvm1 := (r3_1).one
    have hbl5 := (r2_1).lt
    have hbl2 := (r1_1).lt
    refine C.seqK fun K8 hK8 => ?_
    refine C.seqK fun K9 hK9 => ?_
    refine C.region ?_
    refine O.mv ?_
    refine O.gtrU (m := 64) (b := 0#64) s6_1 rfl ?_
    refine O.nil ?_
    refine hK9 _ _ ?_
    refine C.condD rfl (fun c20 => ?_) (fun c20 => ?_)
    ·
      have hj2 : ms.length < nv18.toNat := by have q := (Cn.pos_ofNat (m := nv18.toNat - ms.length) (by omega)).1 c20; omega
      refine C.skip ?_
      refine hK8 _ _ ?_
      refine C.seqK fun K10 hK10 => ?_
      refine C.block fun K11 hK11 => ?_
      refine C.seqK fun K12 hK12 => ?_
      refine C.region ?_
      refine O.mv ?_
      refine O.callZ Tryz.call125 (args1 s0_1) (one_spec b vr l kc F _ r0_1 (hl.keepM e_1 (by intro k hk h; first | (have q1 := hF k hk; (try dsimp only at h); omega) | ((try dsimp only at hk); (try dsimp only at h); omega))) hS.2.2 (fun j hj => by have q1 := hF j hj; omega) hL) (fun ch_ wz_ hz_ => ?_) ?_
      ·
        exact ⟨hz_.1, Cn.no_item2 hsg10 hnm (Cn.no_many2 hsv18 Cn.pre_markQ hQ hS hj2 (Cn.no_mark1 hz_.2.1)), Ext.trans (Ext.new (Ext.refl _ _) e_1 (by intro i hi hk; first | exact hk.elim | ((try dsimp only at hk); (try dsimp only); omega))) hz_.2.2⟩
      rintro v_24 w8 ⟨dv24, knv24, rfl, hov24, hqv24, hsv24, e8⟩
      have z8 := e8.size
      refine O.build (cells := #[.int .i64 dv24.1, .int .i64 dv24.2, .int .i64 0, .int .u64 0]) rfl (by kernel_rfl) ?_
      refine O.alloc Tryz.zeroValue53 (fun b7 w9 hb7 hz7 e9 => ?_)
      have z9 := e9.size
      have h7 := hz7.own
      have hl7 := h7.lt
      refine O.storeA (vs := [.int .i64 dv24.1, .int .i64 dv24.2, .int .i64 0, .int .u64 0]) Tryz.sizeOf53 rfl rfl rfl (by simp [Value.oneCell']) h7 (Nat.le_of_ble_eq_true rfl) (fun w10 hs10 e10 z10 => ?_)
      refine O.nil ?_
      refine hK12 _ _ ?_
      refine C.seqK fun K13 hK13 => ?_
      refine C.region ?_
      refine O.mv ?_
      refine O.callZ Tryz.call108 (args2 s0_1 rfl) (num_spec b vr l knv24 F 2147483647#64 _ ((hov24.keep e9).keepM e10 (by intro h; (try dsimp only at h); omega)) ((((hl.keepM e_1 (by intro k hk h; first | (have q1 := hF k hk; (try dsimp only at h); omega) | ((try dsimp only at hk); (try dsimp only at h); omega))).keepM e8 (by intro k hk h; first | (have q1 := hF k hk; (try dsimp only at h); omega) | ((try dsimp only at hk); (try dsimp only at h); omega))).keep e9).keepM e10 (by intro k hk h; first | (have q1 := hF k hk; (try dsimp only at h); omega) | (have q1 := hF2 k hk; (try dsimp only at h); omega) | (have q1 := hFb k hk; (try dsimp only at h); omega) | ((try dsimp only at hk); (try dsimp only at h); omega))) hsv24.2.2 (fun j hj => by have q1 := hF j hj; omega) hL) (fun ch_ wz_ hz_ => ?_) ?_
      ·
        exact ⟨hz_.1, Cn.no_item2 hsg10 hnm (Cn.no_many2 hsv18 Cn.pre_markQ hQ hS hj2 (Cn.no_mark2 hsv24 hqv24 hz_.2.1)), Ext.trans (Ext.new (Ext.new (Ext.new (Ext.new (Ext.refl _ _) e_1 (by intro i hi hk; first | exact hk.elim | ((try dsimp only at hk); (try dsimp only); omega))) e8 (by intro i hi hk; first | exact hk.elim | ((try dsimp only at hk); (try dsimp only); omega))) e9 (by intro i hi hk; first | exact hk.elim | ((try dsimp only at hk); (try dsimp only); omega))) e10 (by intro i hi hk; first | exact hk.elim | ((try dsimp only at hk); (try dsimp only); omega))) hz_.2.2⟩
      rintro v_27 w11 ⟨nv27, knv27, rfl, hov27, hqv27, hsv27, e11⟩
      have z11 := e11.size
      refine O.convU64I Tryz.underlying49 Tryz.underlying3 rfl ?_
      refine O.fieldAd Tryz.underlying53 rfl Tryz.sizeOf3 (by decide) rfl ?_
      refine O.store Tryz.sizeOf3 rfl rfl rfl (hs10.keepM e11 (by intro h; (try dsimp only at h); omega)) (by simp) (fun w12 hs12 e12 z12 => ?_)
      try simp only [Nat.zero_add] at hs12
      refine O.nil ?_
      refine hK13 _ _ ?_
      refine C.seqK fun K14 hK14 => ?_
      refine C.region ?_
      refine O.mv ?_
      refine O.callZ Tryz.call108 (args2 s0_1 rfl) (num_spec b vr l knv27 F 18446744073709551615#64 _ (hov27.keepM e12 (by intro h; (try dsimp only at h); omega)) ((((((hl.keepM e_1 (by intro k hk h; first | (have q1 := hF k hk; (try dsimp only at h); omega) | ((try dsimp only at hk); (try dsimp only at h); omega))).keepM e8 (by intro k hk h; first | (have q1 := hF k hk; (try dsimp only at h); omega) | ((try dsimp only at hk); (try dsimp only at h); omega))).keep e9).keepM e10 (by intro k hk h; first | (have q1 := hF k hk; (try dsimp only at h); omega) | (have q1 := hF2 k hk; (try dsimp only at h); omega) | (have q1 := hFb k hk; (try dsimp only at h); omega) | ((try dsimp only at hk); (try dsimp only at h); omega))).keepM e11 (by intro k hk h; first | (have q1 := hF k hk; (try dsimp only at h); omega) | ((try dsimp only at hk); (try dsimp only at h); omega))).keepM e12 (by intro k hk h; first | (have q1 := hF k hk; (try dsimp only at h); omega) | (have q1 := hF2 k hk; (try dsimp only at h); omega) | (have q1 := hFb k hk; (try dsimp only at h); omega) | ((try dsimp only at hk); (try dsimp only at h); omega))) hsv27.2.2 (fun j hj => by have q1 := hF j hj; omega) hL) (fun ch_ wz_ hz_ => ?_) ?_
      ·
        exact ⟨hz_.1, Cn.no_item2 hsg10 hnm (Cn.no_many2 hsv18 Cn.pre_markQ hQ hS hj2 (Cn.no_mark3 hsv24 hqv24 hsv27 hqv27 (Cn.numA_of hz_.2.1 (by decide)))), Ext.trans (Ext.new (Ext.new (Ext.new (Ext.new (Ext.new (Ext.new (Ext.refl _ _) e_1 (by intro i hi hk; first | exact hk.elim | ((try dsimp only at hk); (try dsimp only); omega))) e8 (by intro i hi hk; first | exact hk.elim | ((try dsimp only at hk); (try dsimp only); omega))) e9 (by intro i hi hk; first | exact hk.elim | ((try dsimp only at hk); (try dsimp only); omega))) e10 (by intro i hi hk; first | exact hk.elim | ((try dsimp only at hk); (try dsimp only); omega))) e11 (by intro i hi hk; first | exact hk.elim | ((try dsimp only at hk); (try dsimp only); omega))) e12 (by intro i hi hk; first | exact hk.elim | ((try dsimp only at hk); (try dsimp only); omega))) hz_.2.2⟩
      rintro v_31 w13 ⟨nv31, knv31, rfl, hov31, hqv31, hsv31, e13⟩
      have z13 := e13.size
      refine O.fieldAd Tryz.underlying53 rfl Tryz.sizeOf49 (by decide) rfl ?_
      refine O.store Tryz.sizeOf49 rfl rfl rfl (hs12.keepM e13 (by intro h; (try dsimp only at h); omega)) (by simp) (fun w14 hs14 e14 z14 => ?_)
      try simp only [Nat.zero_add] at hs14
      refine O.nil ?_
      refine hK14 _ _ ?_
      refine C.region ?_
      refine O.fieldAd Tryz.underlying56 rfl Tryz.sizeOf54 (by decide) s5_1 ?_
      refine O.loadO Tryz.isAgg54 rfl (((((((r2_1.keepM e8 (by intro h; (try dsimp only at h); omega)).keep e9).keepM e10 (by intro h; (try dsimp only at h); omega)).keepM e11 (by intro h; (try dsimp only at h); omega)).keepM e12 (by intro h; (try dsimp only at h); omega)).keepM e13 (by intro h; (try dsimp only at h); omega)).keepM e14 (by intro h; (try dsimp only at h); omega)) rfl ?_
      refine O.loadOA Tryz.isAgg53 Tryz.sizeOf53 rfl hs14 (Nat.le_of_ble_eq_true rfl) ?_
      refine O.cast (v' := mv (dv24, nv27.toInt, nv31)) rfl ?_
      refine O.litG (G := markF) [(dv24, nv27.toInt, nv31)] Tryz.underlying54 ti53 ts53 tz53 rfl (by decide) (by decide) rfl (fun b36 w15 hb36 hz36 e15 => ?_)
      have z15 := e15.size
      have h36 := hz36.own
      have hq36 := Sl.litG (n := 1) h36 rfl (by unfold maxLen; omega)
      refine O.appF (G := markF) Tryz.underlying54 ti53 tz53 ts53 rfl rfl rfl ((((((((r3_1.keepM e8 (fun k hk h => by have := r3_1.bk_ge k hk; (try dsimp only at h); omega)).keep e9).keepM e10 (fun k hk h => by have := r3_1.bk_ge k hk; (try dsimp only at h); omega)).keepM e11 (fun k hk h => by have := r3_1.bk_ge k hk; (try dsimp only at h); omega)).keepM e12 (fun k hk h => by have := r3_1.bk_ge k hk; (try dsimp only at h); omega)).keepM e13 (fun k hk h => by have := r3_1.bk_ge k hk; (try dsimp only at h); omega)).keepM e14 (fun k hk h => by have := r3_1.bk_ge k hk; (try dsimp only at h); omega)).keep e15) hq36 (by rw [tb53]; simp; omega) (by unfold maxLen; simp; omega) (by omega) (fun v37 w16 h37 e16 => ?_)
      have e16m : Ext (fun j => w.heap.size ≤ j) w15 w16 := e16.mono (fun j _ hj => by have := ((((((((r3_1.keepM e8 (fun k hk h => by have := r3_1.bk_ge k hk; (try dsimp only at h); omega)).keep e9).keepM e10 (fun k hk h => by have := r3_1.bk_ge k hk; (try dsimp only at h); omega)).keepM e11 (fun k hk h => by have := r3_1.bk_ge k hk; (try dsimp only at h); omega)).keepM e12 (fun k hk h => by have := r3_1.bk_ge k hk; (try dsimp only at h); omega)).keepM e13 (fun k hk h => by have := r3_1.bk_ge k hk; (try dsimp only at h); omega)).keepM e14 (fun k hk h => by have := r3_1.bk_ge k hk; (try dsimp only at h); omega)).keep e15).bk_ge j hj; omega)
      have z16 := e16.size
      have h37s := h37.sl
      refine O.fieldAd Tryz.underlying56 rfl Tryz.sizeOf54 (by decide) s5_1 ?_
      refine O.store Tryz.sizeOf54 rfl rfl h37.one (((((((((r2_1.keepM e8 (by intro h; (try dsimp only at h); omega)).keep e9).keepM e10 (by intro h; (try dsimp only at h); omega)).keepM e11 (by intro h; (try dsimp only at h); omega)).keepM e12 (by intro h; (try dsimp only at h); omega)).keepM e13 (by intro h; (try dsimp only at h); omega)).keepM e14 (by intro h; (try dsimp only at h); omega)).keep e15).keepM e16 (by intro h; have := ((((((((r3_1.keepM e8 (fun k hk h => by have := r3_1.bk_ge k hk; (try dsimp only at h); omega)).keep e9).keepM e10 (fun k hk h => by have := r3_1.bk_ge k hk; (try dsimp only at h); omega)).keepM e11 (fun k hk h => by have := r3_1.bk_ge k hk; (try dsimp only at h); omega)).keepM e12 (fun k hk h => by have := r3_1.bk_ge k hk; (try dsimp only at h); omega)).keepM e13 (fun k hk h => by have := r3_1.bk_ge k hk; (try dsimp only at h); omega)).keepM e14 (fun k hk h => by have := r3_1.bk_ge k hk; (try dsimp only at h); omega)).keep e15).bk_ge _ h; omega)) (by simp) (fun w17 hs17 e17 z17 => ?_)
      try simp only [Nat.zero_add] at hs17
      refine O.nil ?_
      refine hK11 _ _ ?_
      refine hK10 _ _ ?_
      refine C.region ?_
      refine O.mv ?_
      refine O.subU (m := 64) (b := 1#64) rfl rfl s6_1 rfl ?_
      refine O.asg ?_
      refine O.nil ?_
      refine ⟨(ms ++ [(dv24, nv27.toInt, nv31)], v37, knv31), ⟨(Eq.trans rfl (congrArg (fun q : BitVec 64 => Value.int .u64 (q.toNat : Int)) (by rw [Cn.dec_ofNat (by omega) (by omega), List.length_append]; rfl))), s0_1, s2_1, s5_1, (Ext.new (Ext.new (Ext.new (Ext.new (Ext.new (Ext.new (Ext.new (Ext.new (Ext.new (Ext.new (Ext.new (Ext.refl _ _) e_1 (by intro i hi hk; first | exact hk.elim | ((try dsimp only at hk); (try dsimp only); omega))) e8 (by intro i hi hk; first | exact hk.elim | ((try dsimp only at hk); (try dsimp only); omega))) e9 (by intro i hi hk; first | exact hk.elim | ((try dsimp only at hk); (try dsimp only); omega))) e10 (by intro i hi hk; first | exact hk.elim | ((try dsimp only at hk); (try dsimp only); omega))) e11 (by intro i hi hk; first | exact hk.elim | ((try dsimp only at hk); (try dsimp only); omega))) e12 (by intro i hi hk; first | exact hk.elim | ((try dsimp only at hk); (try dsimp only); omega))) e13 (by intro i hi hk; first | exact hk.elim | ((try dsimp only at hk); (try dsimp only); omega))) e14 (by intro i hi hk; first | exact hk.elim | ((try dsimp only at hk); (try dsimp only); omega))) e15 (by intro i hi hk; first | exact hk.elim | ((try dsimp only at hk); (try dsimp only); omega))) e16m (by intro i hi hk; first | exact hk.elim | ((try dsimp only at hk); (try dsimp only); omega))) e17 (by intro i hi hk; first | exact hk.elim | ((try dsimp only at hk); (try dsimp only); omega))), ((((hov31.keepM e14 (by intro h; (try dsimp only at h); omega)).keep e15).keepM e16 (by intro h; have := ((((((((r3_1.keepM e8 (fun k hk h => by have := r3_1.bk_ge k hk; (try dsimp only at h); omega)).keep e9).keepM e10 (fun k hk h => by have := r3_1.bk_ge k hk; (try dsimp only at h); omega)).keepM e11 (fun k hk h => by have := r3_1.bk_ge k hk; (try dsimp only at h); omega)).keepM e12 (fun k hk h => by have := r3_1.bk_ge k hk; (try dsimp only at h); omega)).keepM e13 (fun k hk h => by have := r3_1.bk_ge k hk; (try dsimp only at h); omega)).keepM e14 (fun k hk h => by have := r3_1.bk_ge k hk; (try dsimp only at h); omega)).keep e15).bk_ge _ h; omega)).keepM e17 (by intro h; (try dsimp only at h); omega)), ((((((((((r1_1.keepM e8 (by intro h; (try dsimp only at h); omega)).keep e9).keepM e10 (by intro h; (try dsimp only at h); omega)).keepM e11 (by intro h; (try dsimp only at h); omega)).keepM e12 (by intro h; (try dsimp only at h); omega)).keepM e13 (by intro h; (try dsimp only at h); omega)).keepM e14 (by intro h; (try dsimp only at h); omega)).keep e15).keepM e16 (by intro h; have := ((((((((r3_1.keepM e8 (fun k hk h => by have := r3_1.bk_ge k hk; (try dsimp only at h); omega)).keep e9).keepM e10 (fun k hk h => by have := r3_1.bk_ge k hk; (try dsimp only at h); omega)).keepM e11 (fun k hk h => by have := r3_1.bk_ge k hk; (try dsimp only at h); omega)).keepM e12 (fun k hk h => by have := r3_1.bk_ge k hk; (try dsimp only at h); omega)).keepM e13 (fun k hk h => by have := r3_1.bk_ge k hk; (try dsimp only at h); omega)).keepM e14 (fun k hk h => by have := r3_1.bk_ge k hk; (try dsimp only at h); omega)).keep e15).bk_ge _ h; omega)).keepM e17 (by intro h; (try dsimp only at h); omega)), hs17, (h37.keepM e17 (fun k hk h => by have := h37.bk_ge k hk; (try dsimp only at h); omega)), ?_⟩, by show nv18.toNat - (ms ++ [_]).length < nv18.toNat - ms.length; rw [List.length_append]; show nv18.toNat - (ms.length + 1) < _; omega⟩
      exact ⟨by rw [List.length_append]; exact hj2, Cn.manyQ_snoc hQ (Cn.markQ_mk hqv24 hqv27), Cn.Seg.snoc hS (Cn.seg_mark hsv24 hsv27 hsv31)⟩
    ·
      have hj3 : ms.length = nv18.toNat := by have q := mt (Cn.pos_ofNat (m := nv18.toNat - ms.length) (by omega)).2 c20; omega
      refine C.exit ?_
      refine hK7 _ _ ?_
      refine hK5 _ _ ?_
      refine C.seqK fun K15 hK15 => ?_
      refine C.region ?_
      refine O.loadOA Tryz.isAgg56 Tryz.sizeOf56 s5_1 r2_1 (Nat.le_of_ble_eq_true rfl) ?_
      refine O.storeA (vs := [str nv10, vm]) Tryz.sizeOf56 rfl s2_1 rfl (ones2 hvm1) r1_1 (Nat.le_of_ble_eq_true rfl) (fun w18 hs18 e18 z18 => ?_)
      refine O.nil ?_
      refine hK15 _ _ ?_
      refine C.ret ?_
      refine Outs.cellA rfl Tryz.isAgg56 Tryz.sizeOf56 s2_1 hs18 rfl ?_
      exact ⟨nv10, vm, ms, kc, rfl, (r0_1.keepM e18 (by intro h; (try dsimp only at h); omega)), ((r3_1.keepM e18 (fun k hk h => by have := r3_1.bk_ge k hk; (try dsimp only at h); omega))).fre (fun j hj => by have := ((r3_1.keepM e18 (fun k hk h => by have := r3_1.bk_ge k hk; (try dsimp only at h); omega))).bk_ge j hj; exact ⟨by omega, by omega⟩), by omega, Cn.itemQ_mk hnm hQ, Cn.seg_item hsg10 (Cn.seg_many hsv18 hS hj3), (Ext.new (Ext.new (Ext.refl _ _) e_1 (by intro i hi hk; first | exact hk.elim | ((try dsimp only at hk); (try dsimp only); omega))) e18 (by intro i hi hk; first | exact hk.elim | ((try dsimp only at hk); (try dsimp only); omega)))⟩

set_option maxHeartbeats 4000000 in
theorem dwhole_spec (b : Nat) (vr : Value) (l : List UInt8) (k : Nat) (F : Nat → Prop) (w : World) (ho : Own w b 152 [.bool true, vr, .int .i64 ((k : Int))]) (hl : Sl byteE w F vr l) (hk : k ≤ l.length) (hF : ∀ j, F j → j ≠ b ∧ j < w.heap.size) (hL : l.length ≤ 1000000) (mx : Mx w) (hgb : b ≠ 0) :
    RetZ Tryz.prog 84 #[.pointer (some ⟨b, 0, none⟩)] w (fun v w' => ∃ (v1 v2 v3 : Value) (c : Cn.Cart) (k' : Nat), v = .agg #[v1, v2, v3] ∧ Own w' b 152 [.bool true, vr, .int .i64 ((k' : Int))] ∧ Fre Dt.dotF 51 w' (fun j => w.heap.size ≤ j ∧ j < w'.heap.size) v1 c.1.1 ∧ Fre Dt.dotF 51 w' (fun j => w.heap.size ≤ j ∧ j < w'.heap.size) v2 c.1.2 ∧ SlI 56 53 w' (fun j => w.heap.size ≤ j ∧ j < w'.heap.size) v3 c.2 ∧ Cn.big c ∧ Cn.valid c = true ∧ Cn.Seg (Cn.bytes c) l k k' ∧ Ext (fun j => j = b) w w') (fun ch w' => ch = [{ v := .iface 150 (.agg #[]), recovered := false }] ∧ Cn.No Cn.val Cn.bytes l k ∧ Ext (fun j => j = b) w w') := by
  have _hF9 := hF
  have _hk9 := hk
  have hbl := ho.lt
  have hll := hl.le
  obtain ⟨ie56, ti56, ts56, tb56, tz56⟩ := inf56
  have hgl := mx.lt
  refine enterZ (args := [.pointer (some ⟨b, 0, none⟩)]) (n := 27) Tryz.func84 rfl rfl (Nat.le_of_ble_eq_true rfl) ?_
  refine C.seqK fun K1 hK1 => ?_
  refine C.region ?_
  refine O.alloc Tryz.zeroValue28 (fun b2 w1 hb2 hz2 e1 => ?_)
  have z1 := e1.size
  have h2 := hz2.own
  have hl2 := h2.lt
  refine O.nil ?_
  refine hK1 _ _ ?_
  refine C.seqK fun K2 hK2 => ?_
  refine C.region ?_
  refine O.mv ?_
  refine O.callZ Tryz.call104 (args1 rfl) (dseen_spec b vr l k F _ (ho.keep e1) (hl.keep e1) hk (fun j hj => by have q1 := hF j hj; omega) hL) (fun ch_ wz_ hz_ => ?_) ?_
  ·
    exact ⟨hz_.1, Cn.no_val (Cn.no_cart1 hz_.2.1), Ext.trans (Ext.new (Ext.refl _ _) e1 (by intro i hi hk; first | exact hk.elim | ((try dsimp only at hk); (try dsimp only); omega))) hz_.2.2⟩
  rintro v_6 w2 ⟨vav6, vbv6, xv6, knv6, rfl, hov6, hxv6, hyv6, hnv6, hcv6, hsv6, e2⟩
  have z2 := e2.size
  obtain ⟨p6, rfl⟩ := hxv6.slv
  obtain ⟨q6, rfl⟩ := hyv6.slv
  have hxs6 := hxv6.sl
  have hys6 := hyv6.sl
  refine O.build (cells := #[slv p6, slv q6, .slice none 0 0]) rfl (by kernel_rfl) ?_
  refine O.alloc Tryz.zeroValue28 (fun b3 w3 hb3 hz3 e3 => ?_)
  have z3 := e3.size
  have h3 := hz3.own
  have hl3 := h3.lt
  refine O.storeA (vs := [slv p6, slv q6, .slice none 0 0]) Tryz.sizeOf28 rfl rfl rfl (by simp [slv, Value.oneCell']) h3 (Nat.le_of_ble_eq_true rfl) (fun w4 hs4 e4 z4 => ?_)
  refine O.nil ?_
  refine hK2 _ _ ?_
  refine C.seqK fun K3 hK3 => ?_
  refine C.seqK fun K4 hK4 => ?_
  refine C.region ?_
  refine O.mv ?_
  refine O.callZ Tryz.call108 (args2 rfl rfl) (num_spec b vr l knv6 F 18446744073709551615#64 _ ((hov6.keep e3).keepM e4 (by intro h; (try dsimp only at h); omega)) ((((hl.keep e1).keepM e2 (by intro k hk h; first | (have q1 := hF k hk; (try dsimp only at h); omega) | ((try dsimp only at hk); (try dsimp only at h); omega))).keep e3).keepM e4 (by intro k hk h; first | (have q1 := hF k hk; (try dsimp only at h); omega) | (have q1 := hF2 k hk; (try dsimp only at h); omega) | (have q1 := hFb k hk; (try dsimp only at h); omega) | ((try dsimp only at hk); (try dsimp only at h); omega))) hsv6.2.2 (fun j hj => by have q1 := hF j hj; omega) hL) (fun ch_ wz_ hz_ => ?_) ?_
  ·
    exact ⟨hz_.1, Cn.no_val (Cn.no_cart2 hsv6 hcv6 (Cn.no_many1 (Cn.numA_of hz_.2.1 (by decide)) Cn.itemB_ge (by omega))), Ext.trans (Ext.new (Ext.new (Ext.new (Ext.new (Ext.refl _ _) e1 (by intro i hi hk; first | exact hk.elim | ((try dsimp only at hk); (try dsimp only); omega))) e2 (by intro i hi hk; first | exact hk.elim | ((try dsimp only at hk); (try dsimp only); omega))) e3 (by intro i hi hk; first | exact hk.elim | ((try dsimp only at hk); (try dsimp only); omega))) e4 (by intro i hi hk; first | exact hk.elim | ((try dsimp only at hk); (try dsimp only); omega))) hz_.2.2⟩
  rintro v_9 w5 ⟨nv9, knv9, rfl, hov9, hqv9, hsv9, e5⟩
  have z5 := e5.size
  refine O.asg ?_
  refine O.nil ?_
  refine hK4 _ _ ?_
  refine C.block fun K5 hK5 => ?_
  refine C.loop0 (σ := List ItemT × List (List UInt8 × (Option Addr × Nat × Nat)) × Value × Nat) (fun f0 w0 ⟨its, raw, o, kc⟩ f wz => f 4 = .int .u64 ((BitVec.ofNat 64 (nv9.toNat - its.length)).toNat : Int) ∧ f 0 = f0 0 ∧ f 2 = f0 2 ∧ f 3 = f0 3 ∧ Ext (fun j => j = b) w wz ∧ Own wz b 152 [.bool true, vr, .int .i64 ((kc : Int))] ∧ Own wz b2 28 [.slice none 0 0, .slice none 0 0, .slice none 0 0] ∧ Own wz b3 28 [slv p6, slv q6, o] ∧ OwnF itemF 56 (b3 + 1) wz o raw ∧ ItemsF 53 wz (fun j => b3 < j ∧ j < wz.heap.size ∧ ¬ bk o j) raw its ∧ Sl Dt.dotF.enc wz (fun j => b2 < j ∧ j < b3) (slv p6) xv6.1 ∧ Sl Dt.dotF.enc wz (fun j => b2 < j ∧ j < b3) (slv q6) xv6.2 ∧ Fre Dt.dotF 51 wz (fun j => b2 < j ∧ j < b3) (slv p6) xv6.1 ∧ Fre Dt.dotF 51 wz (fun j => b2 < j ∧ j < b3) (slv q6) xv6.2 ∧ its.length ≤ nv9.toNat ∧ Cn.manyQ Cn.itemQ its ∧ (∀ x ∈ its, x.2.length ≤ 1000000) ∧ Cn.Seg (its.flatMap Cn.itemB) l knv9 kc) (fun ⟨its, raw, o, kc⟩ => nv9.toNat - its.length) ([], [], .slice none 0 0, knv9) ?_ ?_
  ·
    refine ⟨(Eq.trans rfl (congrArg (fun q : BitVec 64 => Value.int .u64 (q.toNat : Int)) (by simp))), rfl, rfl, rfl, (Ext.new (Ext.new (Ext.new (Ext.new (Ext.new (Ext.refl _ _) e1 (by intro i hi hk; first | exact hk.elim | ((try dsimp only at hk); (try dsimp only); omega))) e2 (by intro i hi hk; first | exact hk.elim | ((try dsimp only at hk); (try dsimp only); omega))) e3 (by intro i hi hk; first | exact hk.elim | ((try dsimp only at hk); (try dsimp only); omega))) e4 (by intro i hi hk; first | exact hk.elim | ((try dsimp only at hk); (try dsimp only); omega))) e5 (by intro i hi hk; first | exact hk.elim | ((try dsimp only at hk); (try dsimp only); omega))), hov9, ((((h2.keepM e2 (by intro h; (try dsimp only at h); omega)).keep e3).keepM e4 (by intro h; (try dsimp only at h); omega)).keepM e5 (by intro h; (try dsimp only at h); omega)), (hs4.keepM e5 (by intro h; (try dsimp only at h); omega)), (OwnF.nil _ _ _ _), ItemsF.nil, (((((hxs6.keep e3).keepM e4 (by intro k hk h; first | (have q1 := hF k hk; (try dsimp only at h); omega) | (have q1 := hF2 k hk; (try dsimp only at h); omega) | (have q1 := hFb k hk; (try dsimp only at h); omega) | ((try dsimp only at hk); (try dsimp only at h); omega))).keepM e5 (by intro k hk h; first | (have q1 := hF k hk; (try dsimp only at h); omega) | ((try dsimp only at hk); (try dsimp only at h); omega)))).weak (by intro j hj; (try dsimp only at hj); (try dsimp only); omega)), (((((hys6.keep e3).keepM e4 (by intro k hk h; first | (have q1 := hF k hk; (try dsimp only at h); omega) | (have q1 := hF2 k hk; (try dsimp only at h); omega) | (have q1 := hFb k hk; (try dsimp only at h); omega) | ((try dsimp only at hk); (try dsimp only at h); omega))).keepM e5 (by intro k hk h; first | (have q1 := hF k hk; (try dsimp only at h); omega) | ((try dsimp only at hk); (try dsimp only at h); omega)))).weak (by intro j hj; (try dsimp only at hj); (try dsimp only); omega)), (((((hxv6.keep e3).keepM e4 (by intro k hk h; first | (have q1 := hF k hk; (try dsimp only at h); omega) | (have q1 := hF2 k hk; (try dsimp only at h); omega) | (have q1 := hFb k hk; (try dsimp only at h); omega) | ((try dsimp only at hk); (try dsimp only at h); omega))).keepM e5 (by intro k hk h; first | (have q1 := hF k hk; (try dsimp only at h); omega) | ((try dsimp only at hk); (try dsimp only at h); omega)))).weak (by intro j hj; (try dsimp only at hj); (try dsimp only); omega)), (((((hyv6.keep e3).keepM e4 (by intro k hk h; first | (have q1 := hF k hk; (try dsimp only at h); omega) | (have q1 := hF2 k hk; (try dsimp only at h); omega) | (have q1 := hFb k hk; (try dsimp only at h); omega) | ((try dsimp only at hk); (try dsimp only at h); omega))).keepM e5 (by intro k hk h; first | (have q1 := hF k hk; (try dsimp only at h); omega) | ((try dsimp only at hk); (try dsimp only at h); omega)))).weak (by intro j hj; (try dsimp only at hj); (try dsimp only); omega)), ?_⟩
    exact ⟨Nat.zero_le _, Cn.manyQ_nil, Cn.manyQ_nil, Cn.Seg.nil hsv9.2.2⟩
  ·
    rintro ⟨its, raw, o, kc⟩ f_1 w6 ⟨s4_1, s0_1, s2_1, s3_1, e_1, r0_1, r1_1, r2_1, r3_1, r4_1, r5_1, r6_1, r7_1, r8_1, ⟨hj, hQ, hI, hS⟩⟩
    have z_1 := e_1.size
    have r3_1s := r3_1.sl
    obtain ⟨wL, hwL⟩ : ∃ x, x = w6 := ⟨_, rfl⟩
    have hzL : wL.heap.size = w6.heap.size := by rw [hwL]
    have hln := Cn.seg_len Cn.itemB_ge hS
    have hNl := nv9.isLt
    have ho1 := (r3_1).one
    have hbl3 := (r2_1).lt
    have hbl2 := (r1_1).lt
    have hit := r4_1
    have hitl := hit.1
    have hob := (r3_1).bk_ge
    refine C.seqK fun K6 hK6 => ?_
    refine C.seqK fun K7 hK7 => ?_
    refine C.region ?_
    refine O.mv ?_
    refine O.gtrU (m := 64) (b := 0#64) s4_1 rfl ?_
    refine O.nil ?_
    refine hK7 _ _ ?_
    refine C.condD rfl (fun c11 => ?_) (fun c11 => ?_)
    ·
      have hj2 : its.length < nv9.toNat := by have q := (Cn.pos_ofNat (m := nv9.toNat - its.length) (by omega)).1 c11; omega
      refine C.skip ?_
      refine hK6 _ _ ?_
      refine C.seqK fun K8 hK8 => ?_
      refine C.block fun K9 hK9 => ?_
      refine C.drawB (wB := (bare w6)) (by kernel_rfl) fun w7 e7 => ?_
      have z7 := e7.size
      refine D.take (i := 0) rfl rfl rfl rfl (by kernel_rfl) (Ext.bare (Ext.new (Ext.refl (fun _ => True) _) e7 (fun _ _ _ => trivial))) ⟨_, rfl⟩ (fun w_ hw_ N_ hN => (O.fieldAd Tryz.underlying28 rfl Tryz.sizeOf26 (by decide) s3_1 (O.nil hN))) ?_
      refine D.take (i := 2) rfl rfl rfl rfl (by kernel_rfl) (Ext.bare (Ext.new (Ext.refl (fun _ => True) _) e7 (fun _ _ _ => trivial))) ⟨pure _, rfl⟩ (fun w_ hw_ N_ hN => (O.mv (O.nil hN))) ?_
      refine D.many [1, 3] (by kernel_rfl) (by decide) ⟨?_, ?_, trivial⟩
      ·
        refine D.stepU rfl rfl ?_
        refine O.loadO Tryz.isAgg26 rfl (r2_1.keep e7) rfl ?_
        refine O.nil ⟨(Ext.bare (Ext.new (Ext.refl (fun _ => True) _) e7 (fun _ _ _ => trivial))), ?_⟩
        refine D.one (i := 3) rfl rfl (by kernel_rfl) ?_
        refine O.callZ Tryz.call109 (args1 s0_1) (ditem_spec b vr l kc F _ (r0_1.keep e7) ((hl.keepM e_1 (by intro k hk h; first | (have q1 := hF k hk; (try dsimp only at h); omega) | ((try dsimp only at hk); (try dsimp only at h); omega))).keep e7) hS.2.2 (fun j hj => by have q1 := hF j hj; omega) hL) (fun ch_ wz_ hz_ => ?_) ?_
        ·
          exact ⟨hz_.1, Cn.no_val (Cn.no_cart2 hsv6 hcv6 (Cn.no_many2 hsv9 Cn.pre_itemQ hQ hS hj2 hz_.2.1)), Ext.trans (Ext.new (Ext.new (Ext.refl _ _) e_1 (by intro i hi hk; first | exact hk.elim | ((try dsimp only at hk); (try dsimp only); omega))) e7 (by intro i hi hk; first | exact hk.elim | ((try dsimp only at hk); (try dsimp only); omega))) hz_.2.2⟩
        rintro v_17 w8 ⟨sv17, vmv17, msv17, knv17, rfl, hov17, hmv17, hnv17, hqv17, hsv17, e8⟩
        have z8 := e8.size
        refine O.nil ⟨(Ext.bare (Ext.new (Ext.new (Ext.refl (fun _ => True) _) e7 (fun _ _ _ => trivial)) e8 (fun _ _ _ => trivial))), ?_⟩
        obtain ⟨p17, rfl⟩ := hmv17.slv
        refine D.one (i := 4) rfl rfl (by kernel_rfl) ?_
        refine O.litG (G := itemF) [(sv17, p17)] Tryz.underlying26 ti56 ts56 tz56 rfl (by decide) (by decide) rfl (fun b18 w9 hb18 hz18 e9 => ?_)
        have z9 := e9.size
        have h18 := hz18.own
        have hq18 := Sl.litG (n := 1) h18 rfl (by unfold maxLen; omega)
        refine O.nil ⟨(Ext.bare (Ext.new (Ext.new (Ext.new (Ext.refl (fun _ => True) _) e7 (fun _ _ _ => trivial)) e8 (fun _ _ _ => trivial)) e9 (fun _ _ _ => trivial))), ?_⟩
        refine D.one (i := 5) rfl rfl (by kernel_rfl) ?_
        refine O.appW (G := itemF) Tryz.underlying26 ti56 tz56 ts56 rfl rfl rfl (((r3_1.keep e7).keepM e8 (fun k hk h => by have := r3_1.bk_ge k hk; (try dsimp only at h); omega)).keep e9) hq18 (by rw [tb56, hit.1]; simp; omega) (by unfold maxLen; rw [hit.1]; simp; omega) (by omega) (fun v19 w10 h19 e10 hw19 => ?_)
        have e10m : Ext (fun j => w.heap.size ≤ j) w9 w10 := e10.mono (fun j _ hj => by have := (((r3_1.keep e7).keepM e8 (fun k hk h => by have := r3_1.bk_ge k hk; (try dsimp only at h); omega)).keep e9).bk_ge j hj; omega)
        have z10 := e10.size
        have h19s := h19.sl
        refine O.nil ⟨(Ext.bare (Ext.new (Ext.new (Ext.new (Ext.new (Ext.refl (fun _ => True) _) e7 (fun _ _ _ => trivial)) e8 (fun _ _ _ => trivial)) e9 (fun _ _ _ => trivial)) e10 (fun _ _ _ => trivial))), ?_⟩
        have hit19 : ItemsF 53 w10 (fun j => b3 < j ∧ j < w10.heap.size ∧ ¬ bk v19 j) (raw ++ [(sv17, p17)]) (its ++ [(sv17, msv17)]) := ((((((r4_1.keep e7).keepM e8 (by intro k hk h; first | (have q1 := hF k hk; (try dsimp only at h); omega) | ((try dsimp only at hk); (try dsimp only at h); omega))).keep e9).keepM e10 (fun j hj h => hj.2.2 h))).weak (fun j hj => ⟨hj.1, by have := hj.2.1; omega, fun hq => by
          rcases hw19 j hq with q | q
          · exact hj.2.2 q
          · have := hj.2.1; omega⟩)).snoc (x := (sv17, msv17)) rfl ((((hmv17.keep e9).keepM e10 (by intro j hj h; have q2 := hob j h; (try dsimp only at hj); omega))).weak (by
          intro j hj
          (try dsimp only at hj)
          refine ⟨by omega, by omega, fun hq => ?_⟩
          rcases hw19 j hq with q | q
          · have := hob j q; omega
          · omega))
        refine D.take (i := 6) rfl rfl rfl rfl (by kernel_rfl) (Ext.bare (Ext.new (Ext.new (Ext.new (Ext.new (Ext.refl (fun _ => True) _) e7 (fun _ _ _ => trivial)) e8 (fun _ _ _ => trivial)) e9 (fun _ _ _ => trivial)) e10 (fun _ _ _ => trivial))) ⟨_, rfl⟩ (fun w_ hw_ N_ hN => (O.fieldAd Tryz.underlying28 rfl Tryz.sizeOf26 (by decide) s3_1 (O.nil hN))) ?_
        refine D.one (i := 7) rfl rfl (by kernel_rfl) ?_
        refine O.store Tryz.sizeOf26 rfl rfl h19.one ((((r2_1.keep e7).keepM e8 (by intro h; (try dsimp only at h); omega)).keep e9).keepM e10 (by intro h; have := (((r3_1.keep e7).keepM e8 (fun k hk h => by have := r3_1.bk_ge k hk; (try dsimp only at h); omega)).keep e9).bk_ge _ h; omega)) (by simp) (fun w11 hs11 e11 z11 => ?_)
        try simp only [Nat.zero_add] at hs11
        refine O.nil ⟨(Ext.bare (Ext.new (Ext.new (Ext.new (Ext.new (Ext.new (Ext.refl (fun _ => True) _) e7 (fun _ _ _ => trivial)) e8 (fun _ _ _ => trivial)) e9 (fun _ _ _ => trivial)) e10 (fun _ _ _ => trivial)) e11 (fun _ _ _ => trivial))), ?_⟩
        refine D.done (by kernel_rfl) ?_
        refine hK9 _ _ ?_
        refine hK8 _ _ ?_
        refine C.region ?_
        refine O.mv ?_
        refine O.subU (m := 64) (b := 1#64) rfl rfl s4_1 rfl ?_
        refine O.asg ?_
        refine O.nil ?_
        refine ⟨(its ++ [(sv17, msv17)], raw ++ [(sv17, p17)], v19, knv17), ⟨(Eq.trans rfl (congrArg (fun q : BitVec 64 => Value.int .u64 (q.toNat : Int)) (by rw [Cn.dec_ofNat (by omega) (by omega), List.length_append]; rfl))), s0_1, s2_1, s3_1, (Ext.new (Ext.new (Ext.new (Ext.new (Ext.new (Ext.new (Ext.refl _ _) e_1 (by intro i hi hk; first | exact hk.elim | ((try dsimp only at hk); (try dsimp only); omega))) e7 (by intro i hi hk; first | exact hk.elim | ((try dsimp only at hk); (try dsimp only); omega))) e8 (by intro i hi hk; first | exact hk.elim | ((try dsimp only at hk); (try dsimp only); omega))) e9 (by intro i hi hk; first | exact hk.elim | ((try dsimp only at hk); (try dsimp only); omega))) e10m (by intro i hi hk; first | exact hk.elim | ((try dsimp only at hk); (try dsimp only); omega))) e11 (by intro i hi hk; first | exact hk.elim | ((try dsimp only at hk); (try dsimp only); omega))), (((hov17.keep e9).keepM e10 (by intro h; have := (((r3_1.keep e7).keepM e8 (fun k hk h => by have := r3_1.bk_ge k hk; (try dsimp only at h); omega)).keep e9).bk_ge _ h; omega)).keepM e11 (by intro h; (try dsimp only at h); omega)), (((((r1_1.keep e7).keepM e8 (by intro h; (try dsimp only at h); omega)).keep e9).keepM e10 (by intro h; have := (((r3_1.keep e7).keepM e8 (fun k hk h => by have := r3_1.bk_ge k hk; (try dsimp only at h); omega)).keep e9).bk_ge _ h; omega)).keepM e11 (by intro h; (try dsimp only at h); omega)), hs11, (h19.keepM e11 (fun k hk h => by have := h19.bk_ge k hk; (try dsimp only at h); omega)), (((hit19.keepM e11 (by intro k hk h; first | (have q1 := hF k hk; (try dsimp only at h); omega) | (have q1 := hF2 k hk; (try dsimp only at h); omega) | (have q1 := hFb k hk; (try dsimp only at h); omega) | ((try dsimp only at hk); (try dsimp only at h); omega)))).weak (fun j hj => ⟨hj.1, by have := hj.2.1; omega, hj.2.2⟩)), (((((r5_1.keep e7).keepM e8 (by intro k hk h; first | (have q1 := hF k hk; (try dsimp only at h); omega) | ((try dsimp only at hk); (try dsimp only at h); omega))).keep e9).keepM e10 (by intro j hj h; have q2 := (((r3_1.keep e7).keepM e8 (fun k hk h => by have := r3_1.bk_ge k hk; (try dsimp only at h); omega)).keep e9).bk_ge j h; first | (have q1 := hF j hj; omega) | ((try dsimp only at hj); omega))).keepM e11 (by intro k hk h; first | (have q1 := hF k hk; (try dsimp only at h); omega) | (have q1 := hF2 k hk; (try dsimp only at h); omega) | (have q1 := hFb k hk; (try dsimp only at h); omega) | ((try dsimp only at hk); (try dsimp only at h); omega))), (((((r6_1.keep e7).keepM e8 (by intro k hk h; first | (have q1 := hF k hk; (try dsimp only at h); omega) | ((try dsimp only at hk); (try dsimp only at h); omega))).keep e9).keepM e10 (by intro j hj h; have q2 := (((r3_1.keep e7).keepM e8 (fun k hk h => by have := r3_1.bk_ge k hk; (try dsimp only at h); omega)).keep e9).bk_ge j h; first | (have q1 := hF j hj; omega) | ((try dsimp only at hj); omega))).keepM e11 (by intro k hk h; first | (have q1 := hF k hk; (try dsimp only at h); omega) | (have q1 := hF2 k hk; (try dsimp only at h); omega) | (have q1 := hFb k hk; (try dsimp only at h); omega) | ((try dsimp only at hk); (try dsimp only at h); omega))), (((((r7_1.keep e7).keepM e8 (by intro k hk h; first | (have q1 := hF k hk; (try dsimp only at h); omega) | ((try dsimp only at hk); (try dsimp only at h); omega))).keep e9).keepM e10 (by intro j hj h; have q2 := (((r3_1.keep e7).keepM e8 (fun k hk h => by have := r3_1.bk_ge k hk; (try dsimp only at h); omega)).keep e9).bk_ge j h; first | (have q1 := hF j hj; omega) | ((try dsimp only at hj); omega))).keepM e11 (by intro k hk h; first | (have q1 := hF k hk; (try dsimp only at h); omega) | (have q1 := hF2 k hk; (try dsimp only at h); omega) | (have q1 := hFb k hk; (try dsimp only at h); omega) | ((try dsimp only at hk); (try dsimp only at h); omega))), (((((r8_1.keep e7).keepM e8 (by intro k hk h; first | (have q1 := hF k hk; (try dsimp only at h); omega) | ((try dsimp only at hk); (try dsimp only at h); omega))).keep e9).keepM e10 (by intro j hj h; have q2 := (((r3_1.keep e7).keepM e8 (fun k hk h => by have := r3_1.bk_ge k hk; (try dsimp only at h); omega)).keep e9).bk_ge j h; first | (have q1 := hF j hj; omega) | ((try dsimp only at hj); omega))).keepM e11 (by intro k hk h; first | (have q1 := hF k hk; (try dsimp only at h); omega) | (have q1 := hF2 k hk; (try dsimp only at h); omega) | (have q1 := hFb k hk; (try dsimp only at h); omega) | ((try dsimp only at hk); (try dsimp only at h); omega))), ?_⟩, by show nv9.toNat - (its ++ [_]).length < nv9.toNat - its.length; rw [List.length_append]; show nv9.toNat - (its.length + 1) < _; omega⟩
        exact ⟨by rw [List.length_append]; exact hj2, Cn.manyQ_snoc hQ hqv17, Cn.manyQ_snoc hI (by show msv17.length ≤ 1000000; omega), Cn.Seg.snoc hS hsv17⟩
      ·
        refine D.stepU rfl rfl ?_
        refine O.callZ Tryz.call109 (args1 s0_1) (ditem_spec b vr l kc F _ (r0_1.keep e7) ((hl.keepM e_1 (by intro k hk h; first | (have q1 := hF k hk; (try dsimp only at h); omega) | ((try dsimp only at hk); (try dsimp only at h); omega))).keep e7) hS.2.2 (fun j hj => by have q1 := hF j hj; omega) hL) (fun ch_ wz_ hz_ => ?_) ?_
        ·
          exact ⟨hz_.1, Cn.no_val (Cn.no_cart2 hsv6 hcv6 (Cn.no_many2 hsv9 Cn.pre_itemQ hQ hS hj2 hz_.2.1)), Ext.trans (Ext.new (Ext.new (Ext.refl _ _) e_1 (by intro i hi hk; first | exact hk.elim | ((try dsimp only at hk); (try dsimp only); omega))) e7 (by intro i hi hk; first | exact hk.elim | ((try dsimp only at hk); (try dsimp only); omega))) hz_.2.2⟩
        rintro v_17 w12 ⟨sv17, vmv17, msv17, knv17, rfl, hov17, hmv17, hnv17, hqv17, hsv17, e12⟩
        have z12 := e12.size
        refine O.nil ⟨(Ext.bare (Ext.new (Ext.new (Ext.refl (fun _ => True) _) e7 (fun _ _ _ => trivial)) e12 (fun _ _ _ => trivial))), ?_⟩
        obtain ⟨p17, rfl⟩ := hmv17.slv
        refine D.many [1, 4] (by kernel_rfl) (by decide) ⟨?_, ?_, trivial⟩
        ·
          refine D.stepU rfl rfl ?_
          refine O.loadO Tryz.isAgg26 rfl ((r2_1.keep e7).keepM e12 (by intro h; (try dsimp only at h); omega)) rfl ?_
          refine O.nil ⟨(Ext.bare (Ext.new (Ext.new (Ext.refl (fun _ => True) _) e7 (fun _ _ _ => trivial)) e12 (fun _ _ _ => trivial))), ?_⟩
          refine D.one (i := 4) rfl rfl (by kernel_rfl) ?_
          refine O.litG (G := itemF) [(sv17, p17)] Tryz.underlying26 ti56 ts56 tz56 rfl (by decide) (by decide) rfl (fun b18 w13 hb18 hz18 e13 => ?_)
          have z13 := e13.size
          have h18 := hz18.own
          have hq18 := Sl.litG (n := 1) h18 rfl (by unfold maxLen; omega)
          refine O.nil ⟨(Ext.bare (Ext.new (Ext.new (Ext.new (Ext.refl (fun _ => True) _) e7 (fun _ _ _ => trivial)) e12 (fun _ _ _ => trivial)) e13 (fun _ _ _ => trivial))), ?_⟩
          refine D.one (i := 5) rfl rfl (by kernel_rfl) ?_
          refine O.appW (G := itemF) Tryz.underlying26 ti56 tz56 ts56 rfl rfl rfl (((r3_1.keep e7).keepM e12 (fun k hk h => by have := r3_1.bk_ge k hk; (try dsimp only at h); omega)).keep e13) hq18 (by rw [tb56, hit.1]; simp; omega) (by unfold maxLen; rw [hit.1]; simp; omega) (by omega) (fun v19 w14 h19 e14 hw19 => ?_)
          have e14m : Ext (fun j => w.heap.size ≤ j) w13 w14 := e14.mono (fun j _ hj => by have := (((r3_1.keep e7).keepM e12 (fun k hk h => by have := r3_1.bk_ge k hk; (try dsimp only at h); omega)).keep e13).bk_ge j hj; omega)
          have z14 := e14.size
          have h19s := h19.sl
          refine O.nil ⟨(Ext.bare (Ext.new (Ext.new (Ext.new (Ext.new (Ext.refl (fun _ => True) _) e7 (fun _ _ _ => trivial)) e12 (fun _ _ _ => trivial)) e13 (fun _ _ _ => trivial)) e14 (fun _ _ _ => trivial))), ?_⟩
          have hit19 : ItemsF 53 w14 (fun j => b3 < j ∧ j < w14.heap.size ∧ ¬ bk v19 j) (raw ++ [(sv17, p17)]) (its ++ [(sv17, msv17)]) := ((((((r4_1.keep e7).keepM e12 (by intro k hk h; first | (have q1 := hF k hk; (try dsimp only at h); omega) | ((try dsimp only at hk); (try dsimp only at h); omega))).keep e13).keepM e14 (fun j hj h => hj.2.2 h))).weak (fun j hj => ⟨hj.1, by have := hj.2.1; omega, fun hq => by
            rcases hw19 j hq with q | q
            · exact hj.2.2 q
            · have := hj.2.1; omega⟩)).snoc (x := (sv17, msv17)) rfl ((((hmv17.keep e13).keepM e14 (by intro j hj h; have q2 := hob j h; (try dsimp only at hj); omega))).weak (by
            intro j hj
            (try dsimp only at hj)
            refine ⟨by omega, by omega, fun hq => ?_⟩
            rcases hw19 j hq with q | q
            · have := hob j q; omega
            · omega))
          refine D.take (i := 6) rfl rfl rfl rfl (by kernel_rfl) (Ext.bare (Ext.new (Ext.new (Ext.new (Ext.new (Ext.refl (fun _ => True) _) e7 (fun _ _ _ => trivial)) e12 (fun _ _ _ => trivial)) e13 (fun _ _ _ => trivial)) e14 (fun _ _ _ => trivial))) ⟨_, rfl⟩ (fun w_ hw_ N_ hN => (O.fieldAd Tryz.underlying28 rfl Tryz.sizeOf26 (by decide) s3_1 (O.nil hN))) ?_
          refine D.one (i := 7) rfl rfl (by kernel_rfl) ?_
          refine O.store Tryz.sizeOf26 rfl rfl h19.one ((((r2_1.keep e7).keepM e12 (by intro h; (try dsimp only at h); omega)).keep e13).keepM e14 (by intro h; have := (((r3_1.keep e7).keepM e12 (fun k hk h => by have := r3_1.bk_ge k hk; (try dsimp only at h); omega)).keep e13).bk_ge _ h; omega)) (by simp) (fun w15 hs15 e15 z15 => ?_)
          try simp only [Nat.zero_add] at hs15
          refine O.nil ⟨(Ext.bare (Ext.new (Ext.new (Ext.new (Ext.new (Ext.new (Ext.refl (fun _ => True) _) e7 (fun _ _ _ => trivial)) e12 (fun _ _ _ => trivial)) e13 (fun _ _ _ => trivial)) e14 (fun _ _ _ => trivial)) e15 (fun _ _ _ => trivial))), ?_⟩
          refine D.done (by kernel_rfl) ?_
          refine hK9 _ _ ?_
          refine hK8 _ _ ?_
          refine C.region ?_
          refine O.mv ?_
          refine O.subU (m := 64) (b := 1#64) rfl rfl s4_1 rfl ?_
          refine O.asg ?_
          refine O.nil ?_
          refine ⟨(its ++ [(sv17, msv17)], raw ++ [(sv17, p17)], v19, knv17), ⟨(Eq.trans rfl (congrArg (fun q : BitVec 64 => Value.int .u64 (q.toNat : Int)) (by rw [Cn.dec_ofNat (by omega) (by omega), List.length_append]; rfl))), s0_1, s2_1, s3_1, (Ext.new (Ext.new (Ext.new (Ext.new (Ext.new (Ext.new (Ext.refl _ _) e_1 (by intro i hi hk; first | exact hk.elim | ((try dsimp only at hk); (try dsimp only); omega))) e7 (by intro i hi hk; first | exact hk.elim | ((try dsimp only at hk); (try dsimp only); omega))) e12 (by intro i hi hk; first | exact hk.elim | ((try dsimp only at hk); (try dsimp only); omega))) e13 (by intro i hi hk; first | exact hk.elim | ((try dsimp only at hk); (try dsimp only); omega))) e14m (by intro i hi hk; first | exact hk.elim | ((try dsimp only at hk); (try dsimp only); omega))) e15 (by intro i hi hk; first | exact hk.elim | ((try dsimp only at hk); (try dsimp only); omega))), (((hov17.keep e13).keepM e14 (by intro h; have := (((r3_1.keep e7).keepM e12 (fun k hk h => by have := r3_1.bk_ge k hk; (try dsimp only at h); omega)).keep e13).bk_ge _ h; omega)).keepM e15 (by intro h; (try dsimp only at h); omega)), (((((r1_1.keep e7).keepM e12 (by intro h; (try dsimp only at h); omega)).keep e13).keepM e14 (by intro h; have := (((r3_1.keep e7).keepM e12 (fun k hk h => by have := r3_1.bk_ge k hk; (try dsimp only at h); omega)).keep e13).bk_ge _ h; omega)).keepM e15 (by intro h; (try dsimp only at h); omega)), hs15, (h19.keepM e15 (fun k hk h => by have := h19.bk_ge k hk; (try dsimp only at h); omega)), (((hit19.keepM e15 (by intro k hk h; first | (have q1 := hF k hk; (try dsimp only at h); omega) | (have q1 := hF2 k hk; (try dsimp only at h); omega) | (have q1 := hFb k hk; (try dsimp only at h); omega) | ((try dsimp only at hk); (try dsimp only at h); omega)))).weak (fun j hj => ⟨hj.1, by have := hj.2.1; omega, hj.2.2⟩)), (((((r5_1.keep e7).keepM e12 (by intro k hk h; first | (have q1 := hF k hk; (try dsimp only at h); omega) | ((try dsimp only at hk); (try dsimp only at h); omega))).keep e13).keepM e14 (by intro j hj h; have q2 := (((r3_1.keep e7).keepM e12 (fun k hk h => by have := r3_1.bk_ge k hk; (try dsimp only at h); omega)).keep e13).bk_ge j h; first | (have q1 := hF j hj; omega) | ((try dsimp only at hj); omega))).keepM e15 (by intro k hk h; first | (have q1 := hF k hk; (try dsimp only at h); omega) | (have q1 := hF2 k hk; (try dsimp only at h); omega) | (have q1 := hFb k hk; (try dsimp only at h); omega) | ((try dsimp only at hk); (try dsimp only at h); omega))), (((((r6_1.keep e7).keepM e12 (by intro k hk h; first | (have q1 := hF k hk; (try dsimp only at h); omega) | ((try dsimp only at hk); (try dsimp only at h); omega))).keep e13).keepM e14 (by intro j hj h; have q2 := (((r3_1.keep e7).keepM e12 (fun k hk h => by have := r3_1.bk_ge k hk; (try dsimp only at h); omega)).keep e13).bk_ge j h; first | (have q1 := hF j hj; omega) | ((try dsimp only at hj); omega))).keepM e15 (by intro k hk h; first | (have q1 := hF k hk; (try dsimp only at h); omega) | (have q1 := hF2 k hk; (try dsimp only at h); omega) | (have q1 := hFb k hk; (try dsimp only at h); omega) | ((try dsimp only at hk); (try dsimp only at h); omega))), (((((r7_1.keep e7).keepM e12 (by intro k hk h; first | (have q1 := hF k hk; (try dsimp only at h); omega) | ((try dsimp only at hk); (try dsimp only at h); omega))).keep e13).keepM e14 (by intro j hj h; have q2 := (((r3_1.keep e7).keepM e12 (fun k hk h => by have := r3_1.bk_ge k hk; (try dsimp only at h); omega)).keep e13).bk_ge j h; first | (have q1 := hF j hj; omega) | ((try dsimp only at hj); omega))).keepM e15 (by intro k hk h; first | (have q1 := hF k hk; (try dsimp only at h); omega) | (have q1 := hF2 k hk; (try dsimp only at h); omega) | (have q1 := hFb k hk; (try dsimp only at h); omega) | ((try dsimp only at hk); (try dsimp only at h); omega))), (((((r8_1.keep e7).keepM e12 (by intro k hk h; first | (have q1 := hF k hk; (try dsimp only at h); omega) | ((try dsimp only at hk); (try dsimp only at h); omega))).keep e13).keepM e14 (by intro j hj h; have q2 := (((r3_1.keep e7).keepM e12 (fun k hk h => by have := r3_1.bk_ge k hk; (try dsimp only at h); omega)).keep e13).bk_ge j h; first | (have q1 := hF j hj; omega) | ((try dsimp only at hj); omega))).keepM e15 (by intro k hk h; first | (have q1 := hF k hk; (try dsimp only at h); omega) | (have q1 := hF2 k hk; (try dsimp only at h); omega) | (have q1 := hFb k hk; (try dsimp only at h); omega) | ((try dsimp only at hk); (try dsimp only at h); omega))), ?_⟩, by show nv9.toNat - (its ++ [_]).length < nv9.toNat - its.length; rw [List.length_append]; show nv9.toNat - (its.length + 1) < _; omega⟩
          exact ⟨by rw [List.length_append]; exact hj2, Cn.manyQ_snoc hQ hqv17, Cn.manyQ_snoc hI (by show msv17.length ≤ 1000000; omega), Cn.Seg.snoc hS hsv17⟩
        ·
          refine D.stepU rfl rfl ?_
          refine O.litG (G := itemF) [(sv17, p17)] Tryz.underlying26 ti56 ts56 tz56 rfl (by decide) (by decide) rfl (fun b18 w16 hb18 hz18 e16 => ?_)
          have z16 := e16.size
          have h18 := hz18.own
          have hq18 := Sl.litG (n := 1) h18 rfl (by unfold maxLen; omega)
          refine O.nil ⟨(Ext.bare (Ext.new (Ext.new (Ext.new (Ext.refl (fun _ => True) _) e7 (fun _ _ _ => trivial)) e12 (fun _ _ _ => trivial)) e16 (fun _ _ _ => trivial))), ?_⟩
          refine D.one (i := 1) rfl rfl (by kernel_rfl) ?_
          refine O.loadO Tryz.isAgg26 rfl (((r2_1.keep e7).keepM e12 (by intro h; (try dsimp only at h); omega)).keep e16) rfl ?_
          refine O.nil ⟨(Ext.bare (Ext.new (Ext.new (Ext.new (Ext.refl (fun _ => True) _) e7 (fun _ _ _ => trivial)) e12 (fun _ _ _ => trivial)) e16 (fun _ _ _ => trivial))), ?_⟩
          refine D.one (i := 5) rfl rfl (by kernel_rfl) ?_
          refine O.appW (G := itemF) Tryz.underlying26 ti56 tz56 ts56 rfl rfl rfl (((r3_1.keep e7).keepM e12 (fun k hk h => by have := r3_1.bk_ge k hk; (try dsimp only at h); omega)).keep e16) hq18 (by rw [tb56, hit.1]; simp; omega) (by unfold maxLen; rw [hit.1]; simp; omega) (by omega) (fun v19 w17 h19 e17 hw19 => ?_)
          have e17m : Ext (fun j => w.heap.size ≤ j) w16 w17 := e17.mono (fun j _ hj => by have := (((r3_1.keep e7).keepM e12 (fun k hk h => by have := r3_1.bk_ge k hk; (try dsimp only at h); omega)).keep e16).bk_ge j hj; omega)
          have z17 := e17.size
          have h19s := h19.sl
          refine O.nil ⟨(Ext.bare (Ext.new (Ext.new (Ext.new (Ext.new (Ext.refl (fun _ => True) _) e7 (fun _ _ _ => trivial)) e12 (fun _ _ _ => trivial)) e16 (fun _ _ _ => trivial)) e17 (fun _ _ _ => trivial))), ?_⟩
          have hit19 : ItemsF 53 w17 (fun j => b3 < j ∧ j < w17.heap.size ∧ ¬ bk v19 j) (raw ++ [(sv17, p17)]) (its ++ [(sv17, msv17)]) := ((((((r4_1.keep e7).keepM e12 (by intro k hk h; first | (have q1 := hF k hk; (try dsimp only at h); omega) | ((try dsimp only at hk); (try dsimp only at h); omega))).keep e16).keepM e17 (fun j hj h => hj.2.2 h))).weak (fun j hj => ⟨hj.1, by have := hj.2.1; omega, fun hq => by
            rcases hw19 j hq with q | q
            · exact hj.2.2 q
            · have := hj.2.1; omega⟩)).snoc (x := (sv17, msv17)) rfl ((((hmv17.keep e16).keepM e17 (by intro j hj h; have q2 := hob j h; (try dsimp only at hj); omega))).weak (by
            intro j hj
            (try dsimp only at hj)
            refine ⟨by omega, by omega, fun hq => ?_⟩
            rcases hw19 j hq with q | q
            · have := hob j q; omega
            · omega))
          refine D.take (i := 6) rfl rfl rfl rfl (by kernel_rfl) (Ext.bare (Ext.new (Ext.new (Ext.new (Ext.new (Ext.refl (fun _ => True) _) e7 (fun _ _ _ => trivial)) e12 (fun _ _ _ => trivial)) e16 (fun _ _ _ => trivial)) e17 (fun _ _ _ => trivial))) ⟨_, rfl⟩ (fun w_ hw_ N_ hN => (O.fieldAd Tryz.underlying28 rfl Tryz.sizeOf26 (by decide) s3_1 (O.nil hN))) ?_
          refine D.one (i := 7) rfl rfl (by kernel_rfl) ?_
          refine O.store Tryz.sizeOf26 rfl rfl h19.one ((((r2_1.keep e7).keepM e12 (by intro h; (try dsimp only at h); omega)).keep e16).keepM e17 (by intro h; have := (((r3_1.keep e7).keepM e12 (fun k hk h => by have := r3_1.bk_ge k hk; (try dsimp only at h); omega)).keep e16).bk_ge _ h; omega)) (by simp) (fun w18 hs18 e18 z18 => ?_)
          try simp only [Nat.zero_add] at hs18
          refine O.nil ⟨(Ext.bare (Ext.new (Ext.new (Ext.new (Ext.new (Ext.new (Ext.refl (fun _ => True) _) e7 (fun _ _ _ => trivial)) e12 (fun _ _ _ => trivial)) e16 (fun _ _ _ => trivial)) e17 (fun _ _ _ => trivial)) e18 (fun _ _ _ => trivial))), ?_⟩
          refine D.done (by kernel_rfl) ?_
          refine hK9 _ _ ?_
          refine hK8 _ _ ?_
          refine C.region ?_
          refine O.mv ?_
          refine O.subU (m := 64) (b := 1#64) rfl rfl s4_1 rfl ?_
          refine O.asg ?_
          refine O.nil ?_
          refine ⟨(its ++ [(sv17, msv17)], raw ++ [(sv17, p17)], v19, knv17), ⟨(Eq.trans rfl (congrArg (fun q : BitVec 64 => Value.int .u64 (q.toNat : Int)) (by rw [Cn.dec_ofNat (by omega) (by omega), List.length_append]; rfl))), s0_1, s2_1, s3_1, (Ext.new (Ext.new (Ext.new (Ext.new (Ext.new (Ext.new (Ext.refl _ _) e_1 (by intro i hi hk; first | exact hk.elim | ((try dsimp only at hk); (try dsimp only); omega))) e7 (by intro i hi hk; first | exact hk.elim | ((try dsimp only at hk); (try dsimp only); omega))) e12 (by intro i hi hk; first | exact hk.elim | ((try dsimp only at hk); (try dsimp only); omega))) e16 (by intro i hi hk; first | exact hk.elim | ((try dsimp only at hk); (try dsimp only); omega))) e17m (by intro i hi hk; first | exact hk.elim | ((try dsimp only at hk); (try dsimp only); omega))) e18 (by intro i hi hk; first | exact hk.elim | ((try dsimp only at hk); (try dsimp only); omega))), (((hov17.keep e16).keepM e17 (by intro h; have := (((r3_1.keep e7).keepM e12 (fun k hk h => by have := r3_1.bk_ge k hk; (try dsimp only at h); omega)).keep e16).bk_ge _ h; omega)).keepM e18 (by intro h; (try dsimp only at h); omega)), (((((r1_1.keep e7).keepM e12 (by intro h; (try dsimp only at h); omega)).keep e16).keepM e17 (by intro h; have := (((r3_1.keep e7).keepM e12 (fun k hk h => by have := r3_1.bk_ge k hk; (try dsimp only at h); omega)).keep e16).bk_ge _ h; omega)).keepM e18 (by intro h; (try dsimp only at h); omega)), hs18, (h19.keepM e18 (fun k hk h => by have := h19.bk_ge k hk; (try dsimp only at h); omega)), (((hit19.keepM e18 (by intro k hk h; first | (have q1 := hF k hk; (try dsimp only at h); omega) | (have q1 := hF2 k hk; (try dsimp only at h); omega) | (have q1 := hFb k hk; (try dsimp only at h); omega) | ((try dsimp only at hk); (try dsimp only at h); omega)))).weak (fun j hj => ⟨hj.1, by have := hj.2.1; omega, hj.2.2⟩)), (((((r5_1.keep e7).keepM e12 (by intro k hk h; first | (have q1 := hF k hk; (try dsimp only at h); omega) | ((try dsimp only at hk); (try dsimp only at h); omega))).keep e16).keepM e17 (by intro j hj h; have q2 := (((r3_1.keep e7).keepM e12 (fun k hk h => by have := r3_1.bk_ge k hk; (try dsimp only at h); omega)).keep e16).bk_ge j h; first | (have q1 := hF j hj; omega) | ((try dsimp only at hj); omega))).keepM e18 (by intro k hk h; first | (have q1 := hF k hk; (try dsimp only at h); omega) | (have q1 := hF2 k hk; (try dsimp only at h); omega) | (have q1 := hFb k hk; (try dsimp only at h); omega) | ((try dsimp only at hk); (try dsimp only at h); omega))), (((((r6_1.keep e7).keepM e12 (by intro k hk h; first | (have q1 := hF k hk; (try dsimp only at h); omega) | ((try dsimp only at hk); (try dsimp only at h); omega))).keep e16).keepM e17 (by intro j hj h; have q2 := (((r3_1.keep e7).keepM e12 (fun k hk h => by have := r3_1.bk_ge k hk; (try dsimp only at h); omega)).keep e16).bk_ge j h; first | (have q1 := hF j hj; omega) | ((try dsimp only at hj); omega))).keepM e18 (by intro k hk h; first | (have q1 := hF k hk; (try dsimp only at h); omega) | (have q1 := hF2 k hk; (try dsimp only at h); omega) | (have q1 := hFb k hk; (try dsimp only at h); omega) | ((try dsimp only at hk); (try dsimp only at h); omega))), (((((r7_1.keep e7).keepM e12 (by intro k hk h; first | (have q1 := hF k hk; (try dsimp only at h); omega) | ((try dsimp only at hk); (try dsimp only at h); omega))).keep e16).keepM e17 (by intro j hj h; have q2 := (((r3_1.keep e7).keepM e12 (fun k hk h => by have := r3_1.bk_ge k hk; (try dsimp only at h); omega)).keep e16).bk_ge j h; first | (have q1 := hF j hj; omega) | ((try dsimp only at hj); omega))).keepM e18 (by intro k hk h; first | (have q1 := hF k hk; (try dsimp only at h); omega) | (have q1 := hF2 k hk; (try dsimp only at h); omega) | (have q1 := hFb k hk; (try dsimp only at h); omega) | ((try dsimp only at hk); (try dsimp only at h); omega))), (((((r8_1.keep e7).keepM e12 (by intro k hk h; first | (have q1 := hF k hk; (try dsimp only at h); omega) | ((try dsimp only at hk); (try dsimp only at h); omega))).keep e16).keepM e17 (by intro j hj h; have q2 := (((r3_1.keep e7).keepM e12 (fun k hk h => by have := r3_1.bk_ge k hk; (try dsimp only at h); omega)).keep e16).bk_ge j h; first | (have q1 := hF j hj; omega) | ((try dsimp only at hj); omega))).keepM e18 (by intro k hk h; first | (have q1 := hF k hk; (try dsimp only at h); omega) | (have q1 := hF2 k hk; (try dsimp only at h); omega) | (have q1 := hFb k hk; (try dsimp only at h); omega) | ((try dsimp only at hk); (try dsimp only at h); omega))), ?_⟩, by show nv9.toNat - (its ++ [_]).length < nv9.toNat - its.length; rw [List.length_append]; show nv9.toNat - (its.length + 1) < _; omega⟩
          exact ⟨by rw [List.length_append]; exact hj2, Cn.manyQ_snoc hQ hqv17, Cn.manyQ_snoc hI (by show msv17.length ≤ 1000000; omega), Cn.Seg.snoc hS hsv17⟩
    ·
      have hj3 : its.length = nv9.toNat := by have q := mt (Cn.pos_ofNat (m := nv9.toNat - its.length) (by omega)).2 c11; omega
      obtain ⟨wq, hwq⟩ : ∃ x, x = w6 := ⟨_, rfl⟩
      have hzq : wq.heap.size = w6.heap.size := by rw [hwq]
      have hsa1 : Sl Dt.dotF.enc w6 (fun j => j < wq.heap.size) (slv p6) xv6.1 := (r5_1).weak (by intro j hj; have q := hj.2; show j < wq.heap.size; omega)
      have hsa2 : Sl Dt.dotF.enc w6 (fun j => j < wq.heap.size) (slv q6) xv6.2 := (r6_1).weak (by intro j hj; have q := hj.2; show j < wq.heap.size; omega)
      have hsi : Sl itemE w6 (fun j => b3 < j ∧ j < wq.heap.size) o its := (hit.weak (by intro j hj; have q1 := hj.1; have q := hj.2.1; show b3 < j ∧ j < wq.heap.size; omega)).items.sl ((r3_1).sl.weak (by intro j hj; have q := hob j hj; show b3 < j ∧ j < wq.heap.size; omega))
      have hsa3 : Sl itemE w6 (fun j => j < wq.heap.size) o its := hsi.weak fun j hj => hj.2
      have hsI : SlI 56 53 w6 (fun j => b3 < j ∧ j < wq.heap.size) o its := ⟨raw, (r3_1).fre (by intro j hj; have q := hob j hj; show b3 < j ∧ j < wq.heap.size; omega), hit.weak (by intro j hj; have q1 := hj.1; have q := hj.2.1; show b3 < j ∧ j < wq.heap.size; omega)⟩
      refine C.exit ?_
      refine hK5 _ _ ?_
      refine hK3 _ _ ?_
      refine C.seqK fun K10 hK10 => ?_
      refine C.seqK fun K11 hK11 => ?_
      refine C.region ?_
      refine O.loadOA Tryz.isAgg28 Tryz.sizeOf28 s3_1 r2_1 (Nat.le_of_ble_eq_true rfl) ?_
      refine O.call Tryz.call19 (args1 rfl) (cartValid_spec (slv p6) (slv q6) o (xv6, its) (fun j => j < wq.heap.size) _ hsa1 hsa2 hsa3 (fun j hj => by have hj : j < wq.heap.size := hj; omega) (by show its.length ≤ 1000000; omega) (fun x hx => ⟨by have := (hQ x hx).1; omega, hI x hx⟩) (mx.keepM e_1 (fun h => hgb h.symm))) ?_
      rintro v_22 w19 ⟨rfl, e19⟩
      have z19 := e19.size
      refine O.not rfl ?_
      refine O.nil ?_
      refine hK11 _ _ ?_
      refine C.cond rfl (fun c23 => ?_) (fun c23 => ?_)
      ·
        refine C.region ?_
        refine O.build (cells := #[]) rfl (by kernel_rfl) ?_
        refine O.mkI Tryz.underlying150 rfl rfl ?_
        refine O.panics rfl ?_
        exact ⟨rfl, Cn.no_val3 (Cn.seg_cart hsv6 (Cn.seg_many hsv9 hS hj3)) ⟨hcv6, hQ⟩ (by simpa using c23), (Ext.new (Ext.new (Ext.refl _ _) e_1 (by intro i hi hk; first | exact hk.elim | ((try dsimp only at hk); (try dsimp only); omega))) e19 (by intro i hi hk; first | exact hk.elim | ((try dsimp only at hk); (try dsimp only); omega)))⟩
      ·
        refine C.skip ?_
        refine hK10 _ _ ?_
        refine C.seqK fun K12 hK12 => ?_
        refine C.region ?_
        refine O.loadOA Tryz.isAgg28 Tryz.sizeOf28 s3_1 (r2_1.keep e19) (Nat.le_of_ble_eq_true rfl) ?_
        refine O.storeA (vs := [slv p6, slv q6, o]) Tryz.sizeOf28 rfl s2_1 rfl (by have q9 := ho1; intro u hu; simp only [List.mem_cons, List.not_mem_nil, or_false] at hu; rcases hu with rfl | rfl | rfl <;> first | rfl | exact q9) (r1_1.keep e19) (Nat.le_of_ble_eq_true rfl) (fun w20 hs20 e20 z20 => ?_)
        refine O.nil ?_
        refine hK12 _ _ ?_
        refine C.ret ?_
        refine Outs.cellA rfl Tryz.isAgg28 Tryz.sizeOf28 s2_1 hs20 rfl ?_
        exact ⟨slv p6, slv q6, o, (xv6, its), kc, rfl, ((r0_1.keep e19).keepM e20 (by intro h; (try dsimp only at h); omega)), (((r7_1.keep e19).keepM e20 (by intro k hk h; first | (have q1 := hF k hk; (try dsimp only at h); omega) | (have q1 := hF2 k hk; (try dsimp only at h); omega) | (have q1 := hFb k hk; (try dsimp only at h); omega) | ((try dsimp only at hk); (try dsimp only at h); omega)))).weak (by intro j hj; (try dsimp only at hj); (try dsimp only); omega), (((r8_1.keep e19).keepM e20 (by intro k hk h; first | (have q1 := hF k hk; (try dsimp only at h); omega) | (have q1 := hF2 k hk; (try dsimp only at h); omega) | (have q1 := hFb k hk; (try dsimp only at h); omega) | ((try dsimp only at hk); (try dsimp only at h); omega)))).weak (by intro j hj; (try dsimp only at hj); (try dsimp only); omega), (((hsI.keep e19).keepM e20 (by intro k hk h; first | (have q1 := hF k hk; (try dsimp only at h); omega) | (have q1 := hF2 k hk; (try dsimp only at h); omega) | (have q1 := hFb k hk; (try dsimp only at h); omega) | ((try dsimp only at hk); (try dsimp only at h); omega)))).weak (by intro j hj; (try dsimp only at hj); (try dsimp only); omega), ⟨by have := hnv6.1; show xv6.1.length ≤ 1000000; omega, by have := hnv6.2; show xv6.2.length ≤ 1000000; omega, by show its.length ≤ 1000000; omega, fun x hx => ⟨by have := (hQ x hx).1; omega, hI x hx⟩⟩, by simpa using c23, Cn.seg_cart hsv6 (Cn.seg_many hsv9 hS hj3), (Ext.new (Ext.new (Ext.new (Ext.refl _ _) e_1 (by intro i hi hk; first | exact hk.elim | ((try dsimp only at hk); (try dsimp only); omega))) e19 (by intro i hi hk; first | exact hk.elim | ((try dsimp only at hk); (try dsimp only); omega))) e20 (by intro i hi hk; first | exact hk.elim | ((try dsimp only at hk); (try dsimp only); omega)))⟩

end Go.Proofs.YtnkcmaoaagnopaaGreatDoor
end
section
/-
  The walks that read whole carts: what panics is caught. Conditions: slices as they lie in memory.
-/
namespace Go.Proofs.YtnkcmaoaagnopaaGreatDoor
open Go.Pn Go.RowKit Go.Proofs
attribute [local irreducible] O C D

theorem caught_idle (v : Value) (w : World) : CallsD Tryz.prog 82 #[v] .returning w fun e u' w' => (∃ q, e = .returned q) ∧ settle u' = .returning ∧ w' = w := by
  refine (callsD_recover (S := fun w' => w' = w) (u' := .returning) (rv := .nilIface) (args := [v]) (n := Tryz.f82.ntmps) Tryz.func82 rfl rfl (Nat.le_of_ble_eq_true rfl) rfl (fun c₀ cs hu => ?_) ?_).mono fun e u2 w' h => ⟨h.1, by rw [h.2.1]; rfl, h.2.2⟩
  · simp [recoverD, hu]
  refine C.block fun K1 hK1 => ?_
  refine C.seqK fun K2 hK2 => ?_
  refine C.region ?_
  refine O.eqlN0 rfl Tryz.underlying20 ?_
  refine O.nil ?_
  refine hK2 _ _ ?_
  refine C.condT rfl ?_
  refine C.region ?_
  refine O.asg ?_
  refine O.nil ?_
  exact hK1 _ _ rfl
theorem caught_wrong (b : Nat) (x : Int) (w : World) (ho : Own w b 33 [.int .i64 x]) : CallsD Tryz.prog 82 #[.pointer (some ⟨b, 0, none⟩)] (.panicking [{ v := .iface 150 (.agg #[]), recovered := false }]) w fun e u' w' => (∃ q, e = .returned q) ∧ settle u' = .returning ∧ (Own w' b 33 [.int .i64 12] ∧ Ext (fun j => j = b) w w') := by
  have hbl := ho.lt
  refine (callsD_recover (S := fun w' => Own w' b 33 [.int .i64 12] ∧ Ext (fun j => j = b) w w') (u' := .panicking [{ v := .iface 150 (.agg #[]), recovered := true }]) (rv := .iface 150 (.agg #[])) (args := [.pointer (some ⟨b, 0, none⟩)]) (n := Tryz.f82.ntmps) Tryz.func82 rfl rfl (Nat.le_of_ble_eq_true rfl) rfl (fun c₀ cs hu => ?_) ?_).mono fun e u2 w' h => ⟨h.1, by rw [h.2.1]; rfl, h.2.2⟩
  · simp [recoverD, hu]
  refine C.block fun K1 hK1 => ?_
  refine C.seqK fun K2 hK2 => ?_
  refine C.region ?_
  refine O.eqlN1 rfl rfl Tryz.underlying20 ?_
  refine O.nil ?_
  refine hK2 _ _ ?_
  refine C.condF rfl ?_
  refine C.seqK fun K3 hK3 => ?_
  refine C.region ?_
  refine O.holds Tryz.underlying150 rfl rfl ?_
  refine O.extract rfl rfl ?_
  refine O.extract rfl rfl ?_
  refine O.nil ?_
  refine hK3 _ _ ?_
  refine C.condT rfl ?_
  refine C.seqK fun K4 hK4 => ?_
  refine C.region ?_
  refine O.alloc Tryz.zeroValue150 (fun b3 w1 hb3 hz3 e1 => ?_)
  have z1 := e1.size
  refine O.storeA (vs := []) Tryz.sizeOf150 rfl rfl rfl (by simp) hz3.own (Nat.zero_le _) (fun w2 hs2 e2 z2 => ?_)
  refine O.nil ?_
  refine hK4 _ _ ?_
  refine C.region ?_
  refine O.mv ?_
  refine O.nilChk rfl ?_
  refine O.store Tryz.sizeOf33 rfl rfl rfl ((ho.keep e1).keepM e2 (by intro h; (try dsimp only at h); omega)) (by simp) (fun w3 hs3 e3 z3 => ?_)
  refine O.nil ?_
  refine hK1 _ _ ⟨hs3, ?_⟩
  exact Ext.trans (Ext.new (Le.to e1) e2 (by intro i hi h; (try dsimp only at h); omega)) e3
set_option maxHeartbeats 2000000 in
theorem prefix_spec (v0 : Value) (l : List UInt8) (F : Nat → Prop) (w : World) (hl : Sl byteE w F v0 l) (hL : l.length ≤ 1000000) (hF : ∀ j, F j → j < w.heap.size) (mx : Mx w) :
    Ret Tryz.prog 58 #[v0] w (fun v w' => ∃ (v1 v2 v3 : Value) (c : Cn.Cart) (k' : Nat) (e : Int), v = .tuple #[.agg #[v1, v2, v3], .int .i64 (k' : Int), .int .i64 e] ∧ Fre Dt.dotF 51 w' (fun j => w.heap.size ≤ j ∧ j < w'.heap.size) v1 c.1.1 ∧ Fre Dt.dotF 51 w' (fun j => w.heap.size ≤ j ∧ j < w'.heap.size) v2 c.1.2 ∧ SlI 56 53 w' (fun j => w.heap.size ≤ j ∧ j < w'.heap.size) v3 c.2 ∧ Cn.big c ∧ Cn.Pref l c k' e ∧ Le w w') := by
  have hgl := mx.lt
  have hll := hl.le
  have _hF9 := hF
  refine enterD (args := [v0]) (n := 14) (ks := [2, 3, 4]) Tryz.func58 rfl rfl (Nat.le_of_ble_eq_true rfl) rfl ?_
  refine C.region ?_
  refine O.alloc Tryz.zeroValue28 (fun b2 w1 hb2 hz2 e1 => ?_)
  have z1 := e1.size
  have h2 := hz2.own
  have hl2 := h2.lt
  refine O.asg ?_
  refine O.alloc Tryz.zeroValue33 (fun b4 w2 hb4 hz4 e2 => ?_)
  have z2 := e2.size
  have h4 := hz4.own
  have hl4 := h4.lt
  refine O.nil ?_
  refine ⟨.pointer (some ⟨b4, 0, none⟩), (fun ch w' => ch = [{ v := .iface 150 (.agg #[]), recovered := false }] ∧ Cn.No Cn.val Cn.bytes l 0 ∧ Le w2 w'), rfl, ?_, ?_⟩
  ·
    refine CD.seqK fun K1 hK1 => ?_
    refine CD.region (by kernel_rfl) rfl ?_
    refine O.mv ?_
    refine O.call Tryz.call83 (args1 rfl) (rdNew_spec _ l _ _ ((hl.keep e1).keep e2) hL) ?_
    rintro v_8 w3 ⟨brv8, vrv8, rfl, hov8, hlv8, hbv8, hb2v8, e3⟩
    have z3 := e3.size
    refine O.asg ?_
    refine O.nil ?_
    refine hK1 _ _ ?_
    refine CD.seqK fun K2 hK2 => ?_
    refine CD.region (by kernel_rfl) rfl ?_
    refine O.mv ?_
    refine O.callZ Tryz.call84 (args1 rfl) (dwhole_spec brv8 vrv8 l 0 _ _ hov8 hlv8 (Nat.zero_le _) (fun j hj => by have hj1 := hj.1; have hj2 := hj.2; exact ⟨by omega, by omega⟩) hL (((mx.keep e1).keep e2).keep e3) (by omega)) (fun ch_ wz_ hz_ => ?_) ?_
    ·
      exact ⟨hz_.1, hz_.2.1, Ext.new e3 hz_.2.2 (by intro i hi h; (try dsimp only at h); omega)⟩
    rintro v_10 w4 ⟨vav10, vbv10, vcv10, cv10, knv10, rfl, hov10, hxv10, hyv10, hzv10, hgv10, hcv10, hsv10, e4⟩
    have z4 := e4.size
    obtain ⟨p1, rfl⟩ := hxv10.slv
    obtain ⟨p2, rfl⟩ := hyv10.slv
    obtain ⟨p3, rfl⟩ := hzv10.sl.slv
    refine O.alloc Tryz.zeroValue28 (fun b6 w5 hb6 hz6 e5 => ?_)
    have z5 := e5.size
    have h6 := hz6.own
    have hl6 := h6.lt
    refine O.storeA (vs := [slv p1, slv p2, slv p3]) Tryz.sizeOf28 rfl rfl rfl (by simp [slv, Value.oneCell']) h6 (Nat.le_of_ble_eq_true rfl) (fun w6 hs6 e6 z6 => ?_)
    refine O.nil ?_
    refine hK2 _ _ ?_
    refine CD.seqK fun K3 hK3 => ?_
    refine CD.drawB (wB := (bare w6)) (by kernel_rfl) fun w7 e7 => ?_
    have z7 := e7.size
    refine D.take (i := 1) rfl rfl rfl rfl (by kernel_rfl) (Ext.bare (Ext.new (Ext.refl (fun _ => True) _) e7 (fun _ _ _ => trivial))) ⟨pure _, rfl⟩ (fun w_ hw_ N_ hN => (O.mv (O.nil hN))) ?_
    refine D.many [0, 2] (by kernel_rfl) (by decide) ⟨?_, ?_, trivial⟩
    ·
      refine D.stepU rfl rfl ?_
      refine O.loadOA Tryz.isAgg28 Tryz.sizeOf28 rfl (hs6.keep e7) (Nat.le_of_ble_eq_true rfl) ?_
      refine O.nil ⟨(Ext.bare (Ext.new (Ext.refl (fun _ => True) _) e7 (fun _ _ _ => trivial))), ?_⟩
      refine D.one (i := 2) rfl rfl (by kernel_rfl) ?_
      refine O.call Tryz.call85 (args1 rfl) (rdAt_spec brv8 vrv8 l knv10 _ _ (((hov10.keep e5).keepM e6 (by intro h; (try dsimp only at h); omega)).keep e7) ((((hlv8.keepM e4 (by intro k hk h; (try dsimp only at hk); (try dsimp only at h); omega)).keep e5).keepM e6 (by intro k hk h; (try dsimp only at hk); (try dsimp only at h); omega)).keep e7) (hsv10.2.2) (fun j hj => by have hj1 := hj.1; have hj2 := hj.2; exact ⟨by omega, by omega⟩)) ?_
      rintro v_13 w8 ⟨rfl, hw_⟩
      replace hw_ := hw_.symm
      subst hw_
      refine O.nil ⟨(Ext.bare (Ext.new (Ext.refl (fun _ => True) _) e7 (fun _ _ _ => trivial))), ?_⟩
      refine D.one (i := 3) rfl rfl (by kernel_rfl) ?_
      refine O.storeA (vs := [slv p1, slv p2, slv p3]) Tryz.sizeOf28 rfl rfl rfl (by simp [slv, Value.oneCell']) ((((((h2.keep e2).keep e3).keepM e4 (by intro h; (try dsimp only at h); omega)).keep e5).keepM e6 (by intro h; (try dsimp only at h); omega)).keep e7) (Nat.le_of_ble_eq_true rfl) (fun w8 hs8 e8 z8 => ?_)
      refine O.nil ⟨(Ext.bare (Ext.new (Ext.new (Ext.refl (fun _ => True) _) e7 (fun _ _ _ => trivial)) e8 (fun _ _ _ => trivial))), ?_⟩
      refine D.take (i := 4) rfl rfl rfl rfl (by kernel_rfl) (Ext.bare (Ext.new (Ext.new (Ext.refl (fun _ => True) _) e7 (fun _ _ _ => trivial)) e8 (fun _ _ _ => trivial))) ⟨pure _, rfl⟩ (fun w_ hw_ N_ hN => (O.asg (O.nil hN))) ?_
      refine D.one (i := 5) rfl rfl (by kernel_rfl) ?_
      refine O.store Tryz.sizeOf33 rfl rfl rfl ((((((h4.keep e3).keepM e4 (by intro h; (try dsimp only at h); omega)).keep e5).keepM e6 (by intro h; (try dsimp only at h); omega)).keep e7).keepM e8 (by intro h; (try dsimp only at h); omega)) (by decide) (fun w9 hs9 e9 z9 => ?_)
      try simp only [Int.toNat_natCast, Nat.zero_add, Nat.mul_one] at hs9
      refine O.nil ⟨(Ext.bare (Ext.new (Ext.new (Ext.new (Ext.refl (fun _ => True) _) e7 (fun _ _ _ => trivial)) e8 (fun _ _ _ => trivial)) e9 (fun _ _ _ => trivial))), ?_⟩
      refine D.done (by kernel_rfl) ?_
      refine hK3 _ _ ?_
      refine CD.ret ?_
      refine leaves1 (by simp) Tryz.call82 (caught_idle _ _) ?_
      rintro _ rfl
      refine ⟨_, res_ctc (s := 3) rfl (getD_Fr _ _ 2) (getD_Fr _ _ 3) (getD_Fr _ _ 4) Tryz.isAgg28 Tryz.sizeOf28 (hs8.keepM e9 (by intro h; (try dsimp only at h); omega)) rfl Tryz.isAgg33 hs9, ?_⟩
      exact ⟨slv p1, slv p2, slv p3, cv10, knv10, 0, rfl, ((((((hxv10.keep e5).keepM e6 (by intro k hk h; first | (have q1 := hF k hk; (try dsimp only at h); omega) | (have q1 := hF2 k hk; (try dsimp only at h); omega) | (have q1 := hFb k hk; (try dsimp only at h); omega) | ((try dsimp only at hk); (try dsimp only at h); omega))).keep e7).keepM e8 (by intro k hk h; first | (have q1 := hF k hk; (try dsimp only at h); omega) | (have q1 := hF2 k hk; (try dsimp only at h); omega) | (have q1 := hFb k hk; (try dsimp only at h); omega) | ((try dsimp only at hk); (try dsimp only at h); omega))).keepM e9 (by intro k hk h; first | (have q1 := hF k hk; (try dsimp only at h); omega) | (have q1 := hF2 k hk; (try dsimp only at h); omega) | (have q1 := hFb k hk; (try dsimp only at h); omega) | ((try dsimp only at hk); (try dsimp only at h); omega)))).weak (by intro j hj; (try dsimp only at hj); (try dsimp only); omega), ((((((hyv10.keep e5).keepM e6 (by intro k hk h; first | (have q1 := hF k hk; (try dsimp only at h); omega) | (have q1 := hF2 k hk; (try dsimp only at h); omega) | (have q1 := hFb k hk; (try dsimp only at h); omega) | ((try dsimp only at hk); (try dsimp only at h); omega))).keep e7).keepM e8 (by intro k hk h; first | (have q1 := hF k hk; (try dsimp only at h); omega) | (have q1 := hF2 k hk; (try dsimp only at h); omega) | (have q1 := hFb k hk; (try dsimp only at h); omega) | ((try dsimp only at hk); (try dsimp only at h); omega))).keepM e9 (by intro k hk h; first | (have q1 := hF k hk; (try dsimp only at h); omega) | (have q1 := hF2 k hk; (try dsimp only at h); omega) | (have q1 := hFb k hk; (try dsimp only at h); omega) | ((try dsimp only at hk); (try dsimp only at h); omega)))).weak (by intro j hj; (try dsimp only at hj); (try dsimp only); omega), ((((((hzv10.keep e5).keepM e6 (by intro k hk h; first | (have q1 := hF k hk; (try dsimp only at h); omega) | (have q1 := hF2 k hk; (try dsimp only at h); omega) | (have q1 := hFb k hk; (try dsimp only at h); omega) | ((try dsimp only at hk); (try dsimp only at h); omega))).keep e7).keepM e8 (by intro k hk h; first | (have q1 := hF k hk; (try dsimp only at h); omega) | (have q1 := hF2 k hk; (try dsimp only at h); omega) | (have q1 := hFb k hk; (try dsimp only at h); omega) | ((try dsimp only at hk); (try dsimp only at h); omega))).keepM e9 (by intro k hk h; first | (have q1 := hF k hk; (try dsimp only at h); omega) | (have q1 := hF2 k hk; (try dsimp only at h); omega) | (have q1 := hFb k hk; (try dsimp only at h); omega) | ((try dsimp only at hk); (try dsimp only at h); omega)))).weak (by intro j hj; (try dsimp only at hj); (try dsimp only); omega), hgv10, .inl ⟨rfl, hcv10, hsv10⟩, (Ext.new (Ext.new (Ext.trans (Ext.new (Ext.trans (Ext.new (Ext.trans (Ext.trans e1 e2) e3) e4 (by rintro i hi rfl; omega)) e5) e6 (by rintro i hi rfl; omega)) e7) e8 (by rintro i hi rfl; omega)) e9 (by rintro i hi rfl; omega))⟩
    ·
      refine D.stepU rfl rfl ?_
      refine O.call Tryz.call85 (args1 rfl) (rdAt_spec brv8 vrv8 l knv10 _ _ (((hov10.keep e5).keepM e6 (by intro h; (try dsimp only at h); omega)).keep e7) ((((hlv8.keepM e4 (by intro k hk h; (try dsimp only at hk); (try dsimp only at h); omega)).keep e5).keepM e6 (by intro k hk h; (try dsimp only at hk); (try dsimp only at h); omega)).keep e7) (hsv10.2.2) (fun j hj => by have hj1 := hj.1; have hj2 := hj.2; exact ⟨by omega, by omega⟩)) ?_
      rintro v_13 w10 ⟨rfl, hw_⟩
      replace hw_ := hw_.symm
      subst hw_
      refine O.nil ⟨(Ext.bare (Ext.new (Ext.refl (fun _ => True) _) e7 (fun _ _ _ => trivial))), ?_⟩
      refine D.one (i := 0) rfl rfl (by kernel_rfl) ?_
      refine O.loadOA Tryz.isAgg28 Tryz.sizeOf28 rfl (hs6.keep e7) (Nat.le_of_ble_eq_true rfl) ?_
      refine O.nil ⟨(Ext.bare (Ext.new (Ext.refl (fun _ => True) _) e7 (fun _ _ _ => trivial))), ?_⟩
      refine D.one (i := 3) rfl rfl (by kernel_rfl) ?_
      refine O.storeA (vs := [slv p1, slv p2, slv p3]) Tryz.sizeOf28 rfl rfl rfl (by simp [slv, Value.oneCell']) ((((((h2.keep e2).keep e3).keepM e4 (by intro h; (try dsimp only at h); omega)).keep e5).keepM e6 (by intro h; (try dsimp only at h); omega)).keep e7) (Nat.le_of_ble_eq_true rfl) (fun w10 hs10 e10 z10 => ?_)
      refine O.nil ⟨(Ext.bare (Ext.new (Ext.new (Ext.refl (fun _ => True) _) e7 (fun _ _ _ => trivial)) e10 (fun _ _ _ => trivial))), ?_⟩
      refine D.take (i := 4) rfl rfl rfl rfl (by kernel_rfl) (Ext.bare (Ext.new (Ext.new (Ext.refl (fun _ => True) _) e7 (fun _ _ _ => trivial)) e10 (fun _ _ _ => trivial))) ⟨pure _, rfl⟩ (fun w_ hw_ N_ hN => (O.asg (O.nil hN))) ?_
      refine D.one (i := 5) rfl rfl (by kernel_rfl) ?_
      refine O.store Tryz.sizeOf33 rfl rfl rfl ((((((h4.keep e3).keepM e4 (by intro h; (try dsimp only at h); omega)).keep e5).keepM e6 (by intro h; (try dsimp only at h); omega)).keep e7).keepM e10 (by intro h; (try dsimp only at h); omega)) (by decide) (fun w11 hs11 e11 z11 => ?_)
      try simp only [Int.toNat_natCast, Nat.zero_add, Nat.mul_one] at hs11
      refine O.nil ⟨(Ext.bare (Ext.new (Ext.new (Ext.new (Ext.refl (fun _ => True) _) e7 (fun _ _ _ => trivial)) e10 (fun _ _ _ => trivial)) e11 (fun _ _ _ => trivial))), ?_⟩
      refine D.done (by kernel_rfl) ?_
      refine hK3 _ _ ?_
      refine CD.ret ?_
      refine leaves1 (by simp) Tryz.call82 (caught_idle _ _) ?_
      rintro _ rfl
      refine ⟨_, res_ctc (s := 3) rfl (getD_Fr _ _ 2) (getD_Fr _ _ 3) (getD_Fr _ _ 4) Tryz.isAgg28 Tryz.sizeOf28 (hs10.keepM e11 (by intro h; (try dsimp only at h); omega)) rfl Tryz.isAgg33 hs11, ?_⟩
      exact ⟨slv p1, slv p2, slv p3, cv10, knv10, 0, rfl, ((((((hxv10.keep e5).keepM e6 (by intro k hk h; first | (have q1 := hF k hk; (try dsimp only at h); omega) | (have q1 := hF2 k hk; (try dsimp only at h); omega) | (have q1 := hFb k hk; (try dsimp only at h); omega) | ((try dsimp only at hk); (try dsimp only at h); omega))).keep e7).keepM e10 (by intro k hk h; first | (have q1 := hF k hk; (try dsimp only at h); omega) | (have q1 := hF2 k hk; (try dsimp only at h); omega) | (have q1 := hFb k hk; (try dsimp only at h); omega) | ((try dsimp only at hk); (try dsimp only at h); omega))).keepM e11 (by intro k hk h; first | (have q1 := hF k hk; (try dsimp only at h); omega) | (have q1 := hF2 k hk; (try dsimp only at h); omega) | (have q1 := hFb k hk; (try dsimp only at h); omega) | ((try dsimp only at hk); (try dsimp only at h); omega)))).weak (by intro j hj; (try dsimp only at hj); (try dsimp only); omega), ((((((hyv10.keep e5).keepM e6 (by intro k hk h; first | (have q1 := hF k hk; (try dsimp only at h); omega) | (have q1 := hF2 k hk; (try dsimp only at h); omega) | (have q1 := hFb k hk; (try dsimp only at h); omega) | ((try dsimp only at hk); (try dsimp only at h); omega))).keep e7).keepM e10 (by intro k hk h; first | (have q1 := hF k hk; (try dsimp only at h); omega) | (have q1 := hF2 k hk; (try dsimp only at h); omega) | (have q1 := hFb k hk; (try dsimp only at h); omega) | ((try dsimp only at hk); (try dsimp only at h); omega))).keepM e11 (by intro k hk h; first | (have q1 := hF k hk; (try dsimp only at h); omega) | (have q1 := hF2 k hk; (try dsimp only at h); omega) | (have q1 := hFb k hk; (try dsimp only at h); omega) | ((try dsimp only at hk); (try dsimp only at h); omega)))).weak (by intro j hj; (try dsimp only at hj); (try dsimp only); omega), ((((((hzv10.keep e5).keepM e6 (by intro k hk h; first | (have q1 := hF k hk; (try dsimp only at h); omega) | (have q1 := hF2 k hk; (try dsimp only at h); omega) | (have q1 := hFb k hk; (try dsimp only at h); omega) | ((try dsimp only at hk); (try dsimp only at h); omega))).keep e7).keepM e10 (by intro k hk h; first | (have q1 := hF k hk; (try dsimp only at h); omega) | (have q1 := hF2 k hk; (try dsimp only at h); omega) | (have q1 := hFb k hk; (try dsimp only at h); omega) | ((try dsimp only at hk); (try dsimp only at h); omega))).keepM e11 (by intro k hk h; first | (have q1 := hF k hk; (try dsimp only at h); omega) | (have q1 := hF2 k hk; (try dsimp only at h); omega) | (have q1 := hFb k hk; (try dsimp only at h); omega) | ((try dsimp only at hk); (try dsimp only at h); omega)))).weak (by intro j hj; (try dsimp only at hj); (try dsimp only); omega), hgv10, .inl ⟨rfl, hcv10, hsv10⟩, (Ext.new (Ext.new (Ext.trans (Ext.new (Ext.trans (Ext.new (Ext.trans (Ext.trans e1 e2) e3) e4 (by rintro i hi rfl; omega)) e5) e6 (by rintro i hi rfl; omega)) e7) e10 (by rintro i hi rfl; omega)) e11 (by rintro i hi rfl; omega))⟩
  ·
    rintro a ch wz hh ⟨rfl, hno, ez⟩
    refine leaves1 (by simp) Tryz.call82 (caught_wrong b4 0 wz ((h4).keep ez)) ?_
    rintro w9 ⟨ho9, e9⟩
    have h2l := (((h2.keep e2)).keep ez).lt
    refine ⟨_, res_ctc (s := 3) rfl (hh 2 (by decide)) (hh 3 (by decide)) (hh 4 (by decide)) Tryz.isAgg28 Tryz.sizeOf28 ((((h2.keep e2)).keep ez).keepM e9 (by intro h; (try dsimp only at h); omega)) rfl Tryz.isAgg33 ho9, ?_⟩
    exact ⟨_, _, _, Cn.nil0, 0, 12, rfl, Fre.nil _ _ _ _, Fre.nil _ _ _ _, SlI.nil _ _ _ _, Cn.big_nil0, .inr ⟨rfl, rfl, rfl, hno⟩, Ext.new (Ext.trans (Ext.trans e1 e2) ez) e9 (by intro i hi h; (try dsimp only at h); omega)⟩

set_option maxHeartbeats 2000000 in
theorem dcontext_spec (v0 : Value) (l : List UInt8) (F : Nat → Prop) (w : World) (hl : Sl byteE w F v0 l) (hL : l.length ≤ 1000000) (hF : ∀ j, F j → j < w.heap.size) (mx : Mx w) :
    Ret Tryz.prog 77 #[v0] w (fun v w' => ∃ (v1 v2 : Value) (x : Cn.Ctx) (e : Int), v = .tuple #[.agg #[v1, v2], .int .i64 e] ∧ Sl Dt.dotF.enc w' (fun j => w.heap.size ≤ j ∧ j < w'.heap.size) v1 x.1 ∧ Sl Dt.dotF.enc w' (fun j => w.heap.size ≤ j ∧ j < w'.heap.size) v2 x.2 ∧ (x.1.length ≤ 1000000 ∧ x.2.length ≤ 1000000) ∧ Cn.CtxRes l x e ∧ Le w w') := by
  have hgl := mx.lt
  have hll := hl.le
  have _hF9 := hF
  refine enterD (args := [v0]) (n := 14) (ks := [2, 3]) Tryz.func77 rfl rfl (Nat.le_of_ble_eq_true rfl) rfl ?_
  refine C.region ?_
  refine O.alloc Tryz.zeroValue25 (fun b2 w1 hb2 hz2 e1 => ?_)
  have z1 := e1.size
  have h2 := hz2.own
  have hl2 := h2.lt
  refine O.alloc Tryz.zeroValue33 (fun b3 w2 hb3 hz3 e2 => ?_)
  have z2 := e2.size
  have h3 := hz3.own
  have hl3 := h3.lt
  refine O.nil ?_
  refine ⟨.pointer (some ⟨b3, 0, none⟩), (fun ch w' => ch = [{ v := .iface 150 (.agg #[]), recovered := false }] ∧ (∀ y, Cn.comp y → l ≠ Cn.ctxB y) ∧ Le w2 w'), rfl, ?_, ?_⟩
  ·
    refine CD.seqK fun K1 hK1 => ?_
    refine CD.region (by kernel_rfl) rfl ?_
    refine O.mv ?_
    refine O.call Tryz.call83 (args1 rfl) (rdNew_spec _ l _ _ ((hl.keep e1).keep e2) hL) ?_
    rintro v_7 w3 ⟨brv7, vrv7, rfl, hov7, hlv7, hbv7, hb2v7, e3⟩
    have z3 := e3.size
    refine O.asg ?_
    refine O.nil ?_
    refine hK1 _ _ ?_
    refine CD.seqK fun K2 hK2 => ?_
    refine CD.region (by kernel_rfl) rfl ?_
    refine O.mv ?_
    refine O.callZ Tryz.call104 (args1 rfl) (dseen_spec brv7 vrv7 l 0 _ _ hov7 hlv7 (Nat.zero_le _) (fun j hj => by have hj1 := hj.1; have hj2 := hj.2; exact ⟨by omega, by omega⟩) hL) (fun ch_ wz_ hz_ => ?_) ?_
    ·
      exact ⟨hz_.1, Cn.no_whole hz_.2.1, Ext.new e3 hz_.2.2 (by intro i hi h; (try dsimp only at h); omega)⟩
    rintro v_9 w4 ⟨vav9, vbv9, xv9, knv9, rfl, hov9, hxv9, hyv9, hnv9, hcv9, hsv9, e4⟩
    have z4 := e4.size
    replace hxv9 := hxv9.sl
    replace hyv9 := hyv9.sl
    obtain ⟨p1, rfl⟩ := hxv9.slv
    obtain ⟨p2, rfl⟩ := hyv9.slv
    refine O.alloc Tryz.zeroValue25 (fun b5 w5 hb5 hz5 e5 => ?_)
    have z5 := e5.size
    have h5 := hz5.own
    have hl5 := h5.lt
    refine O.storeA (vs := [slv p1, slv p2]) Tryz.sizeOf25 rfl rfl rfl (by simp [slv, Value.oneCell']) h5 (Nat.le_of_ble_eq_true rfl) (fun w6 hs6 e6 z6 => ?_)
    refine O.nil ?_
    refine hK2 _ _ ?_
    refine CD.seqK fun K3 hK3 => ?_
    refine CD.region (by kernel_rfl) rfl ?_
    refine O.mv ?_
    refine O.call Tryz.call106 (args1 rfl) (rdEnd_spec brv7 vrv7 l knv9 _ _ ((hov9.keep e5).keepM e6 (by intro h; (try dsimp only at h); omega)) (((hlv7.keepM e4 (by intro k hk h; (try dsimp only at hk); (try dsimp only at h); omega)).keep e5).keepM e6 (by intro k hk h; (try dsimp only at hk); (try dsimp only at h); omega)) (hsv9.2.2) (fun j hj => by have hj1 := hj.1; have hj2 := hj.2; exact ⟨by omega, by omega⟩)) ?_
    rintro v_11 w7 ⟨rfl, e7⟩
    have z7 := e7.size
    refine O.callZ Tryz.call105 (args1 rfl) (must_spec _ _) (fun ch_ wz_ hz_ => ?_) ?_
    ·
      have hk9 : knv9 < l.length := Classical.byContradiction fun h => hz_.2.1 (if_neg h)
      exact ⟨hz_.1, Cn.ctx_more hsv9 hcv9 hk9, Ext.trans (Ext.trans (Ext.new (Ext.trans (Ext.new e3 e4 (by rintro i hi rfl; omega)) e5) e6 (by rintro i hi rfl; omega)) e7) hz_.2.2⟩
    rintro v_12 w8 ⟨rfl, hzv12, e8⟩
    have z8 := e8.size
    refine O.nil ?_
    refine hK3 _ _ ?_
    refine CD.seqK fun K4 hK4 => ?_
    refine CD.region (by kernel_rfl) rfl ?_
    refine O.loadOA Tryz.isAgg25 Tryz.sizeOf25 rfl ((hs6.keep e7).keep e8) (Nat.le_of_ble_eq_true rfl) ?_
    refine O.storeA (vs := [slv p1, slv p2]) Tryz.sizeOf25 rfl rfl rfl (by simp [slv, Value.oneCell']) (((((((h2.keep e2).keep e3).keepM e4 (by intro h; (try dsimp only at h); omega)).keep e5).keepM e6 (by intro h; (try dsimp only at h); omega)).keep e7).keep e8) (Nat.le_of_ble_eq_true rfl) (fun w9 hs9 e9 z9 => ?_)
    refine O.store Tryz.sizeOf33 rfl rfl rfl (((((((h3.keep e3).keepM e4 (by intro h; (try dsimp only at h); omega)).keep e5).keepM e6 (by intro h; (try dsimp only at h); omega)).keep e7).keep e8).keepM e9 (by intro h; (try dsimp only at h); omega)) (by decide) (fun w10 hs10 e10 z10 => ?_)
    try simp only [Int.toNat_natCast, Nat.zero_add, Nat.mul_one] at hs10
    refine O.nil ?_
    refine hK4 _ _ ?_
    refine CD.ret ?_
    have hk9 : knv9 = l.length := by
      have h1 := hsv9.2.2
      rcases Nat.lt_or_ge knv9 l.length with h | h
      · rw [if_pos h] at hzv12
        cases hzv12
      · omega
    refine leaves1 (by simp) Tryz.call82 (caught_idle _ _) ?_
    rintro _ rfl
    refine ⟨_, res_cc (s := 2) rfl (getD_Fr _ _ 2) (getD_Fr _ _ 3) Tryz.isAgg25 Tryz.sizeOf25 (hs9.keepM e10 (by intro h; (try dsimp only at h); omega)) rfl Tryz.isAgg33 hs10, ?_⟩
    exact ⟨slv p1, slv p2, xv9, 0, rfl, (((((((hxv9.keep e5).keepM e6 (by intro k hk h; first | (have q1 := hF k hk; (try dsimp only at h); omega) | (have q1 := hF2 k hk; (try dsimp only at h); omega) | (have q1 := hFb k hk; (try dsimp only at h); omega) | ((try dsimp only at hk); (try dsimp only at h); omega))).keep e7).keep e8).keepM e9 (by intro k hk h; first | (have q1 := hF k hk; (try dsimp only at h); omega) | (have q1 := hF2 k hk; (try dsimp only at h); omega) | (have q1 := hFb k hk; (try dsimp only at h); omega) | ((try dsimp only at hk); (try dsimp only at h); omega))).keepM e10 (by intro k hk h; first | (have q1 := hF k hk; (try dsimp only at h); omega) | (have q1 := hF2 k hk; (try dsimp only at h); omega) | (have q1 := hFb k hk; (try dsimp only at h); omega) | ((try dsimp only at hk); (try dsimp only at h); omega)))).weak (by intro j hj; (try dsimp only at hj); (try dsimp only); omega), (((((((hyv9.keep e5).keepM e6 (by intro k hk h; first | (have q1 := hF k hk; (try dsimp only at h); omega) | (have q1 := hF2 k hk; (try dsimp only at h); omega) | (have q1 := hFb k hk; (try dsimp only at h); omega) | ((try dsimp only at hk); (try dsimp only at h); omega))).keep e7).keep e8).keepM e9 (by intro k hk h; first | (have q1 := hF k hk; (try dsimp only at h); omega) | (have q1 := hF2 k hk; (try dsimp only at h); omega) | (have q1 := hFb k hk; (try dsimp only at h); omega) | ((try dsimp only at hk); (try dsimp only at h); omega))).keepM e10 (by intro k hk h; first | (have q1 := hF k hk; (try dsimp only at h); omega) | (have q1 := hF2 k hk; (try dsimp only at h); omega) | (have q1 := hFb k hk; (try dsimp only at h); omega) | ((try dsimp only at hk); (try dsimp only at h); omega)))).weak (by intro j hj; (try dsimp only at hj); (try dsimp only); omega), ⟨by have := hnv9.1; omega, by have := hnv9.2; omega⟩, .inl ⟨rfl, hcv9, Cn.seg_whole hsv9 hk9⟩, (Ext.new (Ext.new (Ext.trans (Ext.trans (Ext.new (Ext.trans (Ext.new (Ext.trans (Ext.trans e1 e2) e3) e4 (by rintro i hi rfl; omega)) e5) e6 (by rintro i hi rfl; omega)) e7) e8) e9 (by rintro i hi rfl; omega)) e10 (by rintro i hi rfl; omega))⟩
  ·
    rintro a ch wz hh ⟨rfl, hno, ez⟩
    refine leaves1 (by simp) Tryz.call82 (caught_wrong b3 0 wz ((h3).keep ez)) ?_
    rintro w9 ⟨ho9, e9⟩
    have h2l := (((h2.keep e2)).keep ez).lt
    refine ⟨_, res_cc (s := 2) rfl (hh 2 (by decide)) (hh 3 (by decide)) Tryz.isAgg25 Tryz.sizeOf25 ((((h2.keep e2)).keep ez).keepM e9 (by intro h; (try dsimp only at h); omega)) rfl Tryz.isAgg33 ho9, ?_⟩
    exact ⟨_, _, ([], []), 12, rfl, Sl.nil _ _ _, Sl.nil _ _ _, ⟨by simp, by simp⟩, .inr ⟨rfl, rfl, hno⟩, Ext.new (Ext.trans (Ext.trans e1 e2) ez) e9 (by intro i hi h; (try dsimp only at h); omega)⟩

set_option maxHeartbeats 2000000 in
theorem dcart_spec (v0 : Value) (l : List UInt8) (F : Nat → Prop) (w : World) (hl : Sl byteE w F v0 l) (hL : l.length ≤ 1000000) (hF : ∀ j, F j → j < w.heap.size) (mx : Mx w) :
    Ret Tryz.prog 34 #[v0] w (fun v w' => ∃ (v1 v2 v3 : Value) (c : Cn.Cart) (e : Int), v = .tuple #[.agg #[v1, v2, v3], .int .i64 e] ∧ Fre Dt.dotF 51 w' (fun j => w.heap.size ≤ j ∧ j < w'.heap.size) v1 c.1.1 ∧ Fre Dt.dotF 51 w' (fun j => w.heap.size ≤ j ∧ j < w'.heap.size) v2 c.1.2 ∧ SlI 56 53 w' (fun j => w.heap.size ≤ j ∧ j < w'.heap.size) v3 c.2 ∧ Cn.big c ∧ Cn.CartRes l c e ∧ Le w w') := by
  have hgl := mx.lt
  have hll := hl.le
  refine enter (args := [v0]) (n := 23) Tryz.func34 rfl rfl (Nat.le_of_ble_eq_true rfl) ?_
  refine C.seqK fun K1 hK1 => ?_
  refine C.region ?_
  refine O.alloc Tryz.zeroValue28 (fun b2 w1 hb2 hz2 e1 => ?_)
  have z1 := e1.size
  have h2 := hz2.own
  have hl2 := h2.lt
  refine O.asg ?_
  refine O.nil ?_
  refine hK1 _ _ ?_
  refine C.seqK fun K2 hK2 => ?_
  refine C.region ?_
  refine O.mv ?_
  refine O.call Tryz.call58 (args1 rfl) (prefix_spec _ l _ _ (hl.keep e1) hL (fun j hj => by have q1 := hF j hj; omega) (mx.keep e1)) ?_
  rintro v_9 w2 ⟨vav9, vbv9, vcv9, cv9, knv9, env9, rfl, hxv9, hyv9, hzv9, hgv9, hpv9, e2⟩
  have z2 := e2.size
  obtain ⟨p1, rfl⟩ := hxv9.slv
  obtain ⟨p2, rfl⟩ := hyv9.slv
  obtain ⟨p3, rfl⟩ := hzv9.sl.slv
  refine O.mv ?_
  refine O.extract rfl rfl ?_
  refine O.extract rfl rfl ?_
  refine O.extract rfl rfl ?_
  refine O.alloc Tryz.zeroValue28 (fun b4 w3 hb4 hz4 e3 => ?_)
  have z3 := e3.size
  have h4 := hz4.own
  have hl4 := h4.lt
  refine O.storeA (vs := [slv p1, slv p2, slv p3]) Tryz.sizeOf28 rfl rfl rfl (by simp [slv, Value.oneCell']) h4 (Nat.le_of_ble_eq_true rfl) (fun w4 hs4 e4 z4 => ?_)
  refine O.asg ?_
  refine O.asg ?_
  refine O.nil ?_
  refine hK2 _ _ ?_
  refine C.seqK fun K3 hK3 => ?_
  refine C.seqK fun K4 hK4 => ?_
  refine C.region ?_
  refine O.mv ?_
  refine O.neqI rfl rfl ?_
  refine O.mv ?_
  refine O.splitD (x := .tmp 15) rfl (fun c15 => ?_) (fun c15 => ?_)
  ·
    refine O.no rfl (noB (isT rfl c15) rfl) ?_
    refine O.no rfl (noB (isT rfl c15) rfl) ?_
    refine O.no rfl (noB (isT rfl c15) rfl) ?_
    refine O.no rfl (noB (isT rfl c15) rfl) ?_
    refine O.pickT (isT rfl c15) ?_
    refine O.nil ?_
    refine hK4 _ _ ?_
    refine C.condT rfl ?_
    refine C.seqK fun K5 hK5 => ?_
    refine C.region ?_
    refine O.build (cells := #[.slice none 0 0, .slice none 0 0, .slice none 0 0]) rfl (by kernel_rfl) ?_
    refine O.storeA (vs := [.slice none 0 0, .slice none 0 0, .slice none 0 0]) Tryz.sizeOf28 rfl rfl rfl (by simp [slv, Value.oneCell']) (((h2.keep e2).keep e3).keepM e4 (by intro h; (try dsimp only at h); omega)) (Nat.le_of_ble_eq_true rfl) (fun w5 hs5 e5 z5 => ?_)
    refine O.asg ?_
    refine O.nil ?_
    refine hK5 _ _ ?_
    refine C.ret ?_
    refine Outs.cellA2 rfl Tryz.isAgg28 Tryz.sizeOf28 rfl rfl hs5 rfl ?_
    rcases hpv9 with ⟨q1, q2, q3⟩ | ⟨q1, q2, q3, q4⟩
    · first
      | exact ⟨slv p1, slv p2, slv p3, cv9, 0, rfl, ((((hxv9.keep e3).keepM e4 (by intro k hk h; first | (have q1 := hF k hk; (try dsimp only at h); omega) | (have q1 := hF2 k hk; (try dsimp only at h); omega) | (have q1 := hFb k hk; (try dsimp only at h); omega) | ((try dsimp only at hk); (try dsimp only at h); omega))).keepM e5 (by intro k hk h; first | (have q1 := hF k hk; (try dsimp only at h); omega) | (have q1 := hF2 k hk; (try dsimp only at h); omega) | (have q1 := hFb k hk; (try dsimp only at h); omega) | ((try dsimp only at hk); (try dsimp only at h); omega)))).weak (by intro j hj; (try dsimp only at hj); (try dsimp only); omega), ((((hyv9.keep e3).keepM e4 (by intro k hk h; first | (have q1 := hF k hk; (try dsimp only at h); omega) | (have q1 := hF2 k hk; (try dsimp only at h); omega) | (have q1 := hFb k hk; (try dsimp only at h); omega) | ((try dsimp only at hk); (try dsimp only at h); omega))).keepM e5 (by intro k hk h; first | (have q1 := hF k hk; (try dsimp only at h); omega) | (have q1 := hF2 k hk; (try dsimp only at h); omega) | (have q1 := hFb k hk; (try dsimp only at h); omega) | ((try dsimp only at hk); (try dsimp only at h); omega)))).weak (by intro j hj; (try dsimp only at hj); (try dsimp only); omega), ((((hzv9.keep e3).keepM e4 (by intro k hk h; first | (have q1 := hF k hk; (try dsimp only at h); omega) | (have q1 := hF2 k hk; (try dsimp only at h); omega) | (have q1 := hFb k hk; (try dsimp only at h); omega) | ((try dsimp only at hk); (try dsimp only at h); omega))).keepM e5 (by intro k hk h; first | (have q1 := hF k hk; (try dsimp only at h); omega) | (have q1 := hF2 k hk; (try dsimp only at h); omega) | (have q1 := hFb k hk; (try dsimp only at h); omega) | ((try dsimp only at hk); (try dsimp only at h); omega)))).weak (by intro j hj; (try dsimp only at hj); (try dsimp only); omega), hgv9, .inl ⟨rfl, q2, Cn.seg_whole q3 (by omega)⟩, (Ext.new (Ext.new (Ext.trans (Ext.trans e1 e2) e3) e4 (by rintro i hi rfl; omega)) e5 (by rintro i hi rfl; omega))⟩
      | exact ⟨_, _, _, Cn.nil0, 12, rfl, Fre.nil _ _ _ _, Fre.nil _ _ _ _, SlI.nil _ _ _ _, Cn.big_nil0, .inr ⟨rfl, rfl, Cn.cart_more q3 q2 (by omega)⟩, (Ext.new (Ext.new (Ext.trans (Ext.trans e1 e2) e3) e4 (by rintro i hi rfl; omega)) e5 (by rintro i hi rfl; omega))⟩
      | (exfalso; omega)
    · first
      | exact ⟨_, _, _, Cn.nil0, 12, rfl, Fre.nil _ _ _ _, Fre.nil _ _ _ _, SlI.nil _ _ _ _, Cn.big_nil0, .inr ⟨rfl, rfl, Cn.no_whole q4⟩, (Ext.new (Ext.new (Ext.trans (Ext.trans e1 e2) e3) e4 (by rintro i hi rfl; omega)) e5 (by rintro i hi rfl; omega))⟩
      | (exfalso; omega)
  ·
    refine O.yes rfl (isF rfl c15) ?_
    refine O.mv ?_
    refine O.yes rfl (isF rfl c15) ?_
    refine O.mv ?_
    refine O.yes rfl (isF rfl c15) ?_
    refine O.len Tryz.underlying32 rfl (hl.keep (Ext.new (Ext.trans (Ext.trans e1 e2) e3) e4 (by rintro i hi rfl; omega))) ?_
    refine O.yes rfl (isF rfl c15) ?_
    refine O.neqI rfl rfl ?_
    refine O.pickF (isF rfl c15) ?_
    refine O.nil ?_
    refine hK4 _ _ ?_
    refine C.condD rfl (fun c20 => ?_) (fun c20 => ?_)
    ·
      refine C.seqK fun K6 hK6 => ?_
      refine C.region ?_
      refine O.build (cells := #[.slice none 0 0, .slice none 0 0, .slice none 0 0]) rfl (by kernel_rfl) ?_
      refine O.storeA (vs := [.slice none 0 0, .slice none 0 0, .slice none 0 0]) Tryz.sizeOf28 rfl rfl rfl (by simp [slv, Value.oneCell']) (((h2.keep e2).keep e3).keepM e4 (by intro h; (try dsimp only at h); omega)) (Nat.le_of_ble_eq_true rfl) (fun w6 hs6 e6 z6 => ?_)
      refine O.asg ?_
      refine O.nil ?_
      refine hK6 _ _ ?_
      refine C.ret ?_
      refine Outs.cellA2 rfl Tryz.isAgg28 Tryz.sizeOf28 rfl rfl hs6 rfl ?_
      rcases hpv9 with ⟨q1, q2, q3⟩ | ⟨q1, q2, q3, q4⟩
      · first
        | exact ⟨slv p1, slv p2, slv p3, cv9, 0, rfl, ((((hxv9.keep e3).keepM e4 (by intro k hk h; first | (have q1 := hF k hk; (try dsimp only at h); omega) | (have q1 := hF2 k hk; (try dsimp only at h); omega) | (have q1 := hFb k hk; (try dsimp only at h); omega) | ((try dsimp only at hk); (try dsimp only at h); omega))).keepM e6 (by intro k hk h; first | (have q1 := hF k hk; (try dsimp only at h); omega) | (have q1 := hF2 k hk; (try dsimp only at h); omega) | (have q1 := hFb k hk; (try dsimp only at h); omega) | ((try dsimp only at hk); (try dsimp only at h); omega)))).weak (by intro j hj; (try dsimp only at hj); (try dsimp only); omega), ((((hyv9.keep e3).keepM e4 (by intro k hk h; first | (have q1 := hF k hk; (try dsimp only at h); omega) | (have q1 := hF2 k hk; (try dsimp only at h); omega) | (have q1 := hFb k hk; (try dsimp only at h); omega) | ((try dsimp only at hk); (try dsimp only at h); omega))).keepM e6 (by intro k hk h; first | (have q1 := hF k hk; (try dsimp only at h); omega) | (have q1 := hF2 k hk; (try dsimp only at h); omega) | (have q1 := hFb k hk; (try dsimp only at h); omega) | ((try dsimp only at hk); (try dsimp only at h); omega)))).weak (by intro j hj; (try dsimp only at hj); (try dsimp only); omega), ((((hzv9.keep e3).keepM e4 (by intro k hk h; first | (have q1 := hF k hk; (try dsimp only at h); omega) | (have q1 := hF2 k hk; (try dsimp only at h); omega) | (have q1 := hFb k hk; (try dsimp only at h); omega) | ((try dsimp only at hk); (try dsimp only at h); omega))).keepM e6 (by intro k hk h; first | (have q1 := hF k hk; (try dsimp only at h); omega) | (have q1 := hF2 k hk; (try dsimp only at h); omega) | (have q1 := hFb k hk; (try dsimp only at h); omega) | ((try dsimp only at hk); (try dsimp only at h); omega)))).weak (by intro j hj; (try dsimp only at hj); (try dsimp only); omega), hgv9, .inl ⟨rfl, q2, Cn.seg_whole q3 (by omega)⟩, (Ext.new (Ext.new (Ext.trans (Ext.trans e1 e2) e3) e4 (by rintro i hi rfl; omega)) e6 (by rintro i hi rfl; omega))⟩
        | exact ⟨_, _, _, Cn.nil0, 12, rfl, Fre.nil _ _ _ _, Fre.nil _ _ _ _, SlI.nil _ _ _ _, Cn.big_nil0, .inr ⟨rfl, rfl, Cn.cart_more q3 q2 (by omega)⟩, (Ext.new (Ext.new (Ext.trans (Ext.trans e1 e2) e3) e4 (by rintro i hi rfl; omega)) e6 (by rintro i hi rfl; omega))⟩
        | (exfalso; omega)
      · first
        | exact ⟨_, _, _, Cn.nil0, 12, rfl, Fre.nil _ _ _ _, Fre.nil _ _ _ _, SlI.nil _ _ _ _, Cn.big_nil0, .inr ⟨rfl, rfl, Cn.no_whole q4⟩, (Ext.new (Ext.new (Ext.trans (Ext.trans e1 e2) e3) e4 (by rintro i hi rfl; omega)) e6 (by rintro i hi rfl; omega))⟩
        | (exfalso; omega)
    ·
      refine C.skip ?_
      refine hK3 _ _ ?_
      refine C.seqK fun K7 hK7 => ?_
      refine C.region ?_
      refine O.loadOA Tryz.isAgg28 Tryz.sizeOf28 rfl hs4 (Nat.le_of_ble_eq_true rfl) ?_
      refine O.storeA (vs := [slv p1, slv p2, slv p3]) Tryz.sizeOf28 rfl rfl rfl (by simp [slv, Value.oneCell']) (((h2.keep e2).keep e3).keepM e4 (by intro h; (try dsimp only at h); omega)) (Nat.le_of_ble_eq_true rfl) (fun w7 hs7 e7 z7 => ?_)
      refine O.asg ?_
      refine O.nil ?_
      refine hK7 _ _ ?_
      refine C.ret ?_
      refine Outs.cellA2 rfl Tryz.isAgg28 Tryz.sizeOf28 rfl rfl hs7 rfl ?_
      rcases hpv9 with ⟨q1, q2, q3⟩ | ⟨q1, q2, q3, q4⟩
      · first
        | exact ⟨slv p1, slv p2, slv p3, cv9, 0, rfl, ((((hxv9.keep e3).keepM e4 (by intro k hk h; first | (have q1 := hF k hk; (try dsimp only at h); omega) | (have q1 := hF2 k hk; (try dsimp only at h); omega) | (have q1 := hFb k hk; (try dsimp only at h); omega) | ((try dsimp only at hk); (try dsimp only at h); omega))).keepM e7 (by intro k hk h; first | (have q1 := hF k hk; (try dsimp only at h); omega) | (have q1 := hF2 k hk; (try dsimp only at h); omega) | (have q1 := hFb k hk; (try dsimp only at h); omega) | ((try dsimp only at hk); (try dsimp only at h); omega)))).weak (by intro j hj; (try dsimp only at hj); (try dsimp only); omega), ((((hyv9.keep e3).keepM e4 (by intro k hk h; first | (have q1 := hF k hk; (try dsimp only at h); omega) | (have q1 := hF2 k hk; (try dsimp only at h); omega) | (have q1 := hFb k hk; (try dsimp only at h); omega) | ((try dsimp only at hk); (try dsimp only at h); omega))).keepM e7 (by intro k hk h; first | (have q1 := hF k hk; (try dsimp only at h); omega) | (have q1 := hF2 k hk; (try dsimp only at h); omega) | (have q1 := hFb k hk; (try dsimp only at h); omega) | ((try dsimp only at hk); (try dsimp only at h); omega)))).weak (by intro j hj; (try dsimp only at hj); (try dsimp only); omega), ((((hzv9.keep e3).keepM e4 (by intro k hk h; first | (have q1 := hF k hk; (try dsimp only at h); omega) | (have q1 := hF2 k hk; (try dsimp only at h); omega) | (have q1 := hFb k hk; (try dsimp only at h); omega) | ((try dsimp only at hk); (try dsimp only at h); omega))).keepM e7 (by intro k hk h; first | (have q1 := hF k hk; (try dsimp only at h); omega) | (have q1 := hF2 k hk; (try dsimp only at h); omega) | (have q1 := hFb k hk; (try dsimp only at h); omega) | ((try dsimp only at hk); (try dsimp only at h); omega)))).weak (by intro j hj; (try dsimp only at hj); (try dsimp only); omega), hgv9, .inl ⟨rfl, q2, Cn.seg_whole q3 (by omega)⟩, (Ext.new (Ext.new (Ext.trans (Ext.trans e1 e2) e3) e4 (by rintro i hi rfl; omega)) e7 (by rintro i hi rfl; omega))⟩
        | exact ⟨_, _, _, Cn.nil0, 12, rfl, Fre.nil _ _ _ _, Fre.nil _ _ _ _, SlI.nil _ _ _ _, Cn.big_nil0, .inr ⟨rfl, rfl, Cn.cart_more q3 q2 (by omega)⟩, (Ext.new (Ext.new (Ext.trans (Ext.trans e1 e2) e3) e4 (by rintro i hi rfl; omega)) e7 (by rintro i hi rfl; omega))⟩
        | (exfalso; omega)
      · first
        | exact ⟨_, _, _, Cn.nil0, 12, rfl, Fre.nil _ _ _ _, Fre.nil _ _ _ _, SlI.nil _ _ _ _, Cn.big_nil0, .inr ⟨rfl, rfl, Cn.no_whole q4⟩, (Ext.new (Ext.new (Ext.trans (Ext.trans e1 e2) e3) e4 (by rintro i hi rfl; omega)) e7 (by rintro i hi rfl; omega))⟩
        | (exfalso; omega)

end Go.Proofs.YtnkcmaoaagnopaaGreatDoor
end
