/-
  The walks of the package of carts' bytes. Conditions: slices as they lie in memory.
-/
import Derived.Test.YtnkcmaoaagnopaaGreatDoorC7
namespace Go.Proofs.YtnkcmaoaagnopaaGreatDoor
open Go.Pn Go.RowKit Go.Proofs
attribute [local irreducible] O C D

set_option maxHeartbeats 1000000 in
theorem append_spec (v0 : Value) (bs : List UInt8) (F2 : Nat → Prop) (va1 va2 va3 : Value) (a : Cn.Cart) (F : Nat → Prop) (w : World) (hb : Sl byteE w F2 v0 bs) (hbn : bs.length ≤ 1000000) (hav : Sl Dt.dotF.enc w F va1 a.1.1) (hac : Sl Dt.dotF.enc w F va2 a.1.2) (hai : Sl itemE w F va3 a.2) (hF : ∀ k, F k → k < w.heap.size) (hn : a.2.length ≤ 1000000) (hS : ∀ x ∈ a.2, x.1.length ≤ 1000000 ∧ x.2.length ≤ 1000000) (hp : a.1.1.length ≤ 1000000) (hq : a.1.2.length ≤ 1000000) (mx : Mx w) :
    Ret Tryz.prog 23 #[v0, .agg #[va1, va2, va3]] w (fun v w' => ∃ r : Value, v = .tuple #[r, .int .i64 (if Cn.valid a then 0 else 2)] ∧ OwnF byteF 5 w.heap.size w' r (if Cn.valid a then bs ++ Cn.bytes a else []) ∧ Le w w') := by
  have hbl := Cn.bytes_le hn hS hp hq
  refine enter (args := [v0, .agg #[va1, va2, va3]]) (n := 15) Tryz.func23 rfl rfl (Nat.le_of_ble_eq_true rfl) ?_
  refine C.seqK fun K1 hK1 => ?_
  refine C.region ?_
  refine O.box (v := .agg #[va1, va2, va3]) rfl (fun b3 w1 hb3 hz3 e1 => ?_)
  have z1 := e1.size
  have h3 := hz3.own
  have hl3 := h3.lt
  refine O.asg ?_
  refine O.asg ?_
  refine O.nil ?_
  refine hK1 _ _ ?_
  refine C.seqK fun K2 hK2 => ?_
  refine C.seqK fun K3 hK3 => ?_
  refine C.region ?_
  refine O.loadOA Tryz.isAgg28 Tryz.sizeOf28 rfl h3 (Nat.le_of_ble_eq_true rfl) ?_
  refine O.call Tryz.call19 (args1 rfl) (cartValid_spec va1 va2 va3 a F _ (hav.keep e1) (hac.keep e1) (hai.keep e1) (fun k hk => by have q1 := hF k hk; omega) hn hS (mx.keep e1)) ?_
  rintro v_8 w2 ⟨rfl, e2⟩
  have z2 := e2.size
  refine O.not rfl ?_
  refine O.nil ?_
  refine hK3 _ _ ?_
  refine C.cond rfl (fun c9 => ?_) (fun c9 => ?_)
  ·
    have hva : Cn.valid a = false := by simpa using c9
    refine C.seqK fun K4 hK4 => ?_
    refine C.region ?_
    refine O.asg ?_
    refine O.asg ?_
    refine O.nil ?_
    refine hK4 _ _ ?_
    refine C.ret ?_
    refine Outs.two rfl rfl rfl ?_
    first
    | (refine ⟨_, by rw [hva]; rfl, ?_, (Ext.trans e1 e2)⟩
       rw [hva]
       exact OwnF.nil _ _ _ _)
    | (refine ⟨_, by rw [hva]; rfl, ?_, (Ext.trans e1 e2)⟩
       rw [hva]
       exact (({app:14}).low (by omega)).lst rfl)
  ·
    have hva : Cn.valid a = true := by simpa using c9
    refine C.skip ?_
    refine hK2 _ _ ?_
    refine C.seqK fun K5 hK5 => ?_
    refine C.region ?_
    refine O.alloc Tryz.zeroValue77 (fun b6 w3 hb6 hz6 e3 => ?_)
    have z3 := e3.size
    have h6 := hz6.own
    have hl6 := h6.lt
    have hwr6 : Wr 77 5 w3 b6 b6 [] := Wr.new h6
    refine O.nil ?_
    refine hK5 _ _ ?_
    refine C.seqK fun K6 hK6 => ?_
    refine C.region ?_
    refine O.mv ?_
    refine O.call Tryz.call50 (args2 rfl rfl) (wput_spec b6 b6 [] v0 bs F2 _ hwr6 (by simp) (((hb.keep e1).keep e2).keep e3) (by omega)) ?_
    rintro v_11 w4 ⟨rfl, gv11, hv11, hgv11, hlv11, e4⟩
    have z4 := e4.size
    refine O.nil ?_
    refine hK6 _ _ ?_
    refine C.seqK fun K7 hK7 => ?_
    refine C.region ?_
    refine O.loadOA Tryz.isAgg28 Tryz.sizeOf28 rfl (((h3.keep e2).keep e3).keepM e4 (by intro h; (try dsimp only at h); omega)) (Nat.le_of_ble_eq_true rfl) ?_
    refine O.call Tryz.call51 (args2 rfl rfl) (whole_spec b6 gv11 _ va1 va2 va3 a F _ (hav.keep (Ext.new (Ext.trans (Ext.trans e1 e2) e3) e4 (by intro i hi h; (try dsimp only at h); omega))) (hac.keep (Ext.new (Ext.trans (Ext.trans e1 e2) e3) e4 (by intro i hi h; (try dsimp only at h); omega))) (hai.keep (Ext.new (Ext.trans (Ext.trans e1 e2) e3) e4 (by intro i hi h; (try dsimp only at h); omega))) hv11 (by simp; omega) (fun k hk => by have q1 := hF k hk; omega) hn hS hp hq) ?_
    rintro v_13 w5 ⟨rfl, gv13, hv13, hgv13, hlv13, e5⟩
    have z5 := e5.size
    refine O.nil ?_
    refine hK7 _ _ ?_
    refine C.seqK fun K8 hK8 => ?_
    refine C.region ?_
    refine O.call Tryz.call39 (args1 rfl) (wbytes_spec b6 gv13 _ _ hv13 (by simp only [List.length_append, List.length_nil]; omega)) ?_
    rintro v_14 w6 ⟨e6, h14⟩
    have z6 := e6.size
    refine O.asg ?_
    refine O.asg ?_
    refine O.nil ?_
    refine hK8 _ _ ?_
    refine C.ret ?_
    refine Outs.two rfl rfl rfl ?_
    first
    | (refine ⟨_, by rw [hva]; rfl, ?_, (Ext.trans (Ext.new (Ext.new (Ext.trans (Ext.trans e1 e2) e3) e4 (by intro i hi h; (try dsimp only at h); omega)) e5 (by intro i hi h; (try dsimp only at h); omega)) e6)⟩
       rw [hva]
       exact OwnF.nil _ _ _ _)
    | (refine ⟨_, by rw [hva]; rfl, ?_, (Ext.trans (Ext.new (Ext.new (Ext.trans (Ext.trans e1 e2) e3) e4 (by intro i hi h; (try dsimp only at h); omega)) e5 (by intro i hi h; (try dsimp only at h); omega)) e6)⟩
       rw [hva]
       exact ((h14).low (by omega)).lst rfl)

theorem encode_spec (va1 va2 va3 : Value) (a : Cn.Cart) (F : Nat → Prop) (w : World) (hav : Sl Dt.dotF.enc w F va1 a.1.1) (hac : Sl Dt.dotF.enc w F va2 a.1.2) (hai : Sl itemE w F va3 a.2) (hF : ∀ k, F k → k < w.heap.size) (hn : a.2.length ≤ 1000000) (hS : ∀ x ∈ a.2, x.1.length ≤ 1000000 ∧ x.2.length ≤ 1000000) (hp : a.1.1.length ≤ 1000000) (hq : a.1.2.length ≤ 1000000) (mx : Mx w) :
    Ret Tryz.prog 27 #[.agg #[va1, va2, va3]] w (fun v w' => ∃ r : Value, v = .tuple #[r, .int .i64 (if Cn.valid a then 0 else 2)] ∧ OwnF byteF 5 w.heap.size w' r (if Cn.valid a then Cn.bytes a else []) ∧ Le w w') := by
  refine enter (args := [.agg #[va1, va2, va3]]) (n := 8) Tryz.func27 rfl rfl (Nat.le_of_ble_eq_true rfl) ?_
  refine C.seqK fun K1 hK1 => ?_
  refine C.region ?_
  refine O.box (v := .agg #[va1, va2, va3]) rfl (fun b1 w1 hb1 hz1 e1 => ?_)
  have z1 := e1.size
  have h1 := hz1.own
  have hl1 := h1.lt
  refine O.asg ?_
  refine O.asg ?_
  refine O.nil ?_
  refine hK1 _ _ ?_
  refine C.seqK fun K2 hK2 => ?_
  refine C.region ?_
  refine O.loadOA Tryz.isAgg28 Tryz.sizeOf28 rfl h1 (Nat.le_of_ble_eq_true rfl) ?_
  refine O.call Tryz.call23 (args2 rfl rfl) (append_spec (.slice none 0 0) [] (fun _ => False) va1 va2 va3 a F _ (Sl.nil _ _ _) (by simp) (hav.keep e1) (hac.keep e1) (hai.keep e1) (fun k hk => by have q1 := hF k hk; omega) hn hS hp hq (mx.keep e1)) ?_
  rintro v_5 w2 ⟨rv5, rfl, hv5, e2⟩
  have z2 := e2.size
  refine O.extract rfl rfl ?_
  refine O.extract rfl rfl ?_
  refine O.asg ?_
  refine O.asg ?_
  refine O.nil ?_
  refine hK2 _ _ ?_
  refine C.ret ?_
  refine Outs.two rfl rfl rfl ?_
  exact ⟨_, rfl, hv5.low (by omega), (Ext.trans e1 e2)⟩

theorem size_spec (va1 va2 va3 : Value) (a : Cn.Cart) (F : Nat → Prop) (w : World) (hav : Sl Dt.dotF.enc w F va1 a.1.1) (hac : Sl Dt.dotF.enc w F va2 a.1.2) (hai : Sl itemE w F va3 a.2) (hF : ∀ k, F k → k < w.heap.size) (hn : a.2.length ≤ 1000000) (hS : ∀ x ∈ a.2, x.1.length ≤ 1000000 ∧ x.2.length ≤ 1000000) (hp : a.1.1.length ≤ 1000000) (hq : a.1.2.length ≤ 1000000) (mx : Mx w) :
    Ret Tryz.prog 24 #[.agg #[va1, va2, va3]] w (fun v w' => v = .tuple #[.int .i64 (if Cn.valid a then ((Cn.bytes a).length : Int) else 0), .int .i64 (if Cn.valid a then 0 else 2)] ∧ Le w w') := by
  refine enter (args := [.agg #[va1, va2, va3]]) (n := 14) Tryz.func24 rfl rfl (Nat.le_of_ble_eq_true rfl) ?_
  refine C.seqK fun K1 hK1 => ?_
  refine C.region ?_
  refine O.box (v := .agg #[va1, va2, va3]) rfl (fun b1 w1 hb1 hz1 e1 => ?_)
  have z1 := e1.size
  have h1 := hz1.own
  have hl1 := h1.lt
  refine O.asg ?_
  refine O.asg ?_
  refine O.nil ?_
  refine hK1 _ _ ?_
  refine C.seqK fun K2 hK2 => ?_
  refine C.region ?_
  refine O.loadOA Tryz.isAgg28 Tryz.sizeOf28 rfl h1 (Nat.le_of_ble_eq_true rfl) ?_
  refine O.call Tryz.call27 (args1 rfl) (encode_spec va1 va2 va3 a F _ (hav.keep e1) (hac.keep e1) (hai.keep e1) (fun k hk => by have q1 := hF k hk; omega) hn hS hp hq (mx.keep e1)) ?_
  rintro v_8 w2 ⟨rv8, rfl, hv8, e2⟩
  have z2 := e2.size
  have h8s := hv8.sl
  refine O.mv ?_
  refine O.extract rfl rfl ?_
  refine O.extract rfl rfl ?_
  refine O.asg ?_
  refine O.asg ?_
  refine O.nil ?_
  refine hK2 _ _ ?_
  refine C.seqK fun K3 hK3 => ?_
  refine C.region ?_
  refine O.mv ?_
  refine O.len Tryz.underlying32 rfl h8s ?_
  refine O.mv ?_
  refine O.asg ?_
  refine O.asg ?_
  refine O.nil ?_
  refine hK3 _ _ ?_
  refine C.ret ?_
  refine Outs.two rfl rfl rfl ?_
  refine ⟨?_, (Ext.trans e1 e2)⟩
  by_cases hva : Cn.valid a = true
  · rw [if_pos hva, if_pos hva, if_pos hva]; rfl
  · rw [if_neg hva, if_neg hva, if_neg hva]; rfl

theorem context_spec (v1 v2 : Value) (x : Cn.Ctx) (F : Nat → Prop) (w : World) (hv : Sl Dt.dotF.enc w F v1 x.1) (hc : Sl Dt.dotF.enc w F v2 x.2) (hF : ∀ k, F k → k < w.heap.size) (hp : x.1.length ≤ 1000000) (hq : x.2.length ≤ 1000000) :
    Ret Tryz.prog 16 #[.agg #[v1, v2]] w (fun v w' => ∃ r : Value, v = .tuple #[r, .int .i64 (if Cn.isCompact x then 0 else 2)] ∧ OwnF byteF 5 w.heap.size w' r (if Cn.isCompact x then Cn.ctxB x else []) ∧ Le w w') := by
  have hd1 := Cn.dotsB_le hp
  have hd2 := Cn.dotsB_le hq
  have hcl : (Cn.ctxB x).length ≤ 40000020 := by unfold Cn.ctxB; rw [List.length_append]; omega
  refine enter (args := [.agg #[v1, v2]]) (n := 11) Tryz.func16 rfl rfl (Nat.le_of_ble_eq_true rfl) ?_
  refine C.seqK fun K1 hK1 => ?_
  refine C.region ?_
  refine O.box (v := .agg #[v1, v2]) rfl (fun b1 w1 hb1 hz1 e1 => ?_)
  have z1 := e1.size
  have h1 := hz1.own
  have hl1 := h1.lt
  refine O.asg ?_
  refine O.asg ?_
  refine O.nil ?_
  refine hK1 _ _ ?_
  refine C.seqK fun K2 hK2 => ?_
  refine C.seqK fun K3 hK3 => ?_
  refine C.region ?_
  refine O.loadOA Tryz.isAgg25 Tryz.sizeOf25 rfl h1 (Nat.le_of_ble_eq_true rfl) ?_
  refine O.call Tryz.call17 (args1 rfl) (isCompact_spec v1 v2 x F _ (hv.keep e1) (hc.keep e1)) ?_
  rintro v_6 w2 ⟨rfl, e2⟩
  have z2 := e2.size
  refine O.not rfl ?_
  refine O.nil ?_
  refine hK3 _ _ ?_
  refine C.cond rfl (fun c7 => ?_) (fun c7 => ?_)
  ·
    have hva : Cn.isCompact x = false := by simpa using c7
    refine C.seqK fun K4 hK4 => ?_
    refine C.region ?_
    refine O.asg ?_
    refine O.asg ?_
    refine O.nil ?_
    refine hK4 _ _ ?_
    refine C.ret ?_
    refine Outs.two rfl rfl rfl ?_
    first
    | (refine ⟨_, by rw [hva]; rfl, ?_, (Ext.trans e1 e2)⟩
       rw [hva]
       exact OwnF.nil _ _ _ _)
    | (refine ⟨_, by rw [hva]; rfl, ?_, (Ext.trans e1 e2)⟩
       rw [hva]
       exact (({app:10}).low (by omega)).lst rfl)
  ·
    have hva : Cn.isCompact x = true := by simpa using c7
    refine C.skip ?_
    refine hK2 _ _ ?_
    refine C.seqK fun K5 hK5 => ?_
    refine C.region ?_
    refine O.alloc Tryz.zeroValue77 (fun b4 w3 hb4 hz4 e3 => ?_)
    have z3 := e3.size
    have h4 := hz4.own
    have hl4 := h4.lt
    have hwr4 : Wr 77 5 w3 b4 b4 [] := Wr.new h4
    refine O.nil ?_
    refine hK5 _ _ ?_
    refine C.seqK fun K6 hK6 => ?_
    refine C.region ?_
    refine O.loadOA Tryz.isAgg25 Tryz.sizeOf25 rfl ((h1.keep e2).keep e3) (Nat.le_of_ble_eq_true rfl) ?_
    refine O.call Tryz.call38 (args2 rfl rfl) (seen_spec b4 b4 [] v1 v2 x F _ (((hv.keep e1).keep e2).keep e3) (((hc.keep e1).keep e2).keep e3) hwr4 (by simp) (fun k hk => by have q1 := hF k hk; omega) hp hq) ?_
    rintro v_9 w4 ⟨rfl, gv9, hv9, hgv9, hlv9, e4⟩
    have z4 := e4.size
    refine O.nil ?_
    refine hK6 _ _ ?_
    refine C.seqK fun K7 hK7 => ?_
    refine C.region ?_
    refine O.call Tryz.call39 (args1 rfl) (wbytes_spec b4 gv9 _ _ hv9 (by simp only [List.length_append, List.length_nil]; omega)) ?_
    rintro v_10 w5 ⟨e5, h10⟩
    have z5 := e5.size
    refine O.asg ?_
    refine O.asg ?_
    refine O.nil ?_
    refine hK7 _ _ ?_
    refine C.ret ?_
    refine Outs.two rfl rfl rfl ?_
    first
    | (refine ⟨_, by rw [hva]; rfl, ?_, (Ext.trans (Ext.new (Ext.trans (Ext.trans e1 e2) e3) e4 (by intro i hi h; (try dsimp only at h); omega)) e5)⟩
       rw [hva]
       exact OwnF.nil _ _ _ _)
    | (refine ⟨_, by rw [hva]; rfl, ?_, (Ext.trans (Ext.new (Ext.trans (Ext.trans e1 e2) e3) e4 (by intro i hi h; (try dsimp only at h); omega)) e5)⟩
       rw [hva]
       exact ((h10).low (by omega)).lst rfl)

theorem isNaNB_spec (x : BitVec 8) (w : World) :
    Ret Tryz.prog 103 #[.int .u8 ((x).toNat : Int)] w (fun v w' => v = .bool false ∧ w' = w) := by
  refine enter (args := [.int .u8 ((x).toNat : Int)]) (n := 6) Tryz.func103 rfl rfl (Nat.le_of_ble_eq_true rfl) ?_
  refine C.seqK fun K1 hK1 => ?_
  refine C.region ?_
  refine O.asg ?_
  refine O.nil ?_
  refine hK1 _ _ ?_
  refine C.seqK fun K2 hK2 => ?_
  refine C.region ?_
  refine O.mv ?_
  refine O.mv ?_
  refine O.neqU (m := 8) rfl rfl ?_
  refine O.cast (v' := .bool false) (congrArg Value.bool (by exact decide_eq_false (fun h => h rfl))) ?_
  refine O.asg ?_
  refine O.nil ?_
  refine hK2 _ _ ?_
  refine C.ret ?_
  refine Outs.one rfl rfl ?_
  exact ⟨rfl, rfl⟩

theorem bcmp_spec (x y : BitVec 8) (w : World) :
    Ret Tryz.prog 76 #[.int .u8 ((x).toNat : Int), .int .u8 ((y).toNat : Int)] w (fun v w' => v = .int .i64 (if x.toNat < y.toNat then -1 else if y.toNat < x.toNat then 1 else 0) ∧ w' = w) := by
  refine enter (args := [.int .u8 ((x).toNat : Int), .int .u8 ((y).toNat : Int)]) (n := 20) Tryz.func76 rfl rfl (Nat.le_of_ble_eq_true rfl) ?_
  refine C.seqK fun K1 hK1 => ?_
  refine C.region ?_
  refine O.asg ?_
  refine O.nil ?_
  refine hK1 _ _ ?_
  refine C.seqK fun K2 hK2 => ?_
  refine C.region ?_
  refine O.mv ?_
  refine O.call Tryz.call103 (args1 rfl) (isNaNB_spec _ _) ?_
  rintro v_8 w1 ⟨rfl, hw_⟩
  replace hw_ := hw_.symm
  subst hw_
  refine O.asg ?_
  refine O.nil ?_
  refine hK2 _ _ ?_
  refine C.seqK fun K3 hK3 => ?_
  refine C.region ?_
  refine O.mv ?_
  refine O.call Tryz.call103 (args1 rfl) (isNaNB_spec _ _) ?_
  rintro v_10 w1 ⟨rfl, hw_⟩
  replace hw_ := hw_.symm
  subst hw_
  refine O.asg ?_
  refine O.nil ?_
  refine hK3 _ _ ?_
  refine C.seqK fun K4 hK4 => ?_
  refine C.seqK fun K5 hK5 => ?_
  refine C.region ?_
  refine O.mv ?_
  refine O.nil ?_
  refine hK5 _ _ ?_
  refine C.condF rfl ?_
  refine C.skip ?_
  refine hK4 _ _ ?_
  refine C.seqK fun K6 hK6 => ?_
  refine C.seqK fun K7 hK7 => ?_
  refine C.region ?_
  refine O.mv ?_
  refine O.nil ?_
  refine hK7 _ _ ?_
  refine C.condF rfl ?_
  refine C.skip ?_
  refine hK6 _ _ ?_
  refine C.seqK fun K8 hK8 => ?_
  refine C.seqK fun K9 hK9 => ?_
  refine C.region ?_
  refine O.mv ?_
  refine O.mv ?_
  refine O.lssU (m := 8) rfl rfl ?_
  refine O.nil ?_
  refine hK9 _ _ ?_
  refine C.condD rfl (fun c16 => ?_) (fun c16 => ?_)
  ·
    refine C.seqK fun K10 hK10 => ?_
    refine C.region ?_
    refine O.asg ?_
    refine O.nil ?_
    refine hK10 _ _ ?_
    refine C.ret ?_
    refine Outs.one rfl rfl ?_
    first
    | (rw [if_pos (by simpa [BitVec.lt_def] using c16)]; exact ⟨rfl, rfl⟩)
    | (rw [if_neg (by simpa [BitVec.lt_def, BitVec.le_def] using c16), if_pos (by simpa [BitVec.lt_def] using c19)]; exact ⟨rfl, rfl⟩)
    | (rw [if_neg (by simpa [BitVec.lt_def, BitVec.le_def] using c16), if_neg (by simpa [BitVec.lt_def, BitVec.le_def] using c19)]; exact ⟨rfl, rfl⟩)
  ·
    refine C.skip ?_
    refine hK8 _ _ ?_
    refine C.seqK fun K11 hK11 => ?_
    refine C.seqK fun K12 hK12 => ?_
    refine C.region ?_
    refine O.mv ?_
    refine O.mv ?_
    refine O.gtrU (m := 8) rfl rfl ?_
    refine O.nil ?_
    refine hK12 _ _ ?_
    refine C.condD rfl (fun c19 => ?_) (fun c19 => ?_)
    ·
      refine C.seqK fun K13 hK13 => ?_
      refine C.region ?_
      refine O.asg ?_
      refine O.nil ?_
      refine hK13 _ _ ?_
      refine C.ret ?_
      refine Outs.one rfl rfl ?_
      first
      | (rw [if_pos (by simpa [BitVec.lt_def] using c16)]; exact ⟨rfl, rfl⟩)
      | (rw [if_neg (by simpa [BitVec.lt_def, BitVec.le_def] using c16), if_pos (by simpa [BitVec.lt_def] using c19)]; exact ⟨rfl, rfl⟩)
      | (rw [if_neg (by simpa [BitVec.lt_def, BitVec.le_def] using c16), if_neg (by simpa [BitVec.lt_def, BitVec.le_def] using c19)]; exact ⟨rfl, rfl⟩)
    ·
      refine C.skip ?_
      refine hK11 _ _ ?_
      refine C.seqK fun K14 hK14 => ?_
      refine C.region ?_
      refine O.asg ?_
      refine O.nil ?_
      refine hK14 _ _ ?_
      refine C.ret ?_
      refine Outs.one rfl rfl ?_
      first
      | (rw [if_pos (by simpa [BitVec.lt_def] using c16)]; exact ⟨rfl, rfl⟩)
      | (rw [if_neg (by simpa [BitVec.lt_def, BitVec.le_def] using c16), if_pos (by simpa [BitVec.lt_def] using c19)]; exact ⟨rfl, rfl⟩)
      | (rw [if_neg (by simpa [BitVec.lt_def, BitVec.le_def] using c16), if_neg (by simpa [BitVec.lt_def, BitVec.le_def] using c19)]; exact ⟨rfl, rfl⟩)

theorem bscmp_spec (v0 : Value) (x : List UInt8) (v1 : Value) (y : List UInt8) (F F2 : Nat → Prop) (w : World) (ha : Sl byteE w F v0 x) (hb : Sl byteE w F2 v1 y) :
    Ret Tryz.prog 52 #[v0, v1] w (fun v w' => v = .int .i64 (Cn.cmpB x y) ∧ Le w w') := by
  have hale := ha.le
  have hble := hb.le
  refine enter (args := [v0, v1]) (n := 36) Tryz.func52 rfl rfl (Nat.le_of_ble_eq_true rfl) ?_
  refine C.seqK fun K1 hK1 => ?_
  refine C.region ?_
  refine O.asg ?_
  refine O.nil ?_
  refine hK1 _ _ ?_
  refine C.seqK fun K2 hK2 => ?_
  refine C.seqK fun K3 hK3 => ?_
  refine C.region ?_
  refine O.mv ?_
  refine O.len Tryz.underlying32 rfl ha ?_
  refine O.mv ?_
  refine O.nil ?_
  refine hK3 _ _ ?_
  refine C.block fun K4 hK4 => ?_
  refine C.loop0 (σ := Nat) (fun f0 w0 k f wz => f 11 = .int .i64 (k) ∧ f 0 = f0 0 ∧ f 1 = f0 1 ∧ f 9 = f0 9 ∧ f 10 = f0 10 ∧ Le w wz ∧ k ≤ x.length ∧ k ≤ y.length ∧ Cn.cmpB (x.drop k) (y.drop k) = Cn.cmpB x y) (fun k => x.length - k) 0 ?_ ?_
  ·
    refine ⟨rfl, rfl, rfl, rfl, rfl, (Le.refl _), ?_⟩
    exact ⟨Nat.zero_le _, Nat.zero_le _, rfl⟩
  ·
    rintro k f_1 w1 ⟨s11_1, s0_1, s1_1, s9_1, s10_1, e_1, ⟨hk, hky, hI⟩⟩
    have z_1 := e_1.size
    refine C.seqK fun K5 hK5 => ?_
    refine C.region ?_
    refine O.lssI s11_1 s10_1 ?_
    refine O.nil ?_
    refine hK5 _ _ ?_
    refine C.seqK fun K6 hK6 => ?_
    refine C.condD rfl (fun c12 => ?_) (fun c12 => ?_)
    ·
      have hk2 : k < x.length := by omega
      refine C.skip ?_
      refine hK6 _ _ ?_
      refine C.seqK fun K7 hK7 => ?_
      refine C.block fun K8 hK8 => ?_
      refine C.seqK fun K9 hK9 => ?_
      refine C.region ?_
      refine O.mv ?_
      refine O.idx Tryz.underlying32 Tryz.sizeOf5 rfl s9_1 (ha.keep e_1) s11_1 (by omega) (fun a14 h14 => ?_)
      refine O.loadB Tryz.isAgg5 rfl h14 ?_
      refine O.asg ?_
      refine O.asg ?_
      refine O.nil ?_
      refine hK9 _ _ ?_
      refine C.seqK fun K10 hK10 => ?_
      refine C.seqK fun K11 hK11 => ?_
      refine C.region ?_
      refine O.mv ?_
      refine O.mv ?_
      refine O.len Tryz.underlying32 s1_1 (hb.keep e_1) ?_
      refine O.geqI s11_1 rfl ?_
      refine O.nil ?_
      refine hK11 _ _ ?_
      refine C.condD rfl (fun c19 => ?_) (fun c19 => ?_)
      ·
        refine C.seqK fun K12 hK12 => ?_
        refine C.region ?_
        refine O.asg ?_
        refine O.nil ?_
        refine hK12 _ _ ?_
        refine C.ret ?_
        refine Outs.one rfl rfl ?_
        first
        | (refine ⟨congrArg (Value.int .i64) ?_, e_1⟩
           rw [← hI, Cn.cmpB_end hk hky (.inr (by omega)), if_neg (by omega), if_pos (by omega)])
        | (refine ⟨congrArg (Value.int .i64) ?_, e_1⟩
           rw [← hI, Cn.cmpB_three hk2 hk3 hq c28])
        | (refine ⟨congrArg (Value.int .i64) ?_, e_1⟩
           rw [← hI, Cn.cmpB_end hk hky (.inl (by omega))]
           first
           | rw [if_pos (by omega)]
           | rw [if_neg (by omega), if_neg (by omega)])
      ·
        have hk3 : k < y.length := by omega
        refine C.skip ?_
        refine hK10 _ _ ?_
        refine C.seqK fun K13 hK13 => ?_
        refine C.region ?_
        refine O.mv ?_
        refine O.mv ?_
        refine O.idx Tryz.underlying32 Tryz.sizeOf5 rfl s1_1 (hb.keep e_1) s11_1 (by omega) (fun a22 h22 => ?_)
        refine O.loadB Tryz.isAgg5 rfl h22 ?_
        have hk4 := hk3
        refine O.asg ?_
        refine O.nil ?_
        refine hK13 _ _ ?_
        refine C.seqK fun K14 hK14 => ?_
        refine C.region ?_
        refine O.mv ?_
        refine O.mv ?_
        refine O.call Tryz.call76 (args2 rfl rfl) (bcmp_spec (x[k]'hk2).toBitVec (y[k]'hk3).toBitVec _) ?_
        rintro v_26 w2 ⟨rfl, hw_⟩
        replace hw_ := hw_.symm
        subst hw_
        obtain ⟨q, hq⟩ : ∃ q : Int, q = (if (x[k]'hk2).toNat < (y[k]'hk3).toNat then -1 else if (y[k]'hk3).toNat < (x[k]'hk2).toNat then 1 else 0) := ⟨_, rfl⟩
        refine O.cast (v' := .int .i64 q) (by rw [hq]; rfl) ?_
        refine O.asg ?_
        refine O.nil ?_
        refine hK14 _ _ ?_
        refine C.seqK fun K15 hK15 => ?_
        refine C.region ?_
        refine O.mv ?_
        refine O.neqI rfl rfl ?_
        refine O.nil ?_
        refine hK15 _ _ ?_
        refine C.condD rfl (fun c28 => ?_) (fun c28 => ?_)
        ·
          refine C.seqK fun K16 hK16 => ?_
          refine C.region ?_
          refine O.mv ?_
          refine O.asg ?_
          refine O.nil ?_
          refine hK16 _ _ ?_
          refine C.ret ?_
          refine Outs.one rfl rfl ?_
          first
          | (refine ⟨congrArg (Value.int .i64) ?_, e_1⟩
             rw [← hI, Cn.cmpB_end hk hky (.inr (by omega)), if_neg (by omega), if_pos (by omega)])
          | (refine ⟨congrArg (Value.int .i64) ?_, e_1⟩
             rw [← hI, Cn.cmpB_three hk2 hk3 hq c28])
          | (refine ⟨congrArg (Value.int .i64) ?_, e_1⟩
             rw [← hI, Cn.cmpB_end hk hky (.inl (by omega))]
             first
             | rw [if_pos (by omega)]
             | rw [if_neg (by omega), if_neg (by omega)])
        ·
          refine C.skip ?_
          refine hK8 _ _ ?_
          refine hK7 _ _ ?_
          refine C.region ?_
          refine O.addI s11_1 rfl (by unfold InI; omega) ?_
          refine O.mv ?_
          refine O.nil ?_
          refine ⟨k + 1, ⟨rfl, s0_1, s1_1, s9_1, s10_1, e_1, ?_⟩, by first | omega | (simp only []; omega)⟩
          refine ⟨by omega, by omega, ?_⟩
          rw [Cn.cmpB_next hk2 hk3 (Cn.eq_of_three (q := q) hq c28)]
          exact hI
    ·
      refine C.exit ?_
      refine hK4 _ _ ?_
      refine hK2 _ _ ?_
      refine C.seqK fun K17 hK17 => ?_
      refine C.seqK fun K18 hK18 => ?_
      refine C.region ?_
      refine O.mv ?_
      refine O.len Tryz.underlying32 s0_1 (ha.keep e_1) ?_
      refine O.mv ?_
      refine O.len Tryz.underlying32 s1_1 (hb.keep e_1) ?_
      refine O.lssI rfl rfl ?_
      refine O.nil ?_
      refine hK18 _ _ ?_
      refine C.condD rfl (fun c35 => ?_) (fun c35 => ?_)
      ·
        refine C.seqK fun K19 hK19 => ?_
        refine C.region ?_
        refine O.asg ?_
        refine O.nil ?_
        refine hK19 _ _ ?_
        refine C.ret ?_
        refine Outs.one rfl rfl ?_
        first
        | (refine ⟨congrArg (Value.int .i64) ?_, e_1⟩
           rw [← hI, Cn.cmpB_end hk hky (.inr (by omega)), if_neg (by omega), if_pos (by omega)])
        | (refine ⟨congrArg (Value.int .i64) ?_, e_1⟩
           rw [← hI, Cn.cmpB_three hk2 hk3 hq c28])
        | (refine ⟨congrArg (Value.int .i64) ?_, e_1⟩
           rw [← hI, Cn.cmpB_end hk hky (.inl (by omega))]
           first
           | rw [if_pos (by omega)]
           | rw [if_neg (by omega), if_neg (by omega)])
      ·
        refine C.skip ?_
        refine hK17 _ _ ?_
        refine C.seqK fun K20 hK20 => ?_
        refine C.region ?_
        refine O.asg ?_
        refine O.nil ?_
        refine hK20 _ _ ?_
        refine C.ret ?_
        refine Outs.one rfl rfl ?_
        first
        | (refine ⟨congrArg (Value.int .i64) ?_, e_1⟩
           rw [← hI, Cn.cmpB_end hk hky (.inr (by omega)), if_neg (by omega), if_pos (by omega)])
        | (refine ⟨congrArg (Value.int .i64) ?_, e_1⟩
           rw [← hI, Cn.cmpB_three hk2 hk3 hq c28])
        | (refine ⟨congrArg (Value.int .i64) ?_, e_1⟩
           rw [← hI, Cn.cmpB_end hk hky (.inl (by omega))]
           first
           | rw [if_pos (by omega)]
           | rw [if_neg (by omega), if_neg (by omega)])

theorem ccmp_spec (va1 va2 va3 : Value) (a : Cn.Cart) (F : Nat → Prop) (vb1 vb2 vb3 : Value) (b : Cn.Cart) (Fb : Nat → Prop) (w : World) (hav : Sl Dt.dotF.enc w F va1 a.1.1) (hac : Sl Dt.dotF.enc w F va2 a.1.2) (hai : Sl itemE w F va3 a.2) (hF : ∀ k, F k → k < w.heap.size) (hn : a.2.length ≤ 1000000) (hS : ∀ x ∈ a.2, x.1.length ≤ 1000000 ∧ x.2.length ≤ 1000000) (hp : a.1.1.length ≤ 1000000) (hq : a.1.2.length ≤ 1000000) (mx : Mx w) (hbv : Sl Dt.dotF.enc w Fb vb1 b.1.1) (hbc : Sl Dt.dotF.enc w Fb vb2 b.1.2) (hbi : Sl itemE w Fb vb3 b.2) (hFb : ∀ k, Fb k → k < w.heap.size) (hnb : b.2.length ≤ 1000000) (hSb : ∀ x ∈ b.2, x.1.length ≤ 1000000 ∧ x.2.length ≤ 1000000) (hpb : b.1.1.length ≤ 1000000) (hqb : b.1.2.length ≤ 1000000) :
    Ret Tryz.prog 28 #[.agg #[va1, va2, va3], .agg #[vb1, vb2, vb3]] w (fun v w' => v = (if Cn.valid a && Cn.valid b then .tuple #[.int .i64 (Cn.cmpB (Cn.bytes a) (Cn.bytes b)), .int .i64 0] else .tuple #[.int .i64 0, .int .i64 2]) ∧ Le w w') := by
  refine enter (args := [.agg #[va1, va2, va3], .agg #[vb1, vb2, vb3]]) (n := 29) Tryz.func28 rfl rfl (Nat.le_of_ble_eq_true rfl) ?_
  refine C.seqK fun K1 hK1 => ?_
  refine C.region ?_
  refine O.box (v := .agg #[va1, va2, va3]) rfl (fun b2 w1 hb2 hz2 e1 => ?_)
  have z1 := e1.size
  have h2 := hz2.own
  have hl2 := h2.lt
  refine O.box (v := .agg #[vb1, vb2, vb3]) rfl (fun b3 w2 hb3 hz3 e2 => ?_)
  have z2 := e2.size
  have h3 := hz3.own
  have hl3 := h3.lt
  refine O.asg ?_
  refine O.asg ?_
  refine O.nil ?_
  refine hK1 _ _ ?_
  refine C.seqK fun K2 hK2 => ?_
  refine C.region ?_
  refine O.loadOA Tryz.isAgg28 Tryz.sizeOf28 rfl (h2.keep e2) (Nat.le_of_ble_eq_true rfl) ?_
  refine O.call Tryz.call27 (args1 rfl) (encode_spec va1 va2 va3 a F _ ((hav.keep e1).keep e2) ((hac.keep e1).keep e2) ((hai.keep e1).keep e2) (fun k hk => by have q1 := hF k hk; omega) hn hS hp hq ((mx.keep e1).keep e2)) ?_
  rintro v_12 w3 ⟨rv12, rfl, hv12, e3⟩
  have z3 := e3.size
  have h12s := hv12.sl
  refine O.mv ?_
  refine O.extract rfl rfl ?_
  refine O.extract rfl rfl ?_
  refine O.asg ?_
  refine O.asg ?_
  refine O.nil ?_
  refine hK2 _ _ ?_
  refine C.seqK fun K3 hK3 => ?_
  refine C.region ?_
  refine O.loadOA Tryz.isAgg28 Tryz.sizeOf28 rfl (h3.keep e3) (Nat.le_of_ble_eq_true rfl) ?_
  refine O.call Tryz.call27 (args1 rfl) (encode_spec vb1 vb2 vb3 b Fb _ (((hbv.keep e1).keep e2).keep e3) (((hbc.keep e1).keep e2).keep e3) (((hbi.keep e1).keep e2).keep e3) (fun k hk => by have q1 := hFb k hk; omega) hnb hSb hpb hqb (((mx.keep e1).keep e2).keep e3)) ?_
  rintro v_17 w4 ⟨rv17, rfl, hv17, e4⟩
  have z4 := e4.size
  have h17s := hv17.sl
  refine O.mv ?_
  refine O.extract rfl rfl ?_
  refine O.extract rfl rfl ?_
  refine O.asg ?_
  refine O.asg ?_
  refine O.nil ?_
  refine hK3 _ _ ?_
  refine C.seqK fun K4 hK4 => ?_
  refine C.seqK fun K5 hK5 => ?_
  refine C.region ?_
  refine O.mv ?_
  refine O.neqI rfl rfl ?_
  refine O.mv ?_
  refine O.splitD (x := .tmp 22) rfl (fun c22 => ?_) (fun c22 => ?_)
  ·
    refine O.no rfl (noB (isT rfl c22) rfl) ?_
    refine O.no rfl (noB (isT rfl c22) rfl) ?_
    refine O.pickT (isT rfl c22) ?_
    refine O.nil ?_
    refine hK5 _ _ ?_
    refine C.condT rfl ?_
    refine C.seqK fun K6 hK6 => ?_
    refine C.region ?_
    refine O.asg ?_
    refine O.asg ?_
    refine O.nil ?_
    refine hK6 _ _ ?_
    refine C.ret ?_
    refine Outs.two rfl rfl rfl ?_
    first
    | (refine ⟨Eq.trans (b := .tuple #[.int .i64 (Cn.cmpB (if Cn.valid a then Cn.bytes a else []) (if Cn.valid b then Cn.bytes b else [])), .int .i64 0]) rfl ?_, (Ext.trans (Ext.trans (Ext.trans e1 e2) e3) e4)⟩
       rw [Cn.err_no c22, Cn.err_no c25]
       rfl)
    | (refine ⟨Eq.trans (b := .tuple #[.int .i64 0, .int .i64 2]) rfl ?_, (Ext.trans (Ext.trans (Ext.trans e1 e2) e3) e4)⟩
       first
       | (rw [Cn.err_yes c22]; rfl)
       | (rw [Cn.err_yes c25, Bool.and_false]; rfl))
  ·
    refine O.yes rfl (isF rfl c22) ?_
    refine O.mv ?_
    refine O.yes rfl (isF rfl c22) ?_
    refine O.neqI rfl rfl ?_
    refine O.pickF (isF rfl c22) ?_
    refine O.nil ?_
    refine hK5 _ _ ?_
    refine C.condD rfl (fun c25 => ?_) (fun c25 => ?_)
    ·
      refine C.seqK fun K7 hK7 => ?_
      refine C.region ?_
      refine O.asg ?_
      refine O.asg ?_
      refine O.nil ?_
      refine hK7 _ _ ?_
      refine C.ret ?_
      refine Outs.two rfl rfl rfl ?_
      first
      | (refine ⟨Eq.trans (b := .tuple #[.int .i64 (Cn.cmpB (if Cn.valid a then Cn.bytes a else []) (if Cn.valid b then Cn.bytes b else [])), .int .i64 0]) rfl ?_, (Ext.trans (Ext.trans (Ext.trans e1 e2) e3) e4)⟩
         rw [Cn.err_no c22, Cn.err_no c25]
         rfl)
      | (refine ⟨Eq.trans (b := .tuple #[.int .i64 0, .int .i64 2]) rfl ?_, (Ext.trans (Ext.trans (Ext.trans e1 e2) e3) e4)⟩
         first
         | (rw [Cn.err_yes c22]; rfl)
         | (rw [Cn.err_yes c25, Bool.and_false]; rfl))
    ·
      refine C.skip ?_
      refine hK4 _ _ ?_
      refine C.seqK fun K8 hK8 => ?_
      refine C.region ?_
      refine O.mv ?_
      refine O.mv ?_
      refine O.call Tryz.call52 (args2 rfl rfl) (bscmp_spec _ _ _ _ _ _ _ (h12s.keep e4) h17s) ?_
      rintro v_28 w5 ⟨rfl, e5⟩
      have z5 := e5.size
      refine O.asg ?_
      refine O.asg ?_
      refine O.nil ?_
      refine hK8 _ _ ?_
      refine C.ret ?_
      refine Outs.two rfl rfl rfl ?_
      first
      | (refine ⟨Eq.trans (b := .tuple #[.int .i64 (Cn.cmpB (if Cn.valid a then Cn.bytes a else []) (if Cn.valid b then Cn.bytes b else [])), .int .i64 0]) rfl ?_, (Ext.trans (Ext.trans (Ext.trans (Ext.trans e1 e2) e3) e4) e5)⟩
         rw [Cn.err_no c22, Cn.err_no c25]
         rfl)
      | (refine ⟨Eq.trans (b := .tuple #[.int .i64 0, .int .i64 2]) rfl ?_, (Ext.trans (Ext.trans (Ext.trans (Ext.trans e1 e2) e3) e4) e5)⟩
         first
         | (rw [Cn.err_yes c22]; rfl)
         | (rw [Cn.err_yes c25, Bool.and_false]; rfl))

end Go.Proofs.YtnkcmaoaagnopaaGreatDoor
