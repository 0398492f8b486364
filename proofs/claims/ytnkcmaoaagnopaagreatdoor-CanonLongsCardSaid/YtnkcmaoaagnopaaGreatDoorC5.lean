/-
  The walks of bytes: numbers, rows of bytes in one. Conditions: slices as they lie in memory.
-/
import Derived.Test.YtnkcmaoaagnopaaGreatDoorFw20
import Derived.Test.YtnkcmaoaagnopaaGreatDoorC4
namespace Go.Proofs.YtnkcmaoaagnopaaGreatDoor
open Go.Pn Go.RowKit Go.Proofs
attribute [local irreducible] O C D

theorem inf5 : ∃ ie, Tryz.prog.info? 5 = some ie ∧ ie.size = 1 ∧ ie.bytes = 1 ∧ ie.zero = some (.int .u8 0) := by
  have h : (Tryz.prog.info? 5).isSome = true := by kernel_rfl
  exact ⟨(Tryz.prog.info? 5).get h, (Option.some_get h).symm, by kernel_rfl, by kernel_rfl, by kernel_rfl⟩
theorem inf32 : ∃ ie, Tryz.prog.info? 32 = some ie ∧ ie.size = 1 ∧ ie.bytes = 24 ∧ ie.zero = some (.slice none 0 0) := by
  have h : (Tryz.prog.info? 32).isSome = true := by kernel_rfl
  exact ⟨(Tryz.prog.info? 32).get h, (Option.some_get h).symm, by kernel_rfl, by kernel_rfl, by kernel_rfl⟩
theorem number_spec (n : BitVec 64) (w : World) :
    Ret Tryz.prog 86 #[.int .u64 ((n).toNat : Int)] w (fun v w' => Le w w' ∧ OwnF byteF 5 w.heap.size w' v (Cn.num n.toNat)) := by
  obtain ⟨ie5, ti5, ts5, tb5, tz5⟩ := inf5
  refine enter (args := [.int .u64 ((n).toNat : Int)]) (n := 19) Tryz.func86 rfl rfl (Nat.le_of_ble_eq_true rfl) ?_
  refine C.seqK fun K1 hK1 => ?_
  refine C.region ?_
  refine O.asg ?_
  refine O.nil ?_
  refine hK1 _ _ ?_
  refine C.seqK fun K2 hK2 => ?_
  refine C.region ?_
  refine O.asg ?_
  refine O.nil ?_
  refine hK2 _ _ ?_
  refine C.seqK fun K3 hK3 => ?_
  refine C.block fun K4 hK4 => ?_
  refine C.loop0 (σ := BitVec 64 × Value × List UInt8) (fun f0 w0 ⟨m, o, xs⟩ f wz => f 0 = .int .u64 ((m).toNat : Int) ∧ f 3 = o ∧ f 2 = f0 2 ∧ Le w wz ∧ OwnF byteF 5 w.heap.size wz o (xs) ∧ xs ++ Cn.num m.toNat = Cn.num n.toNat) (fun ⟨m, o, xs⟩ => m.toNat) (n, .slice none 0 0, []) ?_ ?_
  ·
    refine ⟨rfl, rfl, rfl, (Le.refl _), (OwnF.nil _ _ _ _), ?_⟩
    rfl
  ·
    rintro ⟨m, o, xs⟩ f_1 w1 ⟨s0_1, s3_1, s2_1, e_1, r0_1, hI⟩
    have z_1 := e_1.size
    have r0_1s := r0_1.sl
    have hxl : xs.length ≤ 10 := by
      have h1 := Cn.num_u n
      rw [← hI, List.length_append] at h1
      omega
    refine C.seqK fun K5 hK5 => ?_
    refine C.seqK fun K6 hK6 => ?_
    refine C.region ?_
    refine O.mv ?_
    refine O.geqU (m := 64) (b := 128#64) s0_1 rfl ?_
    refine O.nil ?_
    refine hK6 _ _ ?_
    refine C.condD rfl (fun c5 => ?_) (fun c5 => ?_)
    ·
      have hs5 : ¬ m.toNat < 128 := by simpa [BitVec.le_def, BitVec.lt_def] using c5
      refine C.skip ?_
      refine hK5 _ _ ?_
      refine C.seqK fun K7 hK7 => ?_
      refine C.block fun K8 hK8 => ?_
      refine C.region ?_
      refine O.mv ?_
      refine O.mv ?_
      refine O.convUU (m := 64) (m' := 8) Tryz.underlying49 Tryz.underlying5 rfl rfl s0_1 ?_
      refine O.orU (m := 8) (b := 128#8) rfl rfl rfl rfl ?_
      refine O.lit1 Tryz.underlying32 ti5 ts5 tz5 rfl rfl (fun b12 w2 hb12 hz12 e2 => ?_)
      have z2 := e2.size
      have h12 := hz12.own
      have hl12 := h12.lt
      refine O.appF (G := byteF) Tryz.underlying32 ti5 tz5 ts5 rfl s3_1 rfl (r0_1.keep e2) (Sl.one (G := byteF) (x := UInt8.ofBitVec (m.setWidth 8 ||| 128#8)) h12 rfl rfl) (by rw [tb5]; simp; omega) (by unfold maxLen; simp; omega) (by omega) (fun v13 w3 h13 e3 => ?_)
      have z3 := e3.size
      have h13s := h13.sl
      refine O.asg ?_
      refine O.nil ?_
      refine hK8 _ _ ?_
      refine hK7 _ _ ?_
      refine C.region ?_
      refine O.mv ?_
      refine O.shrU (m := 64) (c := 7) rfl rfl s0_1 rfl ?_
      refine O.asg ?_
      refine O.nil ?_
      refine ⟨(m >>> 7, _, _), ⟨rfl, rfl, s2_1, (Ext.new (Ext.trans e_1 e2) e3 (by intro i hi h; have := (r0_1.keep e2).bk_ge i h; omega)), h13, ?_⟩, by show (m >>> 7).toNat < m.toNat; rw [BitVec.toNat_ushiftRight, Nat.shiftRight_eq_div_pow]; omega⟩
      rw [← hI, Cn.num_step hs5, List.append_assoc]
      rfl
    ·
      have hs5 : m.toNat < 128 := by simpa [BitVec.le_def, BitVec.lt_def] using c5
      refine C.exit ?_
      refine hK4 _ _ ?_
      refine hK3 _ _ ?_
      refine C.seqK fun K9 hK9 => ?_
      refine C.region ?_
      refine O.mv ?_
      refine O.mv ?_
      refine O.convUU (m := 64) (m' := 8) Tryz.underlying49 Tryz.underlying5 rfl rfl s0_1 ?_
      refine O.lit1 Tryz.underlying32 ti5 ts5 tz5 rfl rfl (fun b17 w4 hb17 hz17 e4 => ?_)
      have z4 := e4.size
      have h17 := hz17.own
      have hl17 := h17.lt
      refine O.appF (G := byteF) Tryz.underlying32 ti5 tz5 ts5 rfl s3_1 rfl (r0_1.keep e4) (Sl.one (G := byteF) (x := UInt8.ofBitVec (m.setWidth 8)) h17 rfl rfl) (by rw [tb5]; simp; omega) (by unfold maxLen; simp; omega) (by omega) (fun v18 w5 h18 e5 => ?_)
      have z5 := e5.size
      have h18s := h18.sl
      refine O.asg ?_
      refine O.nil ?_
      refine hK9 _ _ ?_
      refine C.ret ?_
      refine Outs.one rfl rfl ?_
      exact ⟨(Ext.new (Ext.trans e_1 e4) e5 (by intro i hi h; have := (r0_1.keep e4).bk_ge i h; omega)), h18.lst (by rw [← hI, Cn.num_last hs5])⟩

theorem grow_spec (m : Nat) (w : World) (hm : m ≤ 139000000000000) :
    Ret Tryz.prog 120 #[.slice none 0 0, .int .i64 ((m : Int))] w (fun v w' => Le w w' ∧ OwnF byteF 5 w.heap.size w' v ([])) := by
  obtain ⟨ie5, ti5, ts5, tb5, tz5⟩ := inf5
  refine enter (args := [.slice none 0 0, .int .i64 ((m : Int))]) (n := 27) Tryz.func120 rfl rfl (Nat.le_of_ble_eq_true rfl) ?_
  refine C.seqK fun K1 hK1 => ?_
  refine C.region ?_
  refine O.asg ?_
  refine O.nil ?_
  refine hK1 _ _ ?_
  refine C.seqK fun K2 hK2 => ?_
  refine C.seqK fun K3 hK3 => ?_
  refine C.region ?_
  refine O.mv ?_
  refine O.lssI rfl rfl ?_
  refine O.cast (v' := .bool false) (congrArg Value.bool (by exact decide_eq_false (by omega))) ?_
  refine O.nil ?_
  refine hK3 _ _ ?_
  refine C.condF rfl ?_
  refine C.skip ?_
  refine hK2 _ _ ?_
  refine C.seqK fun K4 hK4 => ?_
  refine C.seqK fun K5 hK5 => ?_
  refine C.region ?_
  refine O.mv ?_
  refine O.mv ?_
  refine O.capL Tryz.underlying32 rfl ?_
  refine O.mv ?_
  refine O.lenL Tryz.underlying32 rfl ?_
  refine O.subI rfl rfl (by unfold InI; omega) ?_
  refine O.subI rfl rfl (by unfold InI; omega) ?_
  refine O.cast (v' := .int .i64 (m : Int)) (congrArg (Value.int .i64) (by omega)) ?_
  refine O.asg ?_
  refine O.nil ?_
  refine hK5 _ _ ?_
  refine C.seqK fun K6 hK6 => ?_
  refine C.region ?_
  refine O.mv ?_
  refine O.gtrI rfl rfl ?_
  refine O.nil ?_
  refine hK6 _ _ ?_
  refine C.condD rfl (fun c16 => ?_) (fun c16 => ?_)
  ·
    have hm0 : 0 < m := by omega
    refine C.region ?_
    refine O.mv ?_
    refine O.mv ?_
    refine O.capL Tryz.underlying32 rfl ?_
    refine O.subNil Tryz.underlying32 Tryz.sizeOf5 rfl rfl ?_
    refine O.mv ?_
    refine O.appZ (G := byteF) (zx := (0 : UInt8)) (m := m) Tryz.underlying32 Tryz.underlying3 ti5 tz5 ts5 rfl rfl rfl (by omega) (by rw [tb5]; omega) (by unfold maxLen; omega) (Nat.le_refl _) (fun b22 cap22 w1 hb22 hcap22 h22 e1 => ?_)
    have z1 := e1.size
    have h22s := h22.sl
    refine O.mv ?_
    refine O.lenL Tryz.underlying32 rfl ?_
    refine O.subLo Tryz.underlying32 Tryz.sizeOf5 rfl rfl (by omega) (by omega) ?_
    refine O.asg ?_
    refine O.nil ?_
    refine hK4 _ _ ?_
    refine C.seqK fun K7 hK7 => ?_
    refine C.region ?_
    refine O.mv ?_
    refine O.asg ?_
    refine O.nil ?_
    refine hK7 _ _ ?_
    refine C.ret ?_
    refine Outs.one rfl rfl ?_
    first
    | (have hf := h22
       have hq : (List.replicate m (0 : UInt8)).length = m := by simp
       rw [show Value.slice (some ⟨b22, 0, none⟩) m cap22 = Value.slice (some ⟨b22, 0, none⟩) (List.replicate m (0 : UInt8)).length cap22 from by rw [hq]] at hf
       exact ⟨e1, ((hf.first (k := 0) (Nat.zero_le _)).low (by omega)).lst rfl⟩)
    | exact ⟨e1, OwnF.nil _ _ _ _⟩
  ·
    refine C.skip ?_
    refine hK4 _ _ ?_
    refine C.seqK fun K8 hK8 => ?_
    refine C.region ?_
    refine O.mv ?_
    refine O.asg ?_
    refine O.nil ?_
    refine hK8 _ _ ?_
    refine C.ret ?_
    refine Outs.one rfl rfl ?_
    first
    | (have hf := {app:22}
       have hq : (List.replicate m (0 : UInt8)).length = m := by simp
       rw [show Value.slice (some ⟨b22, 0, none⟩) m cap22 = Value.slice (some ⟨b22, 0, none⟩) (List.replicate m (0 : UInt8)).length cap22 from by rw [hq]] at hf
       exact ⟨(Le.refl _), ((hf.first (k := 0) (Nat.zero_le _)).low (by omega)).lst rfl⟩)
    | exact ⟨(Le.refl _), OwnF.nil _ _ _ _⟩

theorem concat_spec (v0 : Value) (ps : List (List UInt8)) (F : Nat → Prop) (w : World) (hl : Sl (sliE byteE) w F v0 ps) (hn : ps.flatten.length ≤ 139000000000000) :
    Ret Tryz.prog 102 #[v0] w (fun v w' => Le w w' ∧ OwnF byteF 5 w.heap.size w' v (ps.flatten)) := by
  have hle := hl.le
  obtain ⟨ie5, ti5, ts5, tb5, tz5⟩ := inf5
  refine enter (args := [v0]) (n := 36) Tryz.func102 rfl rfl (Nat.le_of_ble_eq_true rfl) ?_
  refine C.seqK fun K1 hK1 => ?_
  refine C.region ?_
  refine O.asg ?_
  refine O.nil ?_
  refine hK1 _ _ ?_
  refine C.seqK fun K2 hK2 => ?_
  refine C.region ?_
  refine O.asg ?_
  refine O.nil ?_
  refine hK2 _ _ ?_
  refine C.seqK fun K3 hK3 => ?_
  refine C.seqK fun K4 hK4 => ?_
  refine C.region ?_
  refine O.mv ?_
  refine O.len Tryz.underlying67 rfl hl ?_
  refine O.mv ?_
  refine O.nil ?_
  refine hK4 _ _ ?_
  refine C.block fun K5 hK5 => ?_
  refine C.loop0 (σ := Nat) (fun f0 w0 k f wz => f 3 = .int .i64 (((ps.take k).flatten.length : Nat)) ∧ f 11 = .int .i64 (k) ∧ f 0 = f0 0 ∧ f 2 = f0 2 ∧ f 9 = f0 9 ∧ f 10 = f0 10 ∧ Le w wz ∧ k ≤ ps.length) (fun k => ps.length - k) 0 ?_ ?_
  ·
    refine ⟨rfl, rfl, rfl, rfl, rfl, rfl, (Le.refl _), ?_⟩
    exact Nat.zero_le _
  ·
    rintro k f_1 w1 ⟨s3_1, s11_1, s0_1, s2_1, s9_1, s10_1, e_1, hk⟩
    have z_1 := e_1.size
    refine C.seqK fun K6 hK6 => ?_
    refine C.region ?_
    refine O.lssI s11_1 s10_1 ?_
    refine O.nil ?_
    refine hK6 _ _ ?_
    refine C.seqK fun K7 hK7 => ?_
    refine C.condD rfl (fun c12 => ?_) (fun c12 => ?_)
    ·
      have hk2 : k < ps.length := by omega
      have hfk := Cn.flatten_take_le ps (k + 1)
      refine C.skip ?_
      refine hK7 _ _ ?_
      refine C.seqK fun K8 hK8 => ?_
      refine C.block fun K9 hK9 => ?_
      refine C.seqK fun K10 hK10 => ?_
      refine C.region ?_
      refine O.idx Tryz.underlying67 Tryz.sizeOf32 rfl s9_1 (hl.keep e_1) s11_1 (by omega) (fun a13 h13 => ?_)
      refine O.loadSl Tryz.isAgg32 rfl h13 (fun v14 h14 => ?_)
      refine O.asg ?_
      refine O.nil ?_
      refine hK10 _ _ ?_
      refine C.seqK fun K11 hK11 => ?_
      refine C.region ?_
      refine O.mv ?_
      refine O.mv ?_
      refine O.len Tryz.underlying32 rfl h14 ?_
      refine O.addI s3_1 rfl (by have h9 := Cn.flatten_take hk2; have h8 : (ps.take (k + 1)).flatten.length = (ps.take k).flatten.length + ps[k].length := (by rw [h9, List.length_append]); simp only [Int.toNat_natCast]; unfold InI; omega) ?_
      refine O.cast (v' := .int .i64 (((ps.take (k + 1)).flatten.length : Nat) : Int)) (congrArg (Value.int .i64) (by rw [Cn.flatten_take hk2, List.length_append, Int.natCast_add]; rfl)) ?_
      refine O.asg ?_
      refine O.nil ?_
      refine hK11 _ _ ?_
      refine C.seqK fun K12 hK12 => ?_
      refine C.region ?_
      refine O.mv ?_
      refine O.lssI rfl rfl ?_
      refine O.cast (v' := .bool false) (congrArg Value.bool (by exact decide_eq_false (by omega))) ?_
      refine O.nil ?_
      refine hK12 _ _ ?_
      refine C.condF rfl ?_
      refine C.skip ?_
      refine hK9 _ _ ?_
      refine hK8 _ _ ?_
      refine C.region ?_
      refine O.addI s11_1 rfl (by unfold InI; omega) ?_
      refine O.mv ?_
      refine O.nil ?_
      refine ⟨k + 1, ⟨rfl, rfl, s0_1, s2_1, s9_1, s10_1, e_1, ?_⟩, by first | omega | (simp only []; omega)⟩
      omega
    ·
      have hfk := Cn.flatten_take_le ps k
      refine C.exit ?_
      refine hK5 _ _ ?_
      refine hK3 _ _ ?_
      refine C.seqK fun K13 hK13 => ?_
      refine C.region ?_
      refine O.mv ?_
      refine O.call Tryz.call120 (args2 rfl s3_1) (grow_spec _ _ (by omega)) ?_
      rintro v_24 w2 ⟨e2, h24⟩
      have z2 := e2.size
      have h24s := h24.sl
      refine O.asg ?_
      refine O.nil ?_
      refine hK13 _ _ ?_
      refine C.seqK fun K14 hK14 => ?_
      refine C.seqK fun K15 hK15 => ?_
      refine C.region ?_
      refine O.mv ?_
      refine O.len Tryz.underlying67 s0_1 ((hl.keep e_1).keep e2) ?_
      refine O.mv ?_
      refine O.nil ?_
      refine hK15 _ _ ?_
      refine C.block fun K16 hK16 => ?_
      refine C.loop0 (σ := Nat × Value) (fun f0 w0 ⟨k, o⟩ f wz => f 6 = o ∧ f 27 = .int .i64 (k) ∧ f 2 = f0 2 ∧ f 25 = f0 25 ∧ f 26 = f0 26 ∧ Le w wz ∧ OwnF byteF 5 w.heap.size wz o ((ps.take k).flatten) ∧ k ≤ ps.length) (fun ⟨k, o⟩ => ps.length - k) (0, v_24) ?_ ?_
      ·
        refine ⟨rfl, rfl, rfl, rfl, rfl, (Ext.trans e_1 e2), (h24.low (by omega)), ?_⟩
        exact Nat.zero_le _
      ·
        rintro ⟨k, o⟩ f_2 w3 ⟨s6_2, s27_2, s2_2, s25_2, s26_2, e_2, r0_2, hk⟩
        have z_2 := e_2.size
        have r0_2s := r0_2.sl
        refine C.seqK fun K17 hK17 => ?_
        refine C.region ?_
        refine O.lssI s27_2 s26_2 ?_
        refine O.nil ?_
        refine hK17 _ _ ?_
        refine C.seqK fun K18 hK18 => ?_
        refine C.condD rfl (fun c28 => ?_) (fun c28 => ?_)
        ·
          have hk2 : k < ps.length := by omega
          have hfk := Cn.flatten_take_le ps (k + 1)
          rw [Cn.flatten_take hk2, List.length_append] at hfk
          refine C.skip ?_
          refine hK18 _ _ ?_
          refine C.seqK fun K19 hK19 => ?_
          refine C.block fun K20 hK20 => ?_
          refine C.seqK fun K21 hK21 => ?_
          refine C.region ?_
          refine O.idx Tryz.underlying67 Tryz.sizeOf32 rfl (Eq.trans s25_2 s0_1) (hl.keep e_2) s27_2 (by omega) (fun a29 h29 => ?_)
          refine O.loadSl Tryz.isAgg32 rfl h29 (fun v30 h30 => ?_)
          refine O.asg ?_
          refine O.nil ?_
          refine hK21 _ _ ?_
          refine C.region ?_
          refine O.mv ?_
          refine O.mv ?_
          refine O.appF (G := byteF) Tryz.underlying32 ti5 tz5 ts5 rfl s6_2 rfl r0_2 h30 (by rw [tb5]; simp only [Int.toNat_natCast]; omega) (by unfold maxLen; simp only [Int.toNat_natCast]; omega) (by omega) (fun v33 w4 h33 e4 => ?_)
          have z4 := e4.size
          have h33s := h33.sl
          refine O.asg ?_
          refine O.nil ?_
          refine hK20 _ _ ?_
          refine hK19 _ _ ?_
          refine C.region ?_
          refine O.addI s27_2 rfl (by unfold InI; omega) ?_
          refine O.mv ?_
          refine O.nil ?_
          refine ⟨(k + 1, _), ⟨rfl, rfl, s2_2, s25_2, s26_2, (Ext.new e_2 e4 (by intro i hi h; have := r0_2.bk_ge i h; omega)), (h33.lst (Cn.flatten_take hk2).symm), ?_⟩, by first | omega | (simp only []; omega)⟩
          omega
        ·
          refine C.exit ?_
          refine hK16 _ _ ?_
          refine hK14 _ _ ?_
          refine C.seqK fun K22 hK22 => ?_
          refine C.region ?_
          refine O.mv ?_
          refine O.asg ?_
          refine O.nil ?_
          refine hK22 _ _ ?_
          refine C.ret ?_
          refine Outs.one rfl s6_2 ?_
          obtain rfl : k = ps.length := by omega
          rw [List.take_length] at r0_2
          exact ⟨e_2, r0_2⟩

end Go.Proofs.YtnkcmaoaagnopaaGreatDoor
