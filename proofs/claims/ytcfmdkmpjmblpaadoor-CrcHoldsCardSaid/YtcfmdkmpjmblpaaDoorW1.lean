/-
  The walks of the references of check sums: what each function returns. Conditions: slices as they lie in memory.
-/
import Derived.Test.YtcfmdkmpjmblpaaDoorPlain
import Derived.Test.YtcfmdkmpjmblpaaDoorRows
namespace Go.Proofs.YtcfmdkmpjmblpaaDoor
open Go.Pn Go.RowKit
theorem zeroTab (w : World) : (zeroValue 50).run Tryd.prog w = .ok (.agg (Array.replicate 256 (.int .u32 0))) w := by kernel_rfl

theorem refStep_spec (n : BitVec 32) (x : BitVec 8) (w : World) :
    Ret Tryd.prog 21 #[.int .u32 ((n).toNat : Int), .int .u8 ((x).toNat : Int)] w (fun v w' => v = .int .u32 ((Crc.step n x).toNat : Int) ∧ w' = w) := by
  refine enter (args := [.int .u32 ((n).toNat : Int), .int .u8 ((x).toNat : Int)]) (n := 23) Tryd.func21 rfl rfl (Nat.le_of_ble_eq_true rfl) ?_
  refine C.seqK fun K1 hK1 => ?_
  refine C.region ?_
  refine O.asg ?_
  refine O.nil ?_
  refine hK1 _ _ ?_
  refine C.seqK fun K2 hK2 => ?_
  refine C.region ?_
  refine O.mv ?_
  refine O.mv ?_
  refine O.convUU (m := 8) (m' := 32) Tryd.underlying5 Tryd.underlying22 rfl rfl rfl ?_
  refine O.xorU (m := 32) rfl rfl rfl rfl ?_
  refine O.asg ?_
  refine O.nil ?_
  refine hK2 _ _ ?_
  refine C.seqK fun K3 hK3 => ?_
  refine C.seqK fun K4 hK4 => ?_
  refine C.region ?_
  refine O.asg ?_
  refine O.nil ?_
  refine hK4 _ _ ?_
  refine C.block fun K5 hK5 => ?_
  refine C.loop0 (σ := Nat × BitVec 32) (fun f0 w0 ⟨k, m⟩ f w => f 0 = .int .u32 ((m).toNat : Int) ∧ f 5 = .int .i64 (k) ∧ f 4 = f0 4 ∧ w = w0 ∧ k ≤ 8 ∧ m = Crc.bits k (n ^^^ x.setWidth 32)) (fun ⟨k, m⟩ => 8 - k) (0, n ^^^ x.setWidth 32) ?_ ?_
  ·
    refine ⟨rfl, rfl, rfl, rfl, ?_⟩
    exact ⟨Nat.zero_le _, rfl⟩
  ·
    rintro ⟨k, m⟩ f_1 wx ⟨s0_1, s5_1, s4_1, rfl, ⟨hk, hm⟩⟩
    refine C.seqK fun K6 hK6 => ?_
    refine C.seqK fun K7 hK7 => ?_
    refine C.region ?_
    refine O.mv ?_
    refine O.lssI s5_1 rfl ?_
    refine O.nil ?_
    refine hK7 _ _ ?_
    refine C.condD rfl (fun c11 => ?_) (fun c11 => ?_)
    ·
      refine C.skip ?_
      refine hK6 _ _ ?_
      refine C.seqK fun K8 hK8 => ?_
      refine C.block fun K9 hK9 => ?_
      refine C.seqK fun K10 hK10 => ?_
      refine C.region ?_
      refine O.mv ?_
      refine O.remU (m := 32) (b := 2#32) rfl rfl s0_1 rfl (by decide) ?_
      refine O.eqlU (m := 32) (b := 1#32) rfl rfl ?_
      refine O.nil ?_
      refine hK10 _ _ ?_
      refine C.condD rfl (fun c16 => ?_) (fun c16 => ?_)
      ·
        refine C.region ?_
        refine O.mv ?_
        refine O.quoU (m := 32) (b := 2#32) rfl rfl s0_1 rfl (by decide) ?_
        refine O.xorU (m := 32) (b := 3988292384#32) rfl rfl rfl rfl ?_
        refine O.asg ?_
        refine O.nil ?_
        refine hK9 _ _ ?_
        refine hK8 _ _ ?_
        refine C.region ?_
        refine O.mv ?_
        refine O.addI s5_1 rfl (by unfold InI; omega) ?_
        refine O.asg ?_
        refine O.nil ?_
        refine ⟨(k + 1, _), ⟨rfl, rfl, s4_1, rfl, ?_⟩, by first | omega | (simp only []; omega)⟩
        refine ⟨by omega, ?_⟩
        rw [hm] at *
        simp only [Crc.bits, Crc.bit]
        first | rw [if_pos (by assumption)] | rw [if_neg (by assumption)]
      ·
        refine C.region ?_
        refine O.mv ?_
        refine O.quoU (m := 32) (b := 2#32) rfl rfl s0_1 rfl (by decide) ?_
        refine O.asg ?_
        refine O.nil ?_
        refine hK9 _ _ ?_
        refine hK8 _ _ ?_
        refine C.region ?_
        refine O.mv ?_
        refine O.addI s5_1 rfl (by unfold InI; omega) ?_
        refine O.asg ?_
        refine O.nil ?_
        refine ⟨(k + 1, _), ⟨rfl, rfl, s4_1, rfl, ?_⟩, by first | omega | (simp only []; omega)⟩
        refine ⟨by omega, ?_⟩
        rw [hm] at *
        simp only [Crc.bits, Crc.bit]
        first | rw [if_pos (by assumption)] | rw [if_neg (by assumption)]
    ·
      refine C.exit ?_
      refine hK5 _ _ ?_
      refine hK3 _ _ ?_
      refine C.seqK fun K11 hK11 => ?_
      refine C.region ?_
      refine O.mv ?_
      refine O.asg ?_
      refine O.nil ?_
      refine hK11 _ _ ?_
      refine C.ret ?_
      refine Outs.one rfl s0_1 ?_
      refine ⟨?_, rfl⟩
      obtain rfl : k = 8 := by omega
      rw [hm]; rfl

theorem refUpdate_spec (s : BitVec 32) (v1 : Value) (l : List UInt8) (F : Nat → Prop) (w : World) (hl : Sl byteE w F v1 l) :
    Ret Tryd.prog 12 #[.int .u32 ((s).toNat : Int), v1] w (fun v w' => v = .int .u32 ((Crc.update s l).toNat : Int) ∧ w' = w) := by
  have hle := hl.le
  refine enter (args := [.int .u32 ((s).toNat : Int), v1]) (n := 23) Tryd.func12 rfl rfl (Nat.le_of_ble_eq_true rfl) ?_
  refine C.seqK fun K1 hK1 => ?_
  refine C.region ?_
  refine O.asg ?_
  refine O.nil ?_
  refine hK1 _ _ ?_
  refine C.seqK fun K2 hK2 => ?_
  refine C.region ?_
  refine O.mv ?_
  refine O.subU (m := 32) (a := 4294967295#32) rfl rfl rfl rfl ?_
  refine O.asg ?_
  refine O.nil ?_
  refine hK2 _ _ ?_
  refine C.seqK fun K3 hK3 => ?_
  refine C.seqK fun K4 hK4 => ?_
  refine C.region ?_
  refine O.asg ?_
  refine O.nil ?_
  refine hK4 _ _ ?_
  refine C.block fun K5 hK5 => ?_
  refine C.loop0 (σ := Nat × BitVec 32) (fun f0 w0 ⟨k, m⟩ f w => f 5 = .int .u32 ((m).toNat : Int) ∧ f 6 = .int .i64 (k) ∧ f 1 = f0 1 ∧ f 4 = f0 4 ∧ w = w0 ∧ k ≤ l.length ∧ m = Crc.steps (~~~ s) (l.take k)) (fun ⟨k, m⟩ => l.length - k) (0, 4294967295#32 - s) ?_ ?_
  ·
    refine ⟨rfl, rfl, rfl, rfl, rfl, ?_⟩
    exact ⟨Nat.zero_le _, Crc.sub_max s⟩
  ·
    rintro ⟨k, m⟩ f_1 wx ⟨s5_1, s6_1, s1_1, s4_1, rfl, ⟨hk, hm⟩⟩
    refine C.seqK fun K6 hK6 => ?_
    refine C.seqK fun K7 hK7 => ?_
    refine C.region ?_
    refine O.mv ?_
    refine O.mv ?_
    refine O.len Tryd.underlying23 s1_1 hl ?_
    refine O.lssI s6_1 rfl ?_
    refine O.nil ?_
    refine hK7 _ _ ?_
    refine C.condD rfl (fun c12 => ?_) (fun c12 => ?_)
    ·
      refine C.skip ?_
      refine hK6 _ _ ?_
      refine C.seqK fun K8 hK8 => ?_
      refine C.block fun K9 hK9 => ?_
      refine C.region ?_
      refine O.mv ?_
      refine O.mv ?_
      refine O.mv ?_
      refine O.idx Tryd.underlying23 Tryd.sizeOf5 rfl s1_1 hl s6_1 (by omega) (fun a18 h18 => ?_)
      refine O.loadB Tryd.isAgg5 rfl h18 ?_
      refine O.call Tryd.call21 (args2 s5_1 rfl) (refStep_spec _ _ _) ?_
      rintro v_20 w1 ⟨rfl, rfl⟩
      refine O.asg ?_
      refine O.nil ?_
      refine hK9 _ _ ?_
      refine hK8 _ _ ?_
      refine C.region ?_
      refine O.mv ?_
      refine O.addI s6_1 rfl (by unfold InI; omega) ?_
      refine O.asg ?_
      refine O.nil ?_
      refine ⟨(k + 1, _), ⟨rfl, rfl, s1_1, s4_1, rfl, ?_⟩, by first | omega | (simp only []; omega)⟩
      refine ⟨by omega, ?_⟩
      rw [hm, Crc.steps_take _ _ (by omega)]; rfl
    ·
      refine C.exit ?_
      refine hK5 _ _ ?_
      refine hK3 _ _ ?_
      refine C.seqK fun K10 hK10 => ?_
      refine C.region ?_
      refine O.mv ?_
      refine O.subU (m := 32) (a := 4294967295#32) rfl rfl rfl s5_1 ?_
      refine O.asg ?_
      refine O.nil ?_
      refine hK10 _ _ ?_
      refine C.ret ?_
      refine Outs.one rfl rfl ?_
      refine ⟨?_, rfl⟩
      obtain rfl : k = l.length := by omega
      rw [hm, List.take_length, Crc.sub_max]; rfl

theorem refSum_spec (v0 : Value) (l : List UInt8) (F : Nat → Prop) (w : World) (hl : Sl byteE w F v0 l) :
    Ret Tryd.prog 10 #[v0] w (fun v w' => v = .int .u32 ((Crc.update 0#32 l).toNat : Int) ∧ w' = w) := by
  refine enter (args := [v0]) (n := 5) Tryd.func10 rfl rfl (Nat.le_of_ble_eq_true rfl) ?_
  refine C.seqK fun K1 hK1 => ?_
  refine C.region ?_
  refine O.asg ?_
  refine O.nil ?_
  refine hK1 _ _ ?_
  refine C.seqK fun K2 hK2 => ?_
  refine C.region ?_
  refine O.mv ?_
  refine O.call Tryd.call12 (args2 rfl rfl) (refUpdate_spec 0#32 _ _ _ _ hl) ?_
  rintro v_4 w1 ⟨rfl, rfl⟩
  refine O.asg ?_
  refine O.nil ?_
  refine hK2 _ _ ?_
  refine C.ret ?_
  refine Outs.one rfl rfl ?_
  exact ⟨rfl, rfl⟩

theorem refJoin_spec (a b : BitVec 32) (len : Nat) (w : World) (hlen : len ≤ 16777216) :
    Ret Tryd.prog 14 #[.int .u32 ((a).toNat : Int), .int .u32 ((b).toNat : Int), .int .i64 (len)] w (fun v w' => v = .int .u32 ((Crc.zeros len a ^^^ b).toNat : Int) ∧ w' = w) := by
  refine enter (args := [.int .u32 ((a).toNat : Int), .int .u32 ((b).toNat : Int), .int .i64 (len)]) (n := 18) Tryd.func14 rfl rfl (Nat.le_of_ble_eq_true rfl) ?_
  refine C.seqK fun K1 hK1 => ?_
  refine C.region ?_
  refine O.asg ?_
  refine O.nil ?_
  refine hK1 _ _ ?_
  refine C.seqK fun K2 hK2 => ?_
  refine C.seqK fun K3 hK3 => ?_
  refine C.region ?_
  refine O.asg ?_
  refine O.nil ?_
  refine hK3 _ _ ?_
  refine C.block fun K4 hK4 => ?_
  refine C.loop0 (σ := Nat × BitVec 32) (fun f0 w0 ⟨k, m⟩ f w => f 0 = .int .u32 ((m).toNat : Int) ∧ f 7 = .int .i64 (k) ∧ f 1 = f0 1 ∧ f 2 = f0 2 ∧ f 6 = f0 6 ∧ w = w0 ∧ k ≤ len ∧ m = Crc.zeros k a) (fun ⟨k, m⟩ => len - k) (0, a) ?_ ?_
  ·
    refine ⟨rfl, rfl, rfl, rfl, rfl, rfl, ?_⟩
    exact ⟨Nat.zero_le _, rfl⟩
  ·
    rintro ⟨k, m⟩ f_1 wx ⟨s0_1, s7_1, s1_1, s2_1, s6_1, rfl, ⟨hk, hm⟩⟩
    refine C.seqK fun K5 hK5 => ?_
    refine C.seqK fun K6 hK6 => ?_
    refine C.region ?_
    refine O.mv ?_
    refine O.mv ?_
    refine O.lssI s7_1 s2_1 ?_
    refine O.nil ?_
    refine hK6 _ _ ?_
    refine C.condD rfl (fun c10 => ?_) (fun c10 => ?_)
    ·
      refine C.skip ?_
      refine hK5 _ _ ?_
      refine C.seqK fun K7 hK7 => ?_
      refine C.block fun K8 hK8 => ?_
      refine C.region ?_
      refine O.mv ?_
      refine O.call Tryd.call21 (args2 s0_1 rfl) (refStep_spec _ 0#8 _) ?_
      rintro v_14 w1 ⟨rfl, rfl⟩
      refine O.asg ?_
      refine O.nil ?_
      refine hK8 _ _ ?_
      refine hK7 _ _ ?_
      refine C.region ?_
      refine O.mv ?_
      refine O.addI s7_1 rfl (by unfold InI; omega) ?_
      refine O.asg ?_
      refine O.nil ?_
      refine ⟨(k + 1, _), ⟨rfl, rfl, s1_1, s2_1, s6_1, rfl, ?_⟩, by first | omega | (simp only []; omega)⟩
      refine ⟨by omega, ?_⟩
      rw [hm]; rfl
    ·
      refine C.exit ?_
      refine hK4 _ _ ?_
      refine hK2 _ _ ?_
      refine C.seqK fun K9 hK9 => ?_
      refine C.region ?_
      refine O.mv ?_
      refine O.mv ?_
      refine O.xorU (m := 32) rfl rfl s0_1 s1_1 ?_
      refine O.asg ?_
      refine O.nil ?_
      refine hK9 _ _ ?_
      refine C.ret ?_
      refine Outs.one rfl rfl ?_
      refine ⟨?_, rfl⟩
      obtain rfl : k = len := by omega
      rw [hm]; rfl

theorem made_spec (w : World) :
    Ret Tryd.prog 19 #[] w (fun v w' => ∃ b, v = .pointer (some ⟨b, 0, none⟩) ∧ Le w w' ∧ Row u32E w' (fun k => k = b) b 0 Crc.table) := by
  refine enter (args := []) (n := 25) Tryd.func19 rfl rfl (Nat.le_of_ble_eq_true rfl) ?_
  refine C.seqK fun K1 hK1 => ?_
  refine C.region ?_
  refine O.asg ?_
  refine O.nil ?_
  refine hK1 _ _ ?_
  refine C.seqK fun K2 hK2 => ?_
  refine C.region ?_
  refine O.alloc zeroTab (fun b1 w1 hb1 hz1 e1 => ?_)
  have z1 := e1.size
  have h1 := hz1.own
  have hl1 := h1.lt
  replace h1 : Own w1 b1 50 (Crc.part 0) := Crc.part0 ▸ h1
  refine O.nil ?_
  refine hK2 _ _ ?_
  refine C.seqK fun K3 hK3 => ?_
  refine C.seqK fun K4 hK4 => ?_
  refine C.region ?_
  refine O.mv ?_
  refine O.nil ?_
  refine hK4 _ _ ?_
  refine C.block fun K5 hK5 => ?_
  refine C.loop0 (σ := Nat) (fun f0 w0 k f w => f 5 = .int .i64 (k) ∧ f 0 = f0 0 ∧ f 1 = f0 1 ∧ Ext (fun k => k = b1) w0 w ∧ Own w b1 50 (Crc.part k) ∧ k ≤ 256) (fun k => 256 - k) 0 ?_ ?_
  ·
    refine ⟨rfl, rfl, rfl, Ext.refl _ _, h1, ?_⟩
    omega
  ·
    rintro k f_1 w2 ⟨s5_1, s0_1, s1_1, e_1, r0_1, hk⟩
    have z_1 := e_1.size
    refine C.seqK fun K6 hK6 => ?_
    refine C.region ?_
    refine O.lssI s5_1 rfl ?_
    refine O.nil ?_
    refine hK6 _ _ ?_
    refine C.seqK fun K7 hK7 => ?_
    refine C.condD rfl (fun c6 => ?_) (fun c6 => ?_)
    ·
      refine C.skip ?_
      refine hK7 _ _ ?_
      refine C.seqK fun K8 hK8 => ?_
      refine C.block fun K9 hK9 => ?_
      refine C.seqK fun K10 hK10 => ?_
      refine C.region ?_
      refine O.mv ?_
      refine O.asg ?_
      refine O.nil ?_
      refine hK10 _ _ ?_
      refine C.seqK fun K11 hK11 => ?_
      refine C.region ?_
      refine O.mv ?_
      refine O.convIU (m' := 32) Tryd.underlying3 Tryd.underlying22 rfl rfl s5_1 ?_
      refine O.asg ?_
      refine O.nil ?_
      refine hK11 _ _ ?_
      refine C.seqK fun K12 hK12 => ?_
      refine C.seqK fun K13 hK13 => ?_
      refine C.region ?_
      refine O.mv ?_
      refine O.nil ?_
      refine hK13 _ _ ?_
      refine C.block fun K14 hK14 => ?_
      refine C.loop0 (σ := Nat × BitVec 32) (fun f0 w0 ⟨j, m⟩ f w => f 3 = .int .u32 ((m).toNat : Int) ∧ f 10 = .int .i64 (j) ∧ f 0 = f0 0 ∧ f 1 = f0 1 ∧ f 2 = f0 2 ∧ f 5 = f0 5 ∧ w = w0 ∧ j ≤ 8 ∧ m = Crc.bits j (BitVec.ofInt 32 k)) (fun ⟨j, m⟩ => 8 - j) (0, BitVec.ofInt 32 k) ?_ ?_
      ·
        refine ⟨rfl, rfl, rfl, rfl, rfl, rfl, rfl, ?_⟩
        exact ⟨Nat.zero_le _, rfl⟩
      ·
        rintro ⟨j, m⟩ f_2 wx ⟨s3_2, s10_2, s0_2, s1_2, s2_2, s5_2, rfl, ⟨hj, hm⟩⟩
        refine C.seqK fun K15 hK15 => ?_
        refine C.region ?_
        refine O.lssI s10_2 rfl ?_
        refine O.nil ?_
        refine hK15 _ _ ?_
        refine C.seqK fun K16 hK16 => ?_
        refine C.condD rfl (fun c11 => ?_) (fun c11 => ?_)
        ·
          refine C.skip ?_
          refine hK16 _ _ ?_
          refine C.seqK fun K17 hK17 => ?_
          refine C.block fun K18 hK18 => ?_
          refine C.seqK fun K19 hK19 => ?_
          refine C.region ?_
          refine O.mv ?_
          refine O.andU (m := 32) (b := 1#32) rfl rfl s3_2 rfl ?_
          refine O.asg ?_
          refine O.nil ?_
          refine hK19 _ _ ?_
          refine C.seqK fun K20 hK20 => ?_
          refine C.region ?_
          refine O.mv ?_
          refine O.shrU (m := 32) (c := 1) rfl rfl s3_2 rfl ?_
          refine O.asg ?_
          refine O.nil ?_
          refine hK20 _ _ ?_
          refine C.seqK fun K21 hK21 => ?_
          refine C.region ?_
          refine O.mv ?_
          refine O.eqlU (m := 32) (b := 1#32) rfl rfl ?_
          refine O.nil ?_
          refine hK21 _ _ ?_
          refine C.condD rfl (fun c17 => ?_) (fun c17 => ?_)
          ·
            refine C.region ?_
            refine O.mv ?_
            refine O.xorU (m := 32) (b := 3988292384#32) rfl rfl rfl rfl ?_
            refine O.asg ?_
            refine O.nil ?_
            refine hK18 _ _ ?_
            refine hK17 _ _ ?_
            refine C.region ?_
            refine O.addI s10_2 rfl (by unfold InI; omega) ?_
            refine O.mv ?_
            refine O.nil ?_
            refine ⟨(j + 1, _), ⟨rfl, rfl, s0_2, s1_2, s2_2, s5_2, rfl, ?_⟩, by first | omega | (simp only []; omega)⟩
            refine ⟨by omega, ?_⟩
            rw [hm] at *
            simp only [Crc.bits]
            first | exact (Crc.bit_odd (by assumption)).symm | exact (Crc.bit_even (by assumption)).symm
          ·
            refine C.skip ?_
            refine hK18 _ _ ?_
            refine hK17 _ _ ?_
            refine C.region ?_
            refine O.addI s10_2 rfl (by unfold InI; omega) ?_
            refine O.mv ?_
            refine O.nil ?_
            refine ⟨(j + 1, _), ⟨rfl, rfl, s0_2, s1_2, s2_2, s5_2, rfl, ?_⟩, by first | omega | (simp only []; omega)⟩
            refine ⟨by omega, ?_⟩
            rw [hm] at *
            simp only [Crc.bits]
            first | exact (Crc.bit_odd (by assumption)).symm | exact (Crc.bit_even (by assumption)).symm
        ·
          refine C.exit ?_
          refine hK14 _ _ ?_
          refine hK12 _ _ ?_
          refine C.region ?_
          refine O.mv ?_
          refine O.mv ?_
          refine O.idxA Tryd.underlying50 Tryd.sizeOf22 (Eq.trans s1_2 s1_1) (Eq.trans s2_2 s5_1) (by omega) ?_
          refine O.store Tryd.sizeOf22 rfl s3_2 rfl r0_1 (by rw [Crc.part_length]; omega) (fun w3 hs3 e3 z3 => ?_)
          try simp only [Int.toNat_natCast, Nat.zero_add, Nat.mul_one] at hs3
          obtain rfl : j = 8 := by omega
          rw [hm] at hs3
          replace hs3 : Own w3 b1 50 (Crc.part (k + 1)) := by rw [← Crc.part_set k (by omega)]; exact hs3
          refine O.nil ?_
          refine hK9 _ _ ?_
          refine hK8 _ _ ?_
          refine C.region ?_
          refine O.addI (Eq.trans s5_2 s5_1) rfl (by unfold InI; omega) ?_
          refine O.mv ?_
          refine O.nil ?_
          refine ⟨k + 1, ⟨rfl, (Eq.trans s0_2 s0_1), (Eq.trans s1_2 s1_1), (Ext.trans e_1 (e3)), hs3, ?_⟩, by first | omega | (simp only []; omega)⟩
          omega
    ·
      refine C.exit ?_
      refine hK5 _ _ ?_
      refine hK3 _ _ ?_
      refine C.seqK fun K22 hK22 => ?_
      refine C.region ?_
      refine O.asg ?_
      refine O.nil ?_
      refine hK22 _ _ ?_
      refine C.ret ?_
      refine Outs.one rfl s1_1 ?_
      obtain rfl : k = 256 := by omega
      exact ⟨b1, rfl, (Ext.new e1 e_1 (by rintro i hi rfl; omega)), Row.of_own (G := u32F) r0_1 Crc.part_all⟩

theorem pstep_spec (b : Nat) (n : BitVec 32) (x : BitVec 8) (F : Nat → Prop) (w : World) (ht : Row u32E w F b 0 Crc.table) :
    Ret Tryd.prog 20 #[.pointer (some ⟨b, 0, none⟩), .int .u32 ((n).toNat : Int), .int .u8 ((x).toNat : Int)] w (fun v w' => v = .int .u32 ((Crc.step n x).toNat : Int) ∧ w' = w) := by
  have hlt := (n.setWidth 8 ^^^ x).isLt
  refine enter (args := [.pointer (some ⟨b, 0, none⟩), .int .u32 ((n).toNat : Int), .int .u8 ((x).toNat : Int)]) (n := 18) Tryd.func20 rfl rfl (Nat.le_of_ble_eq_true rfl) ?_
  refine C.seqK fun K1 hK1 => ?_
  refine C.region ?_
  refine O.asg ?_
  refine O.nil ?_
  refine hK1 _ _ ?_
  refine C.seqK fun K2 hK2 => ?_
  refine C.region ?_
  refine O.mv ?_
  refine O.mv ?_
  refine O.convUU (m := 32) (m' := 8) Tryd.underlying22 Tryd.underlying5 rfl rfl rfl ?_
  refine O.mv ?_
  refine O.xorU (m := 8) rfl rfl rfl rfl ?_
  refine O.nilChk rfl ?_
  refine O.idxA Tryd.underlying50 Tryd.sizeOf22 rfl rfl (by omega) ?_
  refine O.loadR Tryd.isAgg22 rfl rfl ht (by rw [Crc.table_length]; omega) (fun v14 h14 => ?_)
  obtain rfl := u32E.inv h14
  refine O.mv ?_
  refine O.shrU (m := 32) (c := 8) rfl rfl rfl rfl ?_
  refine O.xorU (m := 32) rfl rfl rfl rfl ?_
  refine O.asg ?_
  refine O.nil ?_
  refine hK2 _ _ ?_
  refine C.ret ?_
  refine Outs.one rfl rfl ?_
  refine ⟨?_, rfl⟩
  rw [Crc.step_tab]
  simp only [Int.toNat_natCast, Nat.mul_one]
  rw [Crc.table_get (by omega)]; rfl

theorem update_spec (s : BitVec 32) (v1 : Value) (l : List UInt8) (F : Nat → Prop) (w : World) (hl : Sl byteE w F v1 l) :
    Ret Tryd.prog 11 #[.int .u32 ((s).toNat : Int), v1] w (fun v w' => v = .int .u32 ((Crc.update s l).toNat : Int) ∧ Le w w') := by
  have hle := hl.le
  refine enter (args := [.int .u32 ((s).toNat : Int), v1]) (n := 25) Tryd.func11 rfl rfl (Nat.le_of_ble_eq_true rfl) ?_
  refine C.seqK fun K1 hK1 => ?_
  refine C.region ?_
  refine O.asg ?_
  refine O.nil ?_
  refine hK1 _ _ ?_
  refine C.seqK fun K2 hK2 => ?_
  refine C.region ?_
  refine O.call Tryd.call19 (argsN) (made_spec _) ?_
  rintro v_9 w1 ⟨bv9, rfl, e1, h9⟩
  have z1 := e1.size
  refine O.mv ?_
  refine O.notU rfl rfl rfl ?_
  refine O.asg ?_
  refine O.asg ?_
  refine O.nil ?_
  refine hK2 _ _ ?_
  refine C.seqK fun K3 hK3 => ?_
  refine C.seqK fun K4 hK4 => ?_
  refine C.region ?_
  refine O.mv ?_
  refine O.len Tryd.underlying23 rfl (hl.keep e1) ?_
  refine O.mv ?_
  refine O.nil ?_
  refine hK4 _ _ ?_
  refine C.block fun K5 hK5 => ?_
  refine C.loop0 (σ := Nat × BitVec 32) (fun f0 w0 ⟨k, m⟩ f w => f 6 = .int .u32 ((m).toNat : Int) ∧ f 14 = .int .i64 (k) ∧ f 4 = f0 4 ∧ f 5 = f0 5 ∧ f 12 = f0 12 ∧ f 13 = f0 13 ∧ w = w0 ∧ k ≤ l.length ∧ m = Crc.steps (~~~ s) (l.take k)) (fun ⟨k, m⟩ => l.length - k) (0, ~~~ s) ?_ ?_
  ·
    refine ⟨rfl, rfl, rfl, rfl, rfl, rfl, rfl, ?_⟩
    exact ⟨Nat.zero_le _, rfl⟩
  ·
    rintro ⟨k, m⟩ f_1 wx ⟨s6_1, s14_1, s4_1, s5_1, s12_1, s13_1, rfl, ⟨hk, hm⟩⟩
    refine C.seqK fun K6 hK6 => ?_
    refine C.region ?_
    refine O.lssI s14_1 s13_1 ?_
    refine O.nil ?_
    refine hK6 _ _ ?_
    refine C.seqK fun K7 hK7 => ?_
    refine C.condD rfl (fun c15 => ?_) (fun c15 => ?_)
    ·
      refine C.skip ?_
      refine hK7 _ _ ?_
      refine C.seqK fun K8 hK8 => ?_
      refine C.block fun K9 hK9 => ?_
      refine C.seqK fun K10 hK10 => ?_
      refine C.region ?_
      refine O.idx Tryd.underlying23 Tryd.sizeOf5 rfl s12_1 (hl.keep e1) s14_1 (by omega) (fun a16 h16 => ?_)
      refine O.loadB Tryd.isAgg5 rfl h16 ?_
      refine O.asg ?_
      refine O.nil ?_
      refine hK10 _ _ ?_
      refine C.region ?_
      refine O.mv ?_
      refine O.mv ?_
      refine O.mv ?_
      refine O.call Tryd.call20 (args3 s5_1 s6_1 rfl) (pstep_spec _ _ _ _ _ h9) ?_
      rintro v_21 w2 ⟨rfl, rfl⟩
      refine O.asg ?_
      refine O.nil ?_
      refine hK9 _ _ ?_
      refine hK8 _ _ ?_
      refine C.region ?_
      refine O.addI s14_1 rfl (by unfold InI; omega) ?_
      refine O.mv ?_
      refine O.nil ?_
      refine ⟨(k + 1, _), ⟨rfl, rfl, s4_1, s5_1, s12_1, s13_1, rfl, ?_⟩, by first | omega | (simp only []; omega)⟩
      refine ⟨by omega, ?_⟩
      rw [hm, Crc.steps_take _ _ (by omega)]; rfl
    ·
      refine C.exit ?_
      refine hK5 _ _ ?_
      refine hK3 _ _ ?_
      refine C.seqK fun K11 hK11 => ?_
      refine C.region ?_
      refine O.mv ?_
      refine O.notU rfl rfl s6_1 ?_
      refine O.asg ?_
      refine O.nil ?_
      refine hK11 _ _ ?_
      refine C.ret ?_
      refine Outs.one rfl rfl ?_
      refine ⟨?_, e1⟩
      obtain rfl : k = l.length := by omega
      rw [hm, List.take_length]; rfl

theorem sum_spec (v0 : Value) (l : List UInt8) (F : Nat → Prop) (w : World) (hl : Sl byteE w F v0 l) :
    Ret Tryd.prog 9 #[v0] w (fun v w' => v = .int .u32 ((Crc.update 0#32 l).toNat : Int) ∧ Le w w') := by
  refine enter (args := [v0]) (n := 5) Tryd.func9 rfl rfl (Nat.le_of_ble_eq_true rfl) ?_
  refine C.seqK fun K1 hK1 => ?_
  refine C.region ?_
  refine O.asg ?_
  refine O.nil ?_
  refine hK1 _ _ ?_
  refine C.seqK fun K2 hK2 => ?_
  refine C.region ?_
  refine O.mv ?_
  refine O.call Tryd.call11 (args2 rfl rfl) (update_spec 0#32 _ _ _ _ hl) ?_
  rintro v_4 w1 ⟨rfl, e1⟩
  have z1 := e1.size
  refine O.asg ?_
  refine O.nil ?_
  refine hK2 _ _ ?_
  refine C.ret ?_
  refine Outs.one rfl rfl ?_
  exact ⟨rfl, e1⟩

theorem join_spec (a b : BitVec 32) (len : Int) (w : World) :
    Ret Tryd.prog 22 #[.int .u32 ((a).toNat : Int), .int .u32 ((b).toNat : Int), .int .i64 (len)] w (fun v w' => v = .tuple (if 0 ≤ len ∧ len ≤ 16777216 then #[.int .u32 ((Crc.zeros len.toNat a ^^^ b).toNat : Int), .int .i64 0] else #[.int .u32 ((0#32).toNat : Int), .int .i64 2]) ∧ Le w w') := by
  refine enter (args := [.int .u32 ((a).toNat : Int), .int .u32 ((b).toNat : Int), .int .i64 (len)]) (n := 26) Tryd.func22 rfl rfl (Nat.le_of_ble_eq_true rfl) ?_
  refine C.seqK fun K1 hK1 => ?_
  refine C.region ?_
  refine O.asg ?_
  refine O.asg ?_
  refine O.nil ?_
  refine hK1 _ _ ?_
  refine C.seqK fun K2 hK2 => ?_
  refine C.seqK fun K3 hK3 => ?_
  refine C.region ?_
  refine O.mv ?_
  refine O.lssI rfl rfl ?_
  refine O.mv ?_
  refine O.splitD (x := .tmp 11) rfl (fun c11 => ?_) (fun c11 => ?_)
  ·
    refine O.no rfl (noB (isT rfl c11) rfl) ?_
    refine O.no rfl (noB (isT rfl c11) rfl) ?_
    refine O.pickT (isT rfl c11) ?_
    refine O.nil ?_
    refine hK3 _ _ ?_
    refine C.condT rfl ?_
    refine C.seqK fun K4 hK4 => ?_
    refine C.region ?_
    refine O.asg ?_
    refine O.asg ?_
    refine O.nil ?_
    refine hK4 _ _ ?_
    refine C.ret ?_
    refine Outs.two rfl rfl rfl ?_
    first
    | (rw [if_neg (by omega)]; exact ⟨rfl, (Le.refl _)⟩)
    | (rw [if_pos (by omega)]
       obtain rfl : k = len.toNat := by omega
       exact ⟨by rw [hm]; rfl, (Le.refl _)⟩)
  ·
    refine O.yes rfl (isF rfl c11) ?_
    refine O.mv ?_
    refine O.yes rfl (isF rfl c11) ?_
    refine O.gtrI rfl rfl ?_
    refine O.pickF (isF rfl c11) ?_
    refine O.nil ?_
    refine hK3 _ _ ?_
    refine C.condD rfl (fun c14 => ?_) (fun c14 => ?_)
    ·
      refine C.seqK fun K5 hK5 => ?_
      refine C.region ?_
      refine O.asg ?_
      refine O.asg ?_
      refine O.nil ?_
      refine hK5 _ _ ?_
      refine C.ret ?_
      refine Outs.two rfl rfl rfl ?_
      first
      | (rw [if_neg (by omega)]; exact ⟨rfl, (Le.refl _)⟩)
      | (rw [if_pos (by omega)]
         obtain rfl : k = len.toNat := by omega
         exact ⟨by rw [hm]; rfl, (Le.refl _)⟩)
    ·
      refine C.skip ?_
      refine hK2 _ _ ?_
      refine C.seqK fun K6 hK6 => ?_
      refine C.region ?_
      refine O.call Tryd.call19 (argsN) (made_spec _) ?_
      rintro v_15 w1 ⟨bv15, rfl, e1, h15⟩
      have z1 := e1.size
      refine O.asg ?_
      refine O.nil ?_
      refine hK6 _ _ ?_
      refine C.seqK fun K7 hK7 => ?_
      refine C.seqK fun K8 hK8 => ?_
      refine C.region ?_
      refine O.mv ?_
      refine O.mv ?_
      refine O.nil ?_
      refine hK8 _ _ ?_
      refine C.block fun K9 hK9 => ?_
      refine C.loop0 (σ := Nat × BitVec 32) (fun f0 w0 ⟨k, m⟩ f w => f 0 = .int .u32 ((m).toNat : Int) ∧ f 17 = .int .i64 (k) ∧ f 1 = f0 1 ∧ f 6 = f0 6 ∧ f 7 = f0 7 ∧ f 8 = f0 8 ∧ f 16 = f0 16 ∧ w = w0 ∧ (k : Int) ≤ len ∧ m = Crc.zeros k a) (fun ⟨k, m⟩ => len.toNat - k) (0, a) ?_ ?_
      ·
        refine ⟨rfl, rfl, rfl, rfl, rfl, rfl, rfl, rfl, ?_⟩
        exact ⟨by simp; omega, rfl⟩
      ·
        rintro ⟨k, m⟩ f_1 wx ⟨s0_1, s17_1, s1_1, s6_1, s7_1, s8_1, s16_1, rfl, ⟨hk, hm⟩⟩
        refine C.seqK fun K10 hK10 => ?_
        refine C.region ?_
        refine O.lssI s17_1 s16_1 ?_
        refine O.nil ?_
        refine hK10 _ _ ?_
        refine C.seqK fun K11 hK11 => ?_
        refine C.condD rfl (fun c18 => ?_) (fun c18 => ?_)
        ·
          refine C.skip ?_
          refine hK11 _ _ ?_
          refine C.seqK fun K12 hK12 => ?_
          refine C.block fun K13 hK13 => ?_
          refine C.region ?_
          refine O.mv ?_
          refine O.mv ?_
          refine O.call Tryd.call20 (args3 s8_1 s0_1 rfl) (pstep_spec _ _ 0#8 _ _ h15) ?_
          rintro v_21 w2 ⟨rfl, rfl⟩
          refine O.asg ?_
          refine O.nil ?_
          refine hK13 _ _ ?_
          refine hK12 _ _ ?_
          refine C.region ?_
          refine O.addI s17_1 rfl (by unfold InI; omega) ?_
          refine O.mv ?_
          refine O.nil ?_
          refine ⟨(k + 1, _), ⟨rfl, rfl, s1_1, s6_1, s7_1, s8_1, s16_1, rfl, ?_⟩, by first | omega | (simp only []; omega)⟩
          refine ⟨by omega, ?_⟩
          rw [hm]; rfl
        ·
          refine C.exit ?_
          refine hK9 _ _ ?_
          refine hK7 _ _ ?_
          refine C.seqK fun K14 hK14 => ?_
          refine C.region ?_
          refine O.mv ?_
          refine O.mv ?_
          refine O.xorU (m := 32) rfl rfl s0_1 s1_1 ?_
          refine O.asg ?_
          refine O.asg ?_
          refine O.nil ?_
          refine hK14 _ _ ?_
          refine C.ret ?_
          refine Outs.two rfl rfl rfl ?_
          first
          | (rw [if_neg (by omega)]; exact ⟨rfl, e1⟩)
          | (rw [if_pos (by omega)]
             obtain rfl : k = len.toNat := by omega
             exact ⟨by rw [hm]; rfl, e1⟩)

end Go.Proofs.YtcfmdkmpjmblpaaDoor
