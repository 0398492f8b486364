/-
  The walks of check sums' texts. Conditions: the library's table and its two errors lie in memory.
-/
import Derived.Test.YtcfmdkmpjmblpaaDoorText
import Derived.Test.YtcfmdkmpjmblpaaDoorW1
import Derived.Test.YtcfmdkmpjmblpaaDoorHexW
namespace Go.Proofs.YtcfmdkmpjmblpaaDoor
open Go.Pn Go.RowKit

theorem ctext_spec (n : BitVec 32) (w : World) (hT : Row byteE w (fun k => k = 5) 5 0 Hex.bruijn) :
    Ret Tryd.prog 15 #[.int .u32 ((n).toNat : Int)] w (fun v w' => v = str (Crc.text n) ∧ Le w w') := by
  refine enter (args := [.int .u32 ((n).toNat : Int)]) (n := 13) Tryd.func15 rfl rfl (Nat.le_of_ble_eq_true rfl) ?_
  refine C.seqK fun K1 hK1 => ?_
  refine C.region ?_
  refine O.asg ?_
  refine O.nil ?_
  refine hK1 _ _ ?_
  refine C.seqK fun K2 hK2 => ?_
  refine C.region ?_
  refine O.mv ?_
  refine O.convUU (m := 32) (m' := 64) Tryd.underlying22 Tryd.underlying46 rfl rfl rfl ?_
  refine O.call Tryd.call23 (args2 rfl rfl) (fu_spec _ _ hT) ?_
  rintro v_6 w1 ⟨kv6, rfl, hcv6, e1⟩
  have z1 := e1.size
  refine O.asg ?_
  refine O.nil ?_
  refine hK2 _ _ ?_
  refine C.seqK fun K3 hK3 => ?_
  refine C.region ?_
  refine O.mv ?_
  refine O.lenS Tryd.underlying9 rfl ?_
  have hk6 := Crc.count_le hcv6
  refine O.cast (v' := .int .i64 (kv6 : Int)) (by rw [Hex.low_length]) ?_
  refine O.subI rfl rfl (by unfold InI; omega) ?_
  have hp1 : (0 : Int) ≤ 8 - (kv6 : Int) := by omega
  have hp2 : [(48 : UInt8)].length * (8 - (kv6 : Int)).toNat ≤ 140737488355328 := by show 1 * _ ≤ _; omega
  have hp3 : 8 - (kv6 : Int) ≤ 9223372036854775807 := by omega
  refine O.call Tryd.call24 (args2 rfl rfl) (repeat_spec [48] _ _ hp1 hp2 hp3) ?_
  rintro v_10 w2 ⟨rfl, e2⟩
  have z2 := e2.size
  refine O.mv ?_
  refine O.addS rfl rfl (Crc.rep_le hk6 _) ?_
  refine O.asg ?_
  refine O.nil ?_
  refine hK3 _ _ ?_
  refine C.ret ?_
  refine Outs.one rfl rfl ?_
  exact ⟨congrArg str (Crc.text_of hcv6), (Ext.trans e1 e2)⟩

theorem rtext_spec (n : BitVec 32) (w : World) :
    Ret Tryd.prog 16 #[.int .u32 ((n).toNat : Int)] w (fun v w' => v = str (Crc.text n) ∧ w' = w) := by
  refine enter (args := [.int .u32 ((n).toNat : Int)]) (n := 21) Tryd.func16 rfl rfl (Nat.le_of_ble_eq_true rfl) ?_
  refine C.seqK fun K1 hK1 => ?_
  refine C.region ?_
  refine O.asg ?_
  refine O.nil ?_
  refine hK1 _ _ ?_
  refine C.seqK fun K2 hK2 => ?_
  refine C.region ?_
  refine O.asg ?_
  refine O.nil ?_
  refine hK2 _ _ ?_
  refine C.seqK fun K3 hK3 => ?_
  refine C.seqK fun K4 hK4 => ?_
  refine C.region ?_
  refine O.asg ?_
  refine O.nil ?_
  refine hK4 _ _ ?_
  refine C.block fun K5 hK5 => ?_
  refine C.loop0 (σ := Nat) (fun f0 w0 k f w => f 0 = .int .u32 ((Crc.divs k n).toNat : Int) ∧ f 3 = str (Crc.rlow k n) ∧ f 4 = .int .i64 (k) ∧ f 2 = f0 2 ∧ w = w0 ∧ k ≤ 8) (fun k => 8 - k) 0 ?_ ?_
  ·
    refine ⟨rfl, rfl, rfl, rfl, rfl, ?_⟩
    omega
  ·
    rintro k f_1 wx ⟨s0_1, s3_1, s4_1, s2_1, rfl, hk⟩
    refine C.seqK fun K6 hK6 => ?_
    refine C.seqK fun K7 hK7 => ?_
    refine C.region ?_
    refine O.mv ?_
    refine O.lssI s4_1 rfl ?_
    refine O.nil ?_
    refine hK7 _ _ ?_
    refine C.condD rfl (fun c7 => ?_) (fun c7 => ?_)
    ·
      refine C.skip ?_
      refine hK6 _ _ ?_
      refine C.seqK fun K8 hK8 => ?_
      refine C.block fun K9 hK9 => ?_
      refine C.seqK fun K10 hK10 => ?_
      refine C.region ?_
      refine O.mv ?_
      refine O.remU (m := 32) (b := 16#32) rfl rfl s0_1 rfl (by decide) ?_
      refine O.asg ?_
      refine O.nil ?_
      refine hK10 _ _ ?_
      refine C.seqK fun K11 hK11 => ?_
      refine C.region ?_
      refine O.mv ?_
      refine O.mv ?_
      refine O.addU (m := 32) (b := 1#32) rfl rfl rfl rfl ?_
      refine O.subS (l := Crc.digits16) Tryd.underlying9 rfl (.inr ⟨_, _, rfl, rfl⟩) (.inr ⟨_, _, rfl, rfl⟩) (Crc.sub_ok _) ?_
      refine O.mv ?_
      refine O.addS rfl s3_1 (by have := Crc.rlow_length (k + 1) n; rw [Crc.rlow, List.length_append] at this; simp only [Int.toNat_natCast]; omega) ?_
      refine O.asg ?_
      refine O.nil ?_
      refine hK11 _ _ ?_
      refine C.region ?_
      refine O.mv ?_
      refine O.quoU (m := 32) (b := 16#32) rfl rfl s0_1 rfl (by decide) ?_
      refine O.asg ?_
      refine O.nil ?_
      refine hK9 _ _ ?_
      refine hK8 _ _ ?_
      refine C.region ?_
      refine O.mv ?_
      refine O.addI s4_1 rfl (by unfold InI; omega) ?_
      refine O.asg ?_
      refine O.nil ?_
      refine ⟨k + 1, ⟨rfl, rfl, rfl, s2_1, rfl, ?_⟩, by first | omega | (simp only []; omega)⟩
      omega
    ·
      refine C.exit ?_
      refine hK5 _ _ ?_
      refine hK3 _ _ ?_
      refine C.seqK fun K12 hK12 => ?_
      refine C.region ?_
      refine O.mv ?_
      refine O.asg ?_
      refine O.nil ?_
      refine hK12 _ _ ?_
      refine C.ret ?_
      refine Outs.one rfl s3_1 ?_
      obtain rfl : k = 8 := by omega
      exact ⟨congrArg str (Crc.rtext n), rfl⟩

def Crc.gotB : Option (BitVec 32) → Value
  | some m => .tuple #[.int .u32 (m.toNat : Int), .bool true]
  | none => .tuple #[.int .u32 0, .bool false]
def Crc.gotE : Option (BitVec 32) → Value
  | some m => .tuple #[.int .u32 (m.toNat : Int), .int .i64 0]
  | none => .tuple #[.int .u32 0, .int .i64 6]
theorem rparse_spec (l : List UInt8) (w : World) (hl : l.length ≤ maxLen) :
    Ret Tryd.prog 17 #[str (l)] w (fun v w' => v = Crc.gotB (Crc.rparse l) ∧ w' = w) := by
  have hl2 := hl
  unfold maxLen at hl2
  refine enter (args := [str (l)]) (n := 45) Tryd.func17 rfl rfl (Nat.le_of_ble_eq_true rfl) ?_
  refine C.seqK fun K1 hK1 => ?_
  refine C.region ?_
  refine O.asg ?_
  refine O.asg ?_
  refine O.nil ?_
  refine hK1 _ _ ?_
  refine C.seqK fun K2 hK2 => ?_
  refine C.seqK fun K3 hK3 => ?_
  refine C.region ?_
  refine O.mv ?_
  refine O.lenS Tryd.underlying9 rfl ?_
  refine O.neqI rfl rfl ?_
  refine O.nil ?_
  refine hK3 _ _ ?_
  refine C.condD rfl (fun c9 => ?_) (fun c9 => ?_)
  ·
    refine C.seqK fun K4 hK4 => ?_
    refine C.region ?_
    refine O.asg ?_
    refine O.asg ?_
    refine O.nil ?_
    refine hK4 _ _ ?_
    refine C.ret ?_
    refine Outs.two rfl rfl rfl ?_
    refine ⟨?_, rfl⟩
    first
    | (rw [show Crc.rparse l = none from by unfold Crc.rparse; exact if_neg (by omega)]; rfl)
    | (rw [Crc.rfrom_none hk2 hp hc (Crc.rmore_bad c17 c30) (by omega)]; rfl)
    | (rw [Crc.rfrom_end (by omega) hp (by omega)]; rfl)
  ·
    refine C.skip ?_
    refine hK2 _ _ ?_
    refine C.seqK fun K5 hK5 => ?_
    refine C.region ?_
    refine O.asg ?_
    refine O.nil ?_
    refine hK5 _ _ ?_
    refine C.seqK fun K6 hK6 => ?_
    refine C.seqK fun K7 hK7 => ?_
    refine C.region ?_
    refine O.asg ?_
    refine O.nil ?_
    refine hK7 _ _ ?_
    refine C.block fun K8 hK8 => ?_
    refine C.loop0 (σ := Nat × BitVec 32) (fun f0 w0 ⟨k, m⟩ f w => f 4 = .int .u32 ((m).toNat : Int) ∧ f 5 = .int .i64 (k) ∧ f 0 = f0 0 ∧ w = w0 ∧ k ≤ 8 ∧ Crc.rfrom 0#32 l = Crc.rfrom m (l.drop k)) (fun ⟨k, m⟩ => 8 - k) (0, 0#32) ?_ ?_
    ·
      refine ⟨rfl, rfl, rfl, rfl, ?_⟩
      exact ⟨Nat.zero_le _, rfl⟩
    ·
      rintro ⟨k, m⟩ f_1 wx ⟨s4_1, s5_1, s0_1, rfl, ⟨hk, hp⟩⟩
      refine C.seqK fun K9 hK9 => ?_
      refine C.seqK fun K10 hK10 => ?_
      refine C.region ?_
      refine O.mv ?_
      refine O.lssI s5_1 rfl ?_
      refine O.nil ?_
      refine hK10 _ _ ?_
      refine C.condD rfl (fun c11 => ?_) (fun c11 => ?_)
      ·
        have hk2 : k < l.length := by omega
        obtain ⟨c, hc⟩ : ∃ c : BitVec 8, c = (l[k]'hk2).toBitVec := ⟨_, rfl⟩
        refine C.skip ?_
        refine hK9 _ _ ?_
        refine C.seqK fun K11 hK11 => ?_
        refine C.block fun K12 hK12 => ?_
        refine C.seqK fun K13 hK13 => ?_
        refine C.region ?_
        refine O.mv ?_
        refine O.mv ?_
        refine O.indexS Tryd.underlying9 s0_1 s5_1 (by simp; omega) ?_
        refine O.cast (v' := .int .u8 (c.toNat : Int)) (by rw [hc]; simp [hk2]) ?_
        refine O.asg ?_
        refine O.nil ?_
        refine hK13 _ _ ?_
        refine C.block fun K14 hK14 => ?_
        refine C.seqK fun K15 hK15 => ?_
        refine C.region ?_
        refine O.mv ?_
        refine O.geqU (m := 8) (b := 48#8) rfl rfl ?_
        refine O.mv ?_
        refine O.cut 3 (fun f f' => f' 23 = .bool (decide (48#8 ≤ c ∧ c ≤ 57#8)) ∧ f' 0 = f 0 ∧ f' 4 = f 4 ∧ f' 5 = f 5 ∧ f' 6 = f 6) ?_ ?_
        ·
          refine O.splitD (x := .tmp 20) rfl (fun c20 => ?_) (fun c20 => ?_)
          ·
            refine O.yes rfl (isT rfl c20) ?_
            refine O.mv ?_
            refine O.yes rfl (isT rfl c20) ?_
            refine O.leqU (m := 8) (b := 57#8) rfl rfl ?_
            refine O.pickT (isT rfl c20) ?_
            refine O.nil ?_
            refine ⟨⟨?_, rfl, rfl, rfl, rfl⟩, rfl⟩
            first | exact rfl | exact Eq.trans rfl (congrArg Value.bool (dAnd (by assumption))) | exact Eq.trans rfl (congrArg Value.bool (dAndF (by assumption))) | exact Eq.trans rfl (congrArg Value.bool (dOr (by assumption))) | exact Eq.trans rfl (congrArg Value.bool (dOrT (by assumption)))
          ·
            refine O.no rfl (noB (isF rfl c20) rfl) ?_
            refine O.no rfl (noB (isF rfl c20) rfl) ?_
            refine O.pickF (isF rfl c20) ?_
            refine O.nil ?_
            refine ⟨⟨?_, rfl, rfl, rfl, rfl⟩, rfl⟩
            first | exact rfl | exact Eq.trans rfl (congrArg Value.bool (dAnd (by assumption))) | exact Eq.trans rfl (congrArg Value.bool (dAndF (by assumption))) | exact Eq.trans rfl (congrArg Value.bool (dOr (by assumption))) | exact Eq.trans rfl (congrArg Value.bool (dOrT (by assumption)))
        ·
          rintro f_2 ⟨s23_2, s0_2, s4_2, s5_2, s6_2⟩
          refine O.asg ?_
          refine O.nil ?_
          refine hK15 _ _ ?_
          refine C.condD s23_2 (fun c17 => ?_) (fun c17 => ?_)
          ·
            refine C.region ?_
            refine O.mv ?_
            refine O.mulU (m := 32) (a := 16#32) rfl rfl rfl (Eq.trans s4_2 s4_1) ?_
            refine O.mv ?_
            refine O.subU (m := 8) (b := 48#8) rfl rfl s6_2 rfl ?_
            refine O.convUU (m := 8) (m' := 32) Tryd.underlying5 Tryd.underlying22 rfl rfl rfl ?_
            refine O.addU (m := 32) rfl rfl rfl rfl ?_
            refine O.asg ?_
            refine O.nil ?_
            refine hK14 _ _ ?_
            refine hK12 _ _ ?_
            refine hK11 _ _ ?_
            refine C.region ?_
            refine O.mv ?_
            refine O.addI (Eq.trans s5_2 s5_1) rfl (by unfold InI; omega) ?_
            refine O.asg ?_
            refine O.nil ?_
            refine ⟨(k + 1, _), ⟨rfl, rfl, (Eq.trans s0_2 s0_1), rfl, ?_⟩, by first | omega | (simp only []; omega)⟩
            refine ⟨by omega, ?_⟩
            refine Crc.rfrom_some hk2 hp hc ?_
            first | exact Crc.rmore_dig c17 | exact Crc.rmore_let c17 c30
          ·
            refine C.seqK fun K16 hK16 => ?_
            refine C.region ?_
            refine O.mv ?_
            refine O.geqU (m := 8) (b := 97#8) s6_2 rfl ?_
            refine O.mv ?_
            refine O.cut 3 (fun f f' => f' 36 = .bool (decide (97#8 ≤ c ∧ c ≤ 102#8)) ∧ f' 0 = f 0 ∧ f' 4 = f 4 ∧ f' 5 = f 5 ∧ f' 6 = f 6) ?_ ?_
            ·
              refine O.splitD (x := .tmp 33) rfl (fun c33 => ?_) (fun c33 => ?_)
              ·
                refine O.yes rfl (isT rfl c33) ?_
                refine O.mv ?_
                refine O.yes rfl (isT rfl c33) ?_
                refine O.leqU (m := 8) (b := 102#8) s6_2 rfl ?_
                refine O.pickT (isT rfl c33) ?_
                refine O.nil ?_
                refine ⟨⟨?_, rfl, rfl, rfl, rfl⟩, rfl⟩
                first | exact rfl | exact Eq.trans rfl (congrArg Value.bool (dAnd (by assumption))) | exact Eq.trans rfl (congrArg Value.bool (dAndF (by assumption))) | exact Eq.trans rfl (congrArg Value.bool (dOr (by assumption))) | exact Eq.trans rfl (congrArg Value.bool (dOrT (by assumption)))
              ·
                refine O.no rfl (noB (isF rfl c33) rfl) ?_
                refine O.no rfl (noB (isF rfl c33) rfl) ?_
                refine O.pickF (isF rfl c33) ?_
                refine O.nil ?_
                refine ⟨⟨?_, rfl, rfl, rfl, rfl⟩, rfl⟩
                first | exact rfl | exact Eq.trans rfl (congrArg Value.bool (dAnd (by assumption))) | exact Eq.trans rfl (congrArg Value.bool (dAndF (by assumption))) | exact Eq.trans rfl (congrArg Value.bool (dOr (by assumption))) | exact Eq.trans rfl (congrArg Value.bool (dOrT (by assumption)))
            ·
              rintro f_3 ⟨s36_3, s0_3, s4_3, s5_3, s6_3⟩
              refine O.asg ?_
              refine O.nil ?_
              refine hK16 _ _ ?_
              refine C.condD s36_3 (fun c30 => ?_) (fun c30 => ?_)
              ·
                refine C.region ?_
                refine O.mv ?_
                refine O.mulU (m := 32) (a := 16#32) rfl rfl rfl (Eq.trans s4_3 (Eq.trans s4_2 s4_1)) ?_
                refine O.addU (m := 32) (b := 10#32) rfl rfl rfl rfl ?_
                refine O.mv ?_
                refine O.subU (m := 8) (b := 97#8) rfl rfl (Eq.trans s6_3 s6_2) rfl ?_
                refine O.convUU (m := 8) (m' := 32) Tryd.underlying5 Tryd.underlying22 rfl rfl rfl ?_
                refine O.addU (m := 32) rfl rfl rfl rfl ?_
                refine O.asg ?_
                refine O.nil ?_
                refine hK14 _ _ ?_
                refine hK12 _ _ ?_
                refine hK11 _ _ ?_
                refine C.region ?_
                refine O.mv ?_
                refine O.addI (Eq.trans s5_3 (Eq.trans s5_2 s5_1)) rfl (by unfold InI; omega) ?_
                refine O.asg ?_
                refine O.nil ?_
                refine ⟨(k + 1, _), ⟨rfl, rfl, (Eq.trans s0_3 (Eq.trans s0_2 s0_1)), rfl, ?_⟩, by first | omega | (simp only []; omega)⟩
                refine ⟨by omega, ?_⟩
                refine Crc.rfrom_some hk2 hp hc ?_
                first | exact Crc.rmore_dig c17 | exact Crc.rmore_let c17 c30
              ·
                refine C.seqK fun K17 hK17 => ?_
                refine C.region ?_
                refine O.asg ?_
                refine O.asg ?_
                refine O.nil ?_
                refine hK17 _ _ ?_
                refine C.ret ?_
                refine Outs.two rfl rfl rfl ?_
                refine ⟨?_, rfl⟩
                first
                | (rw [show Crc.rparse l = none from by unfold Crc.rparse; exact if_neg (by omega)]; rfl)
                | (rw [Crc.rfrom_none hk2 hp hc (Crc.rmore_bad c17 c30) (by omega)]; rfl)
                | (rw [Crc.rfrom_end (by omega) hp (by omega)]; rfl)
      ·
        refine C.exit ?_
        refine hK8 _ _ ?_
        refine hK6 _ _ ?_
        refine C.seqK fun K18 hK18 => ?_
        refine C.region ?_
        refine O.mv ?_
        refine O.asg ?_
        refine O.asg ?_
        refine O.nil ?_
        refine hK18 _ _ ?_
        refine C.ret ?_
        refine Outs.two rfl s4_1 rfl ?_
        refine ⟨?_, rfl⟩
        first
        | (rw [show Crc.rparse l = none from by unfold Crc.rparse; exact if_neg (by omega)]; rfl)
        | (rw [Crc.rfrom_none hk2 hp hc (Crc.rmore_bad c17 c30) (by omega)]; rfl)
        | (rw [Crc.rfrom_end (by omega) hp (by omega)]; rfl)


theorem rparse_ok (l : List UInt8) (m : BitVec 32) (w : World) (hl : l.length ≤ maxLen) (hr : Crc.rparse l = some m) : Ret Tryd.prog 17 #[str l] w (fun v w' => v = .tuple #[.int .u32 (m.toNat : Int), .bool true] ∧ w' = w) := by
  have h := rparse_spec l w hl
  rw [hr] at h
  exact h
theorem rparse_no (l : List UInt8) (w : World) (hl : l.length ≤ maxLen) (hr : Crc.rparse l = none) : Ret Tryd.prog 17 #[str l] w (fun v w' => v = .tuple #[.int .u32 ((0#32).toNat : Int), .bool false] ∧ w' = w) := by
  have h := rparse_spec l w hl
  rw [hr] at h
  exact h

theorem cparse_a_spec (l : List UInt8) (es er : Value) (w : World) (hl : l.length ≤ 281474976710656) (hT : Row byteE w (fun k => k = 5) 5 0 Hex.bruijn) (hes : CellIs w 2 es) (her : CellIs w 3 er) (h1 : ∃ te pe, es = .iface te pe) (h2 : ∃ te pe, er = .iface te pe) (n : BitVec 64) (hp : Hex.parse 4294967295#64 l = some n) :
    Ret Tryd.prog 25 #[str (l)] w (fun v w' => v = Crc.gotE (Crc.pparse l) ∧ Le w w') := by
  refine enter (args := [str (l)]) (n := 22) Tryd.func25 rfl rfl (Nat.le_of_ble_eq_true rfl) ?_
  refine C.seqK fun K1 hK1 => ?_
  refine C.region ?_
  refine O.asg ?_
  refine O.asg ?_
  refine O.nil ?_
  refine hK1 _ _ ?_
  refine C.seqK fun K2 hK2 => ?_
  refine C.region ?_
  refine O.mv ?_
  refine O.call Tryd.call33 (args3 rfl rfl rfl) (pu32_ok_spec _ _ _ (by unfold maxLen; omega) hp) ?_
  rintro v_8 w1 ⟨rfl, e1⟩
  have z1 := e1.size
  refine O.mv ?_
  refine O.extract rfl rfl ?_
  refine O.extract rfl rfl ?_
  refine O.asg ?_
  refine O.asg ?_
  refine O.nil ?_
  refine hK2 _ _ ?_
  refine C.seqK fun K3 hK3 => ?_
  refine C.seqK fun K4 hK4 => ?_
  refine C.region ?_
  refine O.mv ?_
  refine O.neqN0 rfl Tryd.underlying60 ?_
  refine O.mv ?_
  refine O.yes rfl rfl ?_
  refine O.mv ?_
  refine O.yes rfl rfl ?_
  refine O.convUU (m := 64) (m' := 32) Tryd.underlying46 Tryd.underlying22 rfl rfl rfl ?_
  refine O.yes rfl rfl ?_
  refine O.call Tryd.call15 (args1 rfl) (ctext_spec _ _ (hT.keep e1)) ?_
  rintro v_16 w2 ⟨rfl, e2⟩
  have z2 := e2.size
  refine O.yes rfl rfl ?_
  refine O.mv ?_
  refine O.yes rfl rfl ?_
  refine O.neqS rfl rfl ?_
  refine O.pickF rfl ?_
  refine O.nil ?_
  refine hK4 _ _ ?_
  refine C.condD rfl (fun c19 => ?_) (fun c19 => ?_)
  ·
    refine C.seqK fun K5 hK5 => ?_
    refine C.region ?_
    refine O.asg ?_
    refine O.asg ?_
    refine O.nil ?_
    refine hK5 _ _ ?_
    refine C.ret ?_
    refine Outs.two rfl rfl rfl ?_
    refine ⟨?_, (Ext.trans e1 e2)⟩
    first
    | (rw [Crc.pparse_ne hp c19]; rfl)
    | (rw [Crc.pparse_yes hp c19]; rfl)
  ·
    refine C.skip ?_
    refine hK3 _ _ ?_
    refine C.seqK fun K6 hK6 => ?_
    refine C.region ?_
    refine O.mv ?_
    refine O.convUU (m := 64) (m' := 32) Tryd.underlying46 Tryd.underlying22 rfl rfl rfl ?_
    refine O.asg ?_
    refine O.asg ?_
    refine O.nil ?_
    refine hK6 _ _ ?_
    refine C.ret ?_
    refine Outs.two rfl rfl rfl ?_
    refine ⟨?_, (Ext.trans e1 e2)⟩
    first
    | (rw [Crc.pparse_ne hp c19]; rfl)
    | (rw [Crc.pparse_yes hp c19]; rfl)

theorem cparse_b_spec (l : List UInt8) (es er : Value) (w : World) (hl : l.length ≤ 281474976710656) (hT : Row byteE w (fun k => k = 5) 5 0 Hex.bruijn) (hes : CellIs w 2 es) (her : CellIs w 3 er) (h1 : ∃ te pe, es = .iface te pe) (h2 : ∃ te pe, er = .iface te pe) (hp : Hex.parse 4294967295#64 l = none) :
    Ret Tryd.prog 25 #[str (l)] w (fun v w' => v = Crc.gotE (Crc.pparse l) ∧ Le w w') := by
  refine enter (args := [str (l)]) (n := 22) Tryd.func25 rfl rfl (Nat.le_of_ble_eq_true rfl) ?_
  refine C.seqK fun K1 hK1 => ?_
  refine C.region ?_
  refine O.asg ?_
  refine O.asg ?_
  refine O.nil ?_
  refine hK1 _ _ ?_
  refine C.seqK fun K2 hK2 => ?_
  refine C.region ?_
  refine O.mv ?_
  refine O.call Tryd.call33 (args3 rfl rfl rfl) (pu32_err_spec l es er _ hl hp hes her h1 h2) ?_
  rintro v_8 w1 ⟨xv8, yv8, rfl, e1⟩
  have z1 := e1.size
  refine O.mv ?_
  refine O.extract rfl rfl ?_
  refine O.extract rfl rfl ?_
  refine O.asg ?_
  refine O.asg ?_
  refine O.nil ?_
  refine hK2 _ _ ?_
  refine C.seqK fun K3 hK3 => ?_
  refine C.seqK fun K4 hK4 => ?_
  refine C.region ?_
  refine O.mv ?_
  refine O.neqN1 rfl rfl Tryd.underlying60 ?_
  refine O.mv ?_
  refine O.no rfl (noB rfl rfl) ?_
  refine O.no rfl (noB rfl rfl) ?_
  refine O.no rfl (noB rfl rfl) ?_
  refine O.no rfl (noB rfl rfl) ?_
  refine O.no rfl (noB rfl rfl) ?_
  refine O.pickT rfl ?_
  refine O.nil ?_
  refine hK4 _ _ ?_
  refine C.condT rfl ?_
  refine C.seqK fun K5 hK5 => ?_
  refine C.region ?_
  refine O.asg ?_
  refine O.asg ?_
  refine O.nil ?_
  refine hK5 _ _ ?_
  refine C.ret ?_
  refine Outs.two rfl rfl rfl ?_
  refine ⟨?_, e1⟩
  rw [Crc.pparse_no hp]; rfl


theorem cparse_ok (l : List UInt8) (es er : Value) (m : BitVec 32) (w : World) (hl : l.length ≤ 281474976710656) (hT : Row byteE w (fun k => k = 5) 5 0 Hex.bruijn) (hes : CellIs w 2 es) (her : CellIs w 3 er) (h1 : ∃ te pe, es = .iface te pe) (h2 : ∃ te pe, er = .iface te pe) (hq : Crc.pparse l = some m) : Ret Tryd.prog 25 #[str l] w (fun v w' => v = .tuple #[.int .u32 (m.toNat : Int), .int .i64 0] ∧ Le w w') := by
  cases hp : Hex.parse 4294967295#64 l with
  | none => have h := cparse_b_spec l es er w hl hT hes her h1 h2 hp; rw [hq] at h; exact h
  | some n => have h := cparse_a_spec l es er w hl hT hes her h1 h2 n hp; rw [hq] at h; exact h
theorem cparse_no (l : List UInt8) (es er : Value) (w : World) (hl : l.length ≤ 281474976710656) (hT : Row byteE w (fun k => k = 5) 5 0 Hex.bruijn) (hes : CellIs w 2 es) (her : CellIs w 3 er) (h1 : ∃ te pe, es = .iface te pe) (h2 : ∃ te pe, er = .iface te pe) (hq : Crc.pparse l = none) : Ret Tryd.prog 25 #[str l] w (fun v w' => v = .tuple #[.int .u32 ((0#32).toNat : Int), .int .i64 6] ∧ Le w w') := by
  cases hp : Hex.parse 4294967295#64 l with
  | none => have h := cparse_b_spec l es er w hl hT hes her h1 h2 hp; rw [hq] at h; exact h
  | some n => have h := cparse_a_spec l es er w hl hT hes her h1 h2 n hp; rw [hq] at h; exact h
theorem join_ok (a b : BitVec 32) (len : Int) (w : World) (h1 : 0 ≤ len ∧ len ≤ 16777216) : Ret Tryd.prog 22 #[.int .u32 (a.toNat : Int), .int .u32 (b.toNat : Int), .int .i64 len] w (fun v w' => v = .tuple #[.int .u32 ((Crc.zeros len.toNat a ^^^ b).toNat : Int), .int .i64 0] ∧ Le w w') := by
  have h := join_spec a b len w
  rw [if_pos h1] at h
  exact h
theorem join_no (a b : BitVec 32) (len : Int) (w : World) (h1 : ¬ (0 ≤ len ∧ len ≤ 16777216)) : Ret Tryd.prog 22 #[.int .u32 (a.toNat : Int), .int .u32 (b.toNat : Int), .int .i64 len] w (fun v w' => v = .tuple #[.int .u32 ((0#32).toNat : Int), .int .i64 2] ∧ Le w w') := by
  have h := join_spec a b len w
  rw [if_neg h1] at h
  exact h

theorem joins_ok_spec (a b : BitVec 32) (len : Int) (want : BitVec 32) (w : World) (hb : 0 ≤ len ∧ len ≤ 16777216) (hw : want = Crc.zeros len.toNat a ^^^ b) :
    Ret Tryd.prog 13 #[.int .u32 ((a).toNat : Int), .int .u32 ((b).toNat : Int), .int .i64 (len), .int .u32 ((want).toNat : Int), .int .i64 (0)] w (fun v w' => v = .bool true ∧ Le w w') := by
  refine enter (args := [.int .u32 ((a).toNat : Int), .int .u32 ((b).toNat : Int), .int .i64 (len), .int .u32 ((want).toNat : Int), .int .i64 (0)]) (n := 28) Tryd.func13 rfl rfl (Nat.le_of_ble_eq_true rfl) ?_
  refine C.seqK fun K1 hK1 => ?_
  refine C.region ?_
  refine O.asg ?_
  refine O.nil ?_
  refine hK1 _ _ ?_
  refine C.seqK fun K2 hK2 => ?_
  refine C.region ?_
  refine O.mv ?_
  refine O.mv ?_
  refine O.mv ?_
  refine O.call Tryd.call22 (args3 rfl rfl rfl) (join_ok _ _ _ _ hb) ?_
  rintro v_17 w1 ⟨rfl, e1⟩
  have z1 := e1.size
  refine O.mv ?_
  refine O.extract rfl rfl ?_
  refine O.extract rfl rfl ?_
  refine O.asg ?_
  refine O.asg ?_
  refine O.nil ?_
  refine hK2 _ _ ?_
  refine C.seqK fun K3 hK3 => ?_
  refine C.region ?_
  refine O.mv ?_
  refine O.mv ?_
  refine O.eqlU (m := 32) rfl rfl ?_
  refine O.cast (v' := .bool true) (congrArg Value.bool (by exact decide_eq_true hw.symm)) ?_
  refine O.mv ?_
  refine O.yes rfl rfl ?_
  refine O.mv ?_
  refine O.yes rfl rfl ?_
  refine O.mv ?_
  refine O.yes rfl rfl ?_
  refine O.eqlI rfl rfl ?_
  refine O.cast (v' := .bool true) rfl ?_
  refine O.pickT rfl ?_
  refine O.asg ?_
  refine O.nil ?_
  refine hK3 _ _ ?_
  refine C.ret ?_
  refine Outs.one rfl rfl ?_
  exact ⟨rfl, e1⟩

theorem joins_no_spec (a b : BitVec 32) (len : Int) (w : World) (hb : ¬ (0 ≤ len ∧ len ≤ 16777216)) :
    Ret Tryd.prog 13 #[.int .u32 ((a).toNat : Int), .int .u32 ((b).toNat : Int), .int .i64 (len), .int .u32 ((0#32).toNat : Int), .int .i64 (2)] w (fun v w' => v = .bool true ∧ Le w w') := by
  refine enter (args := [.int .u32 ((a).toNat : Int), .int .u32 ((b).toNat : Int), .int .i64 (len), .int .u32 ((0#32).toNat : Int), .int .i64 (2)]) (n := 28) Tryd.func13 rfl rfl (Nat.le_of_ble_eq_true rfl) ?_
  refine C.seqK fun K1 hK1 => ?_
  refine C.region ?_
  refine O.asg ?_
  refine O.nil ?_
  refine hK1 _ _ ?_
  refine C.seqK fun K2 hK2 => ?_
  refine C.region ?_
  refine O.mv ?_
  refine O.mv ?_
  refine O.mv ?_
  refine O.call Tryd.call22 (args3 rfl rfl rfl) (join_no _ _ _ _ hb) ?_
  rintro v_17 w1 ⟨rfl, e1⟩
  have z1 := e1.size
  refine O.mv ?_
  refine O.extract rfl rfl ?_
  refine O.extract rfl rfl ?_
  refine O.asg ?_
  refine O.asg ?_
  refine O.nil ?_
  refine hK2 _ _ ?_
  refine C.seqK fun K3 hK3 => ?_
  refine C.region ?_
  refine O.mv ?_
  refine O.mv ?_
  refine O.eqlU (m := 32) (b := 0#32) rfl rfl ?_
  refine O.cast (v' := .bool true) (congrArg Value.bool (by exact decide_eq_true rfl)) ?_
  refine O.mv ?_
  refine O.yes rfl rfl ?_
  refine O.mv ?_
  refine O.yes rfl rfl ?_
  refine O.mv ?_
  refine O.yes rfl rfl ?_
  refine O.eqlI rfl rfl ?_
  refine O.cast (v' := .bool true) rfl ?_
  refine O.pickT rfl ?_
  refine O.asg ?_
  refine O.nil ?_
  refine hK3 _ _ ?_
  refine C.ret ?_
  refine Outs.one rfl rfl ?_
  exact ⟨rfl, e1⟩

theorem parses_ok_spec (l : List UInt8) (es er : Value) (m : BitVec 32) (w : World) (hl : l.length ≤ 281474976710656) (hT : Row byteE w (fun k => k = 5) 5 0 Hex.bruijn) (hes : CellIs w 2 es) (her : CellIs w 3 er) (h1 : ∃ te pe, es = .iface te pe) (h2 : ∃ te pe, er = .iface te pe) (hq : Crc.pparse l = some m) :
    Ret Tryd.prog 18 #[str (l), .int .u32 ((m).toNat : Int), .int .i64 (0)] w (fun v w' => v = .bool true ∧ Le w w') := by
  refine enter (args := [str (l), .int .u32 ((m).toNat : Int), .int .i64 (0)]) (n := 22) Tryd.func18 rfl rfl (Nat.le_of_ble_eq_true rfl) ?_
  refine C.seqK fun K1 hK1 => ?_
  refine C.region ?_
  refine O.asg ?_
  refine O.nil ?_
  refine hK1 _ _ ?_
  refine C.seqK fun K2 hK2 => ?_
  refine C.region ?_
  refine O.mv ?_
  refine O.call Tryd.call25 (args1 rfl) (cparse_ok _ _ _ _ _ hl hT hes her h1 h2 hq) ?_
  rintro v_11 w1 ⟨rfl, e1⟩
  have z1 := e1.size
  refine O.mv ?_
  refine O.extract rfl rfl ?_
  refine O.extract rfl rfl ?_
  refine O.asg ?_
  refine O.asg ?_
  refine O.nil ?_
  refine hK2 _ _ ?_
  refine C.seqK fun K3 hK3 => ?_
  refine C.region ?_
  refine O.mv ?_
  refine O.mv ?_
  refine O.eqlU (m := 32) rfl rfl ?_
  refine O.cast (v' := .bool true) (congrArg Value.bool (by exact decide_eq_true rfl)) ?_
  refine O.mv ?_
  refine O.yes rfl rfl ?_
  refine O.mv ?_
  refine O.yes rfl rfl ?_
  refine O.mv ?_
  refine O.yes rfl rfl ?_
  refine O.eqlI rfl rfl ?_
  refine O.cast (v' := .bool true) rfl ?_
  refine O.pickT rfl ?_
  refine O.asg ?_
  refine O.nil ?_
  refine hK3 _ _ ?_
  refine C.ret ?_
  refine Outs.one rfl rfl ?_
  exact ⟨rfl, e1⟩

theorem parses_no_spec (l : List UInt8) (es er : Value) (w : World) (hl : l.length ≤ 281474976710656) (hT : Row byteE w (fun k => k = 5) 5 0 Hex.bruijn) (hes : CellIs w 2 es) (her : CellIs w 3 er) (h1 : ∃ te pe, es = .iface te pe) (h2 : ∃ te pe, er = .iface te pe) (hq : Crc.pparse l = none) :
    Ret Tryd.prog 18 #[str (l), .int .u32 ((0#32).toNat : Int), .int .i64 (6)] w (fun v w' => v = .bool true ∧ Le w w') := by
  refine enter (args := [str (l), .int .u32 ((0#32).toNat : Int), .int .i64 (6)]) (n := 22) Tryd.func18 rfl rfl (Nat.le_of_ble_eq_true rfl) ?_
  refine C.seqK fun K1 hK1 => ?_
  refine C.region ?_
  refine O.asg ?_
  refine O.nil ?_
  refine hK1 _ _ ?_
  refine C.seqK fun K2 hK2 => ?_
  refine C.region ?_
  refine O.mv ?_
  refine O.call Tryd.call25 (args1 rfl) (cparse_no _ _ _ _ hl hT hes her h1 h2 hq) ?_
  rintro v_11 w1 ⟨rfl, e1⟩
  have z1 := e1.size
  refine O.mv ?_
  refine O.extract rfl rfl ?_
  refine O.extract rfl rfl ?_
  refine O.asg ?_
  refine O.asg ?_
  refine O.nil ?_
  refine hK2 _ _ ?_
  refine C.seqK fun K3 hK3 => ?_
  refine C.region ?_
  refine O.mv ?_
  refine O.mv ?_
  refine O.eqlU (m := 32) (b := 0#32) rfl rfl ?_
  refine O.cast (v' := .bool true) (congrArg Value.bool (by exact decide_eq_true rfl)) ?_
  refine O.mv ?_
  refine O.yes rfl rfl ?_
  refine O.mv ?_
  refine O.yes rfl rfl ?_
  refine O.mv ?_
  refine O.yes rfl rfl ?_
  refine O.eqlI rfl rfl ?_
  refine O.cast (v' := .bool true) rfl ?_
  refine O.pickT rfl ?_
  refine O.asg ?_
  refine O.nil ?_
  refine hK3 _ _ ?_
  refine C.ret ?_
  refine Outs.one rfl rfl ?_
  exact ⟨rfl, e1⟩

end Go.Proofs.YtcfmdkmpjmblpaaDoor
