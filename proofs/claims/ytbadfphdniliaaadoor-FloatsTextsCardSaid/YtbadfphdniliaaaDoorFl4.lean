/-
  The walks of floats: texts. Conditions: the library's table and its errors lie in memory.
-/
import Derived.Test.YtbadfphdniliaaaDoorFw8
import Derived.Test.YtbadfphdniliaaaDoorText
import Derived.Test.YtbadfphdniliaaaDoorHexW
import Derived.Test.YtbadfphdniliaaaDoorFl1
namespace Go.Proofs.YtbadfphdniliaaaDoor
open Go.Pn Go.RowKit

theorem ftext_spec (n : BitVec 64) (w : World) (hT : Row byteE w (fun k => k = 6) 6 0 Hex.bruijn) :
    Ret Tryd.prog 28 #[fl (n)] w (fun v w' => v = str (Flx.text n) ∧ Le w w') := by
  refine enter (args := [fl (n)]) (n := 13) Tryd.func28 rfl rfl (Nat.le_of_ble_eq_true rfl) ?_
  refine C.seqK fun K1 hK1 => ?_
  refine C.region ?_
  refine O.asg ?_
  refine O.nil ?_
  refine hK1 _ _ ?_
  refine C.seqK fun K2 hK2 => ?_
  refine C.region ?_
  refine O.mv ?_
  refine O.ext ext32 (args1 rfl) (run_bitsOf _) ?_
  refine O.call Tryd.call39 (args2 rfl rfl) (fu_spec _ _ hT) ?_
  rintro v_6 w1 ⟨kv6, rfl, hcv6, e1⟩
  have z1 := e1.size
  refine O.asg ?_
  refine O.nil ?_
  refine hK2 _ _ ?_
  refine C.seqK fun K3 hK3 => ?_
  refine C.region ?_
  refine O.mv ?_
  refine O.lenS Tryd.underlying9 rfl ?_
  have hk6 := Flx.count_le hcv6
  refine O.cast (v' := .int .i64 (kv6 : Int)) (by rw [Hex.low_length]) ?_
  refine O.subI rfl rfl (by unfold InI; omega) ?_
  have hp1 : (0 : Int) ≤ 16 - (kv6 : Int) := by omega
  have hp2 : [(48 : UInt8)].length * (16 - (kv6 : Int)).toNat ≤ 140737488355328 := by show 1 * _ ≤ _; omega
  have hp3 : 16 - (kv6 : Int) ≤ 9223372036854775807 := by omega
  refine O.call Tryd.call40 (args2 rfl rfl) (repeat_spec [48] _ _ hp1 hp2 hp3) ?_
  rintro v_10 w2 ⟨rfl, e2⟩
  have z2 := e2.size
  refine O.mv ?_
  refine O.addS rfl rfl (Flx.rep_le hk6 _) ?_
  refine O.asg ?_
  refine O.nil ?_
  refine hK3 _ _ ?_
  refine C.ret ?_
  refine Outs.one rfl rfl ?_
  exact ⟨congrArg str (Flx.text_of hcv6), (Ext.trans e1 e2)⟩

theorem rtext_spec (n : BitVec 64) (w : World) :
    Ret Tryd.prog 29 #[.int .u64 ((n).toNat : Int)] w (fun v w' => v = str (Flx.text n) ∧ w' = w) := by
  refine enter (args := [.int .u64 ((n).toNat : Int)]) (n := 21) Tryd.func29 rfl rfl (Nat.le_of_ble_eq_true rfl) ?_
  refine C.seqK fun K1 hK1 => ?_
  refine C.region ?_
  refine O.asg ?_
  refine O.nil ?_
  refine hK1 _ _ ?_
  refine C.seqK fun K2 hK2 => ?_
  refine C.region ?_
  refine O.asg ?_
  refine O.nil ?_
  refine hK2 _ _ ?_
  refine C.seqK fun K3 hK3 => ?_
  refine C.seqK fun K4 hK4 => ?_
  refine C.region ?_
  refine O.asg ?_
  refine O.nil ?_
  refine hK4 _ _ ?_
  refine C.block fun K5 hK5 => ?_
  refine C.loop0 (σ := Nat) (fun f0 w0 k f w => f 0 = .int .u64 ((Flx.divs k n).toNat : Int) ∧ f 3 = str (Flx.rlow k n) ∧ f 4 = .int .i64 (k) ∧ f 2 = f0 2 ∧ w = w0 ∧ k ≤ 16) (fun k => 16 - k) 0 ?_ ?_
  ·
    refine ⟨rfl, rfl, rfl, rfl, rfl, ?_⟩
    omega
  ·
    rintro k f_1 wx ⟨s0_1, s3_1, s4_1, s2_1, rfl, hk⟩
    refine C.seqK fun K6 hK6 => ?_
    refine C.seqK fun K7 hK7 => ?_
    refine C.region ?_
    refine O.mv ?_
    refine O.lssI s4_1 rfl ?_
    refine O.nil ?_
    refine hK7 _ _ ?_
    refine C.condD rfl (fun c7 => ?_) (fun c7 => ?_)
    ·
      refine C.skip ?_
      refine hK6 _ _ ?_
      refine C.seqK fun K8 hK8 => ?_
      refine C.block fun K9 hK9 => ?_
      refine C.seqK fun K10 hK10 => ?_
      refine C.region ?_
      refine O.mv ?_
      refine O.remU (m := 64) (b := 16#64) rfl rfl s0_1 rfl (by decide) ?_
      refine O.asg ?_
      refine O.nil ?_
      refine hK10 _ _ ?_
      refine C.seqK fun K11 hK11 => ?_
      refine C.region ?_
      refine O.mv ?_
      refine O.mv ?_
      refine O.addU (m := 64) (b := 1#64) rfl rfl rfl rfl ?_
      refine O.subS (l := Flx.digits16) Tryd.underlying9 rfl (.inr ⟨_, _, rfl, rfl⟩) (.inr ⟨_, _, rfl, rfl⟩) (Flx.sub_ok _) ?_
      refine O.mv ?_
      refine O.addS rfl s3_1 (by have := Flx.rlow_length (k + 1) n; rw [Flx.rlow, List.length_append] at this; simp only [Int.toNat_natCast]; omega) ?_
      refine O.asg ?_
      refine O.nil ?_
      refine hK11 _ _ ?_
      refine C.region ?_
      refine O.mv ?_
      refine O.quoU (m := 64) (b := 16#64) rfl rfl s0_1 rfl (by decide) ?_
      refine O.asg ?_
      refine O.nil ?_
      refine hK9 _ _ ?_
      refine hK8 _ _ ?_
      refine C.region ?_
      refine O.mv ?_
      refine O.addI s4_1 rfl (by unfold InI; omega) ?_
      refine O.asg ?_
      refine O.nil ?_
      refine ⟨k + 1, ⟨rfl, rfl, rfl, s2_1, rfl, ?_⟩, by first | omega | (simp only []; omega)⟩
      omega
    ·
      refine C.exit ?_
      refine hK5 _ _ ?_
      refine hK3 _ _ ?_
      refine C.seqK fun K12 hK12 => ?_
      refine C.region ?_
      refine O.mv ?_
      refine O.asg ?_
      refine O.nil ?_
      refine hK12 _ _ ?_
      refine C.ret ?_
      refine Outs.one rfl s3_1 ?_
      obtain rfl : k = 16 := by omega
      exact ⟨congrArg str (Flx.rtext n), rfl⟩

def Flx.gotB : Option (BitVec 64) → Value
  | some m => .tuple #[.int .u64 (m.toNat : Int), .bool true]
  | none => .tuple #[.int .u64 0, .bool false]
def Flx.gotE : Option (BitVec 64) → Value
  | some m => .tuple #[fl m, .int .i64 0]
  | none => .tuple #[fl 0#64, .int .i64 6]
theorem rparse_spec (l : List UInt8) (w : World) (hl : l.length ≤ maxLen) :
    Ret Tryd.prog 30 #[str (l)] w (fun v w' => v = Flx.gotB (Flx.rparse l) ∧ w' = w) := by
  have hl2 := hl
  unfold maxLen at hl2
  refine enter (args := [str (l)]) (n := 45) Tryd.func30 rfl rfl (Nat.le_of_ble_eq_true rfl) ?_
  refine C.seqK fun K1 hK1 => ?_
  refine C.region ?_
  refine O.asg ?_
  refine O.asg ?_
  refine O.nil ?_
  refine hK1 _ _ ?_
  refine C.seqK fun K2 hK2 => ?_
  refine C.seqK fun K3 hK3 => ?_
  refine C.region ?_
  refine O.mv ?_
  refine O.lenS Tryd.underlying9 rfl ?_
  refine O.neqI rfl rfl ?_
  refine O.nil ?_
  refine hK3 _ _ ?_
  refine C.condD rfl (fun c9 => ?_) (fun c9 => ?_)
  ·
    refine C.seqK fun K4 hK4 => ?_
    refine C.region ?_
    refine O.asg ?_
    refine O.asg ?_
    refine O.nil ?_
    refine hK4 _ _ ?_
    refine C.ret ?_
    refine Outs.two rfl rfl rfl ?_
    refine ⟨?_, rfl⟩
    first
    | (rw [show Flx.rparse l = none from by unfold Flx.rparse; exact if_neg (by omega)]; rfl)
    | (rw [Flx.rfrom_none hk2 hp hc (Flx.rmore_bad c17 c30) (by omega)]; rfl)
    | (rw [Flx.rfrom_end (by omega) hp (by omega)]; rfl)
  ·
    refine C.skip ?_
    refine hK2 _ _ ?_
    refine C.seqK fun K5 hK5 => ?_
    refine C.region ?_
    refine O.asg ?_
    refine O.nil ?_
    refine hK5 _ _ ?_
    refine C.seqK fun K6 hK6 => ?_
    refine C.seqK fun K7 hK7 => ?_
    refine C.region ?_
    refine O.asg ?_
    refine O.nil ?_
    refine hK7 _ _ ?_
    refine C.block fun K8 hK8 => ?_
    refine C.loop0 (σ := Nat × BitVec 64) (fun f0 w0 ⟨k, m⟩ f w => f 4 = .int .u64 ((m).toNat : Int) ∧ f 5 = .int .i64 (k) ∧ f 0 = f0 0 ∧ w = w0 ∧ k ≤ 16 ∧ Flx.rfrom 0#64 l = Flx.rfrom m (l.drop k)) (fun ⟨k, m⟩ => 16 - k) (0, 0#64) ?_ ?_
    ·
      refine ⟨rfl, rfl, rfl, rfl, ?_⟩
      exact ⟨Nat.zero_le _, rfl⟩
    ·
      rintro ⟨k, m⟩ f_1 wx ⟨s4_1, s5_1, s0_1, rfl, ⟨hk, hp⟩⟩
      refine C.seqK fun K9 hK9 => ?_
      refine C.seqK fun K10 hK10 => ?_
      refine C.region ?_
      refine O.mv ?_
      refine O.lssI s5_1 rfl ?_
      refine O.nil ?_
      refine hK10 _ _ ?_
      refine C.condD rfl (fun c11 => ?_) (fun c11 => ?_)
      ·
        have hk2 : k < l.length := by omega
        obtain ⟨c, hc⟩ : ∃ c : BitVec 8, c = (l[k]'hk2).toBitVec := ⟨_, rfl⟩
        refine C.skip ?_
        refine hK9 _ _ ?_
        refine C.seqK fun K11 hK11 => ?_
        refine C.block fun K12 hK12 => ?_
        refine C.seqK fun K13 hK13 => ?_
        refine C.region ?_
        refine O.mv ?_
        refine O.mv ?_
        refine O.indexS Tryd.underlying9 s0_1 s5_1 (by simp; omega) ?_
        refine O.cast (v' := .int .u8 (c.toNat : Int)) (by rw [hc]; simp [hk2]) ?_
        refine O.asg ?_
        refine O.nil ?_
        refine hK13 _ _ ?_
        refine C.block fun K14 hK14 => ?_
        refine C.seqK fun K15 hK15 => ?_
        refine C.region ?_
        refine O.mv ?_
        refine O.geqU (m := 8) (b := 48#8) rfl rfl ?_
        refine O.mv ?_
        refine O.cut 3 (fun f f' => f' 23 = .bool (decide (48#8 ≤ c ∧ c ≤ 57#8)) ∧ f' 0 = f 0 ∧ f' 4 = f 4 ∧ f' 5 = f 5 ∧ f' 6 = f 6) ?_ ?_
        ·
          refine O.splitD (x := .tmp 20) rfl (fun c20 => ?_) (fun c20 => ?_)
          ·
            refine O.yes rfl (isT rfl c20) ?_
            refine O.mv ?_
            refine O.yes rfl (isT rfl c20) ?_
            refine O.leqU (m := 8) (b := 57#8) rfl rfl ?_
            refine O.pickT (isT rfl c20) ?_
            refine O.nil ?_
            refine ⟨⟨?_, rfl, rfl, rfl, rfl⟩, rfl⟩
            first | exact rfl | exact Eq.trans rfl (congrArg Value.bool (dAnd (by assumption))) | exact Eq.trans rfl (congrArg Value.bool (dAndF (by assumption))) | exact Eq.trans rfl (congrArg Value.bool (dOr (by assumption))) | exact Eq.trans rfl (congrArg Value.bool (dOrT (by assumption)))
          ·
            refine O.no rfl (noB (isF rfl c20) rfl) ?_
            refine O.no rfl (noB (isF rfl c20) rfl) ?_
            refine O.pickF (isF rfl c20) ?_
            refine O.nil ?_
            refine ⟨⟨?_, rfl, rfl, rfl, rfl⟩, rfl⟩
            first | exact rfl | exact Eq.trans rfl (congrArg Value.bool (dAnd (by assumption))) | exact Eq.trans rfl (congrArg Value.bool (dAndF (by assumption))) | exact Eq.trans rfl (congrArg Value.bool (dOr (by assumption))) | exact Eq.trans rfl (congrArg Value.bool (dOrT (by assumption)))
        ·
          rintro f_2 ⟨s23_2, s0_2, s4_2, s5_2, s6_2⟩
          refine O.asg ?_
          refine O.nil ?_
          refine hK15 _ _ ?_
          refine C.condD s23_2 (fun c17 => ?_) (fun c17 => ?_)
          ·
            refine C.region ?_
            refine O.mv ?_
            refine O.mulU (m := 64) (a := 16#64) rfl rfl rfl (Eq.trans s4_2 s4_1) ?_
            refine O.mv ?_
            refine O.subU (m := 8) (b := 48#8) rfl rfl s6_2 rfl ?_
            refine O.convUU (m := 8) (m' := 64) Tryd.underlying5 Tryd.underlying22 rfl rfl rfl ?_
            refine O.addU (m := 64) rfl rfl rfl rfl ?_
            refine O.asg ?_
            refine O.nil ?_
            refine hK14 _ _ ?_
            refine hK12 _ _ ?_
            refine hK11 _ _ ?_
            refine C.region ?_
            refine O.mv ?_
            refine O.addI (Eq.trans s5_2 s5_1) rfl (by unfold InI; omega) ?_
            refine O.asg ?_
            refine O.nil ?_
            refine ⟨(k + 1, _), ⟨rfl, rfl, (Eq.trans s0_2 s0_1), rfl, ?_⟩, by first | omega | (simp only []; omega)⟩
            refine ⟨by omega, ?_⟩
            refine Flx.rfrom_some hk2 hp hc ?_
            first | exact Flx.rmore_dig c17 | exact Flx.rmore_let c17 c30
          ·
            refine C.seqK fun K16 hK16 => ?_
            refine C.region ?_
            refine O.mv ?_
            refine O.geqU (m := 8) (b := 97#8) s6_2 rfl ?_
            refine O.mv ?_
            refine O.cut 3 (fun f f' => f' 36 = .bool (decide (97#8 ≤ c ∧ c ≤ 102#8)) ∧ f' 0 = f 0 ∧ f' 4 = f 4 ∧ f' 5 = f 5 ∧ f' 6 = f 6) ?_ ?_
            ·
              refine O.splitD (x := .tmp 33) rfl (fun c33 => ?_) (fun c33 => ?_)
              ·
                refine O.yes rfl (isT rfl c33) ?_
                refine O.mv ?_
                refine O.yes rfl (isT rfl c33) ?_
                refine O.leqU (m := 8) (b := 102#8) s6_2 rfl ?_
                refine O.pickT (isT rfl c33) ?_
                refine O.nil ?_
                refine ⟨⟨?_, rfl, rfl, rfl, rfl⟩, rfl⟩
                first | exact rfl | exact Eq.trans rfl (congrArg Value.bool (dAnd (by assumption))) | exact Eq.trans rfl (congrArg Value.bool (dAndF (by assumption))) | exact Eq.trans rfl (congrArg Value.bool (dOr (by assumption))) | exact Eq.trans rfl (congrArg Value.bool (dOrT (by assumption)))
              ·
                refine O.no rfl (noB (isF rfl c33) rfl) ?_
                refine O.no rfl (noB (isF rfl c33) rfl) ?_
                refine O.pickF (isF rfl c33) ?_
                refine O.nil ?_
                refine ⟨⟨?_, rfl, rfl, rfl, rfl⟩, rfl⟩
                first | exact rfl | exact Eq.trans rfl (congrArg Value.bool (dAnd (by assumption))) | exact Eq.trans rfl (congrArg Value.bool (dAndF (by assumption))) | exact Eq.trans rfl (congrArg Value.bool (dOr (by assumption))) | exact Eq.trans rfl (congrArg Value.bool (dOrT (by assumption)))
            ·
              rintro f_3 ⟨s36_3, s0_3, s4_3, s5_3, s6_3⟩
              refine O.asg ?_
              refine O.nil ?_
              refine hK16 _ _ ?_
              refine C.condD s36_3 (fun c30 => ?_) (fun c30 => ?_)
              ·
                refine C.region ?_
                refine O.mv ?_
                refine O.mulU (m := 64) (a := 16#64) rfl rfl rfl (Eq.trans s4_3 (Eq.trans s4_2 s4_1)) ?_
                refine O.addU (m := 64) (b := 10#64) rfl rfl rfl rfl ?_
                refine O.mv ?_
                refine O.subU (m := 8) (b := 97#8) rfl rfl (Eq.trans s6_3 s6_2) rfl ?_
                refine O.convUU (m := 8) (m' := 64) Tryd.underlying5 Tryd.underlying22 rfl rfl rfl ?_
                refine O.addU (m := 64) rfl rfl rfl rfl ?_
                refine O.asg ?_
                refine O.nil ?_
                refine hK14 _ _ ?_
                refine hK12 _ _ ?_
                refine hK11 _ _ ?_
                refine C.region ?_
                refine O.mv ?_
                refine O.addI (Eq.trans s5_3 (Eq.trans s5_2 s5_1)) rfl (by unfold InI; omega) ?_
                refine O.asg ?_
                refine O.nil ?_
                refine ⟨(k + 1, _), ⟨rfl, rfl, (Eq.trans s0_3 (Eq.trans s0_2 s0_1)), rfl, ?_⟩, by first | omega | (simp only []; omega)⟩
                refine ⟨by omega, ?_⟩
                refine Flx.rfrom_some hk2 hp hc ?_
                first | exact Flx.rmore_dig c17 | exact Flx.rmore_let c17 c30
              ·
                refine C.seqK fun K17 hK17 => ?_
                refine C.region ?_
                refine O.asg ?_
                refine O.asg ?_
                refine O.nil ?_
                refine hK17 _ _ ?_
                refine C.ret ?_
                refine Outs.two rfl rfl rfl ?_
                refine ⟨?_, rfl⟩
                first
                | (rw [show Flx.rparse l = none from by unfold Flx.rparse; exact if_neg (by omega)]; rfl)
                | (rw [Flx.rfrom_none hk2 hp hc (Flx.rmore_bad c17 c30) (by omega)]; rfl)
                | (rw [Flx.rfrom_end (by omega) hp (by omega)]; rfl)
      ·
        refine C.exit ?_
        refine hK8 _ _ ?_
        refine hK6 _ _ ?_
        refine C.seqK fun K18 hK18 => ?_
        refine C.region ?_
        refine O.mv ?_
        refine O.asg ?_
        refine O.asg ?_
        refine O.nil ?_
        refine hK18 _ _ ?_
        refine C.ret ?_
        refine Outs.two rfl s4_1 rfl ?_
        refine ⟨?_, rfl⟩
        first
        | (rw [show Flx.rparse l = none from by unfold Flx.rparse; exact if_neg (by omega)]; rfl)
        | (rw [Flx.rfrom_none hk2 hp hc (Flx.rmore_bad c17 c30) (by omega)]; rfl)
        | (rw [Flx.rfrom_end (by omega) hp (by omega)]; rfl)


theorem rparse_ok (l : List UInt8) (m : BitVec 64) (w : World) (hl : l.length ≤ maxLen) (hr : Flx.rparse l = some m) : Ret Tryd.prog 30 #[str l] w (fun v w' => v = .tuple #[.int .u64 (m.toNat : Int), .bool true] ∧ w' = w) := by
  have h := rparse_spec l w hl
  rw [hr] at h
  exact h
theorem rparse_no (l : List UInt8) (w : World) (hl : l.length ≤ maxLen) (hr : Flx.rparse l = none) : Ret Tryd.prog 30 #[str l] w (fun v w' => v = .tuple #[.int .u64 ((0#64).toNat : Int), .bool false] ∧ w' = w) := by
  have h := rparse_spec l w hl
  rw [hr] at h
  exact h

theorem fparse_a_spec (l : List UInt8) (w : World) (hl : l.length ≤ 281474976710656) (hT : Row byteE w (fun k => k = 6) 6 0 Hex.bruijn) (n : BitVec 64) (hp : Hex.parse 18446744073709551615#64 l = some n) :
    Ret Tryd.prog 41 #[str (l)] w (fun v w' => v = Flx.gotE (Flx.pparse l) ∧ Le w w') := by
  refine enter (args := [str (l)]) (n := 23) Tryd.func41 rfl rfl (Nat.le_of_ble_eq_true rfl) ?_
  refine C.seqK fun K1 hK1 => ?_
  refine C.region ?_
  refine O.asg ?_
  refine O.asg ?_
  refine O.nil ?_
  refine hK1 _ _ ?_
  refine C.seqK fun K2 hK2 => ?_
  refine C.region ?_
  refine O.mv ?_
  refine O.call Tryd.call53 (args3 rfl rfl rfl) (pu64_ok_spec _ _ _ (by unfold maxLen; omega) hp) ?_
  rintro v_9 w1 ⟨rfl, e1⟩
  have z1 := e1.size
  refine O.mv ?_
  refine O.extract rfl rfl ?_
  refine O.extract rfl rfl ?_
  refine O.asg ?_
  refine O.asg ?_
  refine O.nil ?_
  refine hK2 _ _ ?_
  refine C.seqK fun K3 hK3 => ?_
  refine C.region ?_
  refine O.mv ?_
  refine O.ext ext33 (args1 rfl) (run_fromBits _) ?_
  refine O.asg ?_
  refine O.nil ?_
  refine hK3 _ _ ?_
  refine C.seqK fun K4 hK4 => ?_
  refine C.seqK fun K5 hK5 => ?_
  refine C.region ?_
  refine O.mv ?_
  refine O.neqN0 rfl Tryd.underlying73 ?_
  refine O.mv ?_
  refine O.yes rfl rfl ?_
  refine O.mv ?_
  refine O.yes rfl rfl ?_
  refine O.call Tryd.call28 (args1 rfl) (ftext_spec _ _ (hT.keep e1)) ?_
  rintro v_18 w2 ⟨rfl, e2⟩
  have z2 := e2.size
  refine O.yes rfl rfl ?_
  refine O.mv ?_
  refine O.yes rfl rfl ?_
  refine O.neqS rfl rfl ?_
  refine O.pickF rfl ?_
  refine O.nil ?_
  refine hK5 _ _ ?_
  refine C.condD rfl (fun c21 => ?_) (fun c21 => ?_)
  ·
    refine C.seqK fun K6 hK6 => ?_
    refine C.region ?_
    refine O.asg ?_
    refine O.asg ?_
    refine O.nil ?_
    refine hK6 _ _ ?_
    refine C.ret ?_
    refine Outs.two rfl rfl rfl ?_
    refine ⟨?_, (Ext.trans e1 e2)⟩
    first
    | (rw [Flx.pparse_ne hp c21]; rfl)
    | (rw [Flx.pparse_yes hp c21]; rfl)
  ·
    refine C.skip ?_
    refine hK4 _ _ ?_
    refine C.seqK fun K7 hK7 => ?_
    refine C.region ?_
    refine O.mv ?_
    refine O.asg ?_
    refine O.asg ?_
    refine O.nil ?_
    refine hK7 _ _ ?_
    refine C.ret ?_
    refine Outs.two rfl rfl rfl ?_
    refine ⟨?_, (Ext.trans e1 e2)⟩
    first
    | (rw [Flx.pparse_ne hp c21]; rfl)
    | (rw [Flx.pparse_yes hp c21]; rfl)

theorem fparse_b_spec (l : List UInt8) (es er : Value) (w : World) (hl : l.length ≤ 281474976710656) (hes : CellIs w 3 es) (her : CellIs w 4 er) (h1 : ∃ te pe, es = .iface te pe) (h2 : ∃ te pe, er = .iface te pe) (hp : Hex.parse 18446744073709551615#64 l = none) :
    Ret Tryd.prog 41 #[str (l)] w (fun v w' => v = Flx.gotE (Flx.pparse l) ∧ Le w w') := by
  refine enter (args := [str (l)]) (n := 23) Tryd.func41 rfl rfl (Nat.le_of_ble_eq_true rfl) ?_
  refine C.seqK fun K1 hK1 => ?_
  refine C.region ?_
  refine O.asg ?_
  refine O.asg ?_
  refine O.nil ?_
  refine hK1 _ _ ?_
  refine C.seqK fun K2 hK2 => ?_
  refine C.region ?_
  refine O.mv ?_
  refine O.call Tryd.call53 (args3 rfl rfl rfl) (pu64_err_spec l es er _ hl hp hes her h1 h2) ?_
  rintro v_9 w1 ⟨xv9, yv9, rfl, e1⟩
  have z1 := e1.size
  refine O.mv ?_
  refine O.extract rfl rfl ?_
  refine O.extract rfl rfl ?_
  refine O.asg ?_
  refine O.asg ?_
  refine O.nil ?_
  refine hK2 _ _ ?_
  refine C.seqK fun K3 hK3 => ?_
  refine C.region ?_
  refine O.mv ?_
  refine O.ext ext33 (args1 rfl) (run_fromBits _) ?_
  refine O.asg ?_
  refine O.nil ?_
  refine hK3 _ _ ?_
  refine C.seqK fun K4 hK4 => ?_
  refine C.seqK fun K5 hK5 => ?_
  refine C.region ?_
  refine O.mv ?_
  refine O.neqN1 rfl rfl Tryd.underlying73 ?_
  refine O.mv ?_
  refine O.no rfl (noB rfl rfl) ?_
  refine O.no rfl (noB rfl rfl) ?_
  refine O.no rfl (noB rfl rfl) ?_
  refine O.no rfl (noB rfl rfl) ?_
  refine O.pickT rfl ?_
  refine O.nil ?_
  refine hK5 _ _ ?_
  refine C.condT rfl ?_
  refine C.seqK fun K6 hK6 => ?_
  refine C.region ?_
  refine O.asg ?_
  refine O.asg ?_
  refine O.nil ?_
  refine hK6 _ _ ?_
  refine C.ret ?_
  refine Outs.two rfl rfl rfl ?_
  refine ⟨?_, e1⟩
  rw [Flx.pparse_no hp]; rfl


theorem fparse_spec (l : List UInt8) (es er : Value) (w : World) (hl : l.length ≤ 281474976710656) (hT : Row byteE w (fun k => k = 6) 6 0 Hex.bruijn) (hes : CellIs w 3 es) (her : CellIs w 4 er) (h1 : ∃ te pe, es = .iface te pe) (h2 : ∃ te pe, er = .iface te pe) : Ret Tryd.prog 41 #[str l] w (fun v w' => v = Flx.gotE (Flx.pparse l) ∧ Le w w') := by
  cases hp : Hex.parse 18446744073709551615#64 l with
  | none => exact fparse_b_spec l es er w hl hes her h1 h2 hp
  | some n => exact fparse_a_spec l w hl hT n hp
theorem fparse_ok (l : List UInt8) (es er : Value) (m : BitVec 64) (w : World) (hl : l.length ≤ 281474976710656) (hT : Row byteE w (fun k => k = 6) 6 0 Hex.bruijn) (hes : CellIs w 3 es) (her : CellIs w 4 er) (h1 : ∃ te pe, es = .iface te pe) (h2 : ∃ te pe, er = .iface te pe) (hq : Flx.pparse l = some m) : Ret Tryd.prog 41 #[str l] w (fun v w' => v = .tuple #[fl m, .int .i64 0] ∧ Le w w') := by
  have h := fparse_spec l es er w hl hT hes her h1 h2
  rw [hq] at h; exact h
theorem fparse_no (l : List UInt8) (es er : Value) (w : World) (hl : l.length ≤ 281474976710656) (hT : Row byteE w (fun k => k = 6) 6 0 Hex.bruijn) (hes : CellIs w 3 es) (her : CellIs w 4 er) (h1 : ∃ te pe, es = .iface te pe) (h2 : ∃ te pe, er = .iface te pe) (hq : Flx.pparse l = none) : Ret Tryd.prog 41 #[str l] w (fun v w' => v = .tuple #[fl 0#64, .int .i64 6] ∧ Le w w') := by
  have h := fparse_spec l es er w hl hT hes her h1 h2
  rw [hq] at h; exact h

theorem parses_ok_spec (l : List UInt8) (b : BitVec 64) (es er : Value) (w : World) (hl : l.length ≤ 281474976710656) (hT : Row byteE w (fun k => k = 6) 6 0 Hex.bruijn) (hes : CellIs w 3 es) (her : CellIs w 4 er) (h1 : ∃ te pe, es = .iface te pe) (h2 : ∃ te pe, er = .iface te pe) (hq : Flx.pparse l = some b) :
    Ret Tryd.prog 31 #[str (l), .int .u64 ((b).toNat : Int), .int .i64 (0)] w (fun v w' => v = .bool true ∧ Le w w') := by
  refine enter (args := [str (l), .int .u64 ((b).toNat : Int), .int .i64 (0)]) (n := 22) Tryd.func31 rfl rfl (Nat.le_of_ble_eq_true rfl) ?_
  refine C.seqK fun K1 hK1 => ?_
  refine C.region ?_
  refine O.asg ?_
  refine O.nil ?_
  refine hK1 _ _ ?_
  refine C.seqK fun K2 hK2 => ?_
  refine C.region ?_
  refine O.mv ?_
  refine O.call Tryd.call41 (args1 rfl) (fparse_ok _ _ _ _ _ hl hT hes her h1 h2 hq) ?_
  rintro v_11 w1 ⟨rfl, e1⟩
  have z1 := e1.size
  refine O.mv ?_
  refine O.extract rfl rfl ?_
  refine O.extract rfl rfl ?_
  refine O.asg ?_
  refine O.asg ?_
  refine O.nil ?_
  refine hK2 _ _ ?_
  refine C.seqK fun K3 hK3 => ?_
  refine C.region ?_
  refine O.mv ?_
  refine O.mv ?_
  refine O.call Tryd.call12 (args2 rfl rfl) (is_spec _ _ _) ?_
  rintro v_16 w2 ⟨rfl, hw_⟩
  replace hw_ := hw_.symm
  subst hw_
  refine O.cast (v' := .bool true) (congrArg Value.bool (by exact decide_eq_true rfl)) ?_
  refine O.mv ?_
  refine O.yes rfl rfl ?_
  refine O.mv ?_
  refine O.yes rfl rfl ?_
  refine O.mv ?_
  refine O.yes rfl rfl ?_
  refine O.eqlI rfl rfl ?_
  refine O.cast (v' := .bool true) rfl ?_
  refine O.pickT rfl ?_
  refine O.asg ?_
  refine O.nil ?_
  refine hK3 _ _ ?_
  refine C.ret ?_
  refine Outs.one rfl rfl ?_
  exact ⟨rfl, e1⟩

theorem parses_no_spec (l : List UInt8) (es er : Value) (w : World) (hl : l.length ≤ 281474976710656) (hT : Row byteE w (fun k => k = 6) 6 0 Hex.bruijn) (hes : CellIs w 3 es) (her : CellIs w 4 er) (h1 : ∃ te pe, es = .iface te pe) (h2 : ∃ te pe, er = .iface te pe) (hq : Flx.pparse l = none) :
    Ret Tryd.prog 31 #[str (l), .int .u64 ((0#64).toNat : Int), .int .i64 (6)] w (fun v w' => v = .bool true ∧ Le w w') := by
  refine enter (args := [str (l), .int .u64 ((0#64).toNat : Int), .int .i64 (6)]) (n := 22) Tryd.func31 rfl rfl (Nat.le_of_ble_eq_true rfl) ?_
  refine C.seqK fun K1 hK1 => ?_
  refine C.region ?_
  refine O.asg ?_
  refine O.nil ?_
  refine hK1 _ _ ?_
  refine C.seqK fun K2 hK2 => ?_
  refine C.region ?_
  refine O.mv ?_
  refine O.call Tryd.call41 (args1 rfl) (fparse_no _ _ _ _ hl hT hes her h1 h2 hq) ?_
  rintro v_11 w1 ⟨rfl, e1⟩
  have z1 := e1.size
  refine O.mv ?_
  refine O.extract rfl rfl ?_
  refine O.extract rfl rfl ?_
  refine O.asg ?_
  refine O.asg ?_
  refine O.nil ?_
  refine hK2 _ _ ?_
  refine C.seqK fun K3 hK3 => ?_
  refine C.region ?_
  refine O.mv ?_
  refine O.mv ?_
  refine O.call Tryd.call12 (args2 rfl rfl) (is_spec _ _ _) ?_
  rintro v_16 w2 ⟨rfl, hw_⟩
  replace hw_ := hw_.symm
  subst hw_
  refine O.cast (v' := .bool true) (congrArg Value.bool (by exact decide_eq_true rfl)) ?_
  refine O.mv ?_
  refine O.yes rfl rfl ?_
  refine O.mv ?_
  refine O.yes rfl rfl ?_
  refine O.mv ?_
  refine O.yes rfl rfl ?_
  refine O.eqlI rfl rfl ?_
  refine O.cast (v' := .bool true) rfl ?_
  refine O.pickT rfl ?_
  refine O.asg ?_
  refine O.nil ?_
  refine hK3 _ _ ?_
  refine C.ret ?_
  refine Outs.one rfl rfl ?_
  exact ⟨rfl, e1⟩

theorem minus_spec (w : World) :
    Ret Tryd.prog 35 #[] w (fun v w' => v = fl 9223372036854775808#64 ∧ w' = w) := by
  refine enter (args := []) (n := 2) Tryd.func35 rfl rfl (Nat.le_of_ble_eq_true rfl) ?_
  refine C.seqK fun K1 hK1 => ?_
  refine C.region ?_
  refine O.asg ?_
  refine O.nil ?_
  refine hK1 _ _ ?_
  refine C.seqK fun K2 hK2 => ?_
  refine C.region ?_
  refine O.call Tryd.call9 (args1 rfl) (of_spec 9223372036854775808#64 _) ?_
  rintro v_1 w1 ⟨rfl, hw_⟩
  replace hw_ := hw_.symm
  subst hw_
  refine O.asg ?_
  refine O.nil ?_
  refine hK2 _ _ ?_
  refine C.ret ?_
  refine Outs.one rfl rfl ?_
  exact ⟨rfl, rfl⟩

theorem minf_p_spec (w : World) :
    Ret Tryd.prog 43 #[.int .i64 (1)] w (fun v w' => v = fl 9218868437227405312#64 ∧ w' = w) := by
  refine enter (args := [.int .i64 (1)]) (n := 8) Tryd.func43 rfl rfl (Nat.le_of_ble_eq_true rfl) ?_
  refine C.seqK fun K1 hK1 => ?_
  refine C.region ?_
  refine O.asg ?_
  refine O.nil ?_
  refine hK1 _ _ ?_
  refine C.seqK fun K2 hK2 => ?_
  refine C.region ?_
  refine O.asg ?_
  refine O.nil ?_
  refine hK2 _ _ ?_
  refine C.seqK fun K3 hK3 => ?_
  refine C.seqK fun K4 hK4 => ?_
  refine C.region ?_
  refine O.mv ?_
  refine O.geqI rfl rfl ?_
  refine O.cast (v' := .bool true) rfl ?_
  refine O.nil ?_
  refine hK4 _ _ ?_
  refine C.condT rfl ?_
  refine C.region ?_
  refine O.asg ?_
  refine O.nil ?_
  refine hK3 _ _ ?_
  refine C.seqK fun K5 hK5 => ?_
  refine C.region ?_
  refine O.mv ?_
  refine O.ext ext33 (args1 rfl) (run_fromBits (9218868437227405312#64)) ?_
  refine O.asg ?_
  refine O.nil ?_
  refine hK5 _ _ ?_
  refine C.ret ?_
  refine Outs.one rfl rfl ?_
  exact ⟨rfl, rfl⟩

theorem minf_n_spec (w : World) :
    Ret Tryd.prog 43 #[.int .i64 (-1)] w (fun v w' => v = fl 18442240474082181120#64 ∧ w' = w) := by
  refine enter (args := [.int .i64 (-1)]) (n := 8) Tryd.func43 rfl rfl (Nat.le_of_ble_eq_true rfl) ?_
  refine C.seqK fun K1 hK1 => ?_
  refine C.region ?_
  refine O.asg ?_
  refine O.nil ?_
  refine hK1 _ _ ?_
  refine C.seqK fun K2 hK2 => ?_
  refine C.region ?_
  refine O.asg ?_
  refine O.nil ?_
  refine hK2 _ _ ?_
  refine C.seqK fun K3 hK3 => ?_
  refine C.seqK fun K4 hK4 => ?_
  refine C.region ?_
  refine O.mv ?_
  refine O.geqI rfl rfl ?_
  refine O.cast (v' := .bool false) rfl ?_
  refine O.nil ?_
  refine hK4 _ _ ?_
  refine C.condF rfl ?_
  refine C.region ?_
  refine O.asg ?_
  refine O.nil ?_
  refine hK3 _ _ ?_
  refine C.seqK fun K5 hK5 => ?_
  refine C.region ?_
  refine O.mv ?_
  refine O.ext ext33 (args1 rfl) (run_fromBits (18442240474082181120#64)) ?_
  refine O.asg ?_
  refine O.nil ?_
  refine hK5 _ _ ?_
  refine C.ret ?_
  refine Outs.one rfl rfl ?_
  exact ⟨rfl, rfl⟩

theorem inf_p_spec (w : World) :
    Ret Tryd.prog 36 #[.int .i64 (1)] w (fun v w' => v = fl 9218868437227405312#64 ∧ w' = w) := by
  refine enter (args := [.int .i64 (1)]) (n := 5) Tryd.func36 rfl rfl (Nat.le_of_ble_eq_true rfl) ?_
  refine C.seqK fun K1 hK1 => ?_
  refine C.region ?_
  refine O.asg ?_
  refine O.nil ?_
  refine hK1 _ _ ?_
  refine C.seqK fun K2 hK2 => ?_
  refine C.region ?_
  refine O.mv ?_
  refine O.call Tryd.call43 (args1 rfl) (minf_p_spec _) ?_
  rintro v_4 w1 ⟨rfl, hw_⟩
  replace hw_ := hw_.symm
  subst hw_
  refine O.asg ?_
  refine O.nil ?_
  refine hK2 _ _ ?_
  refine C.ret ?_
  refine Outs.one rfl rfl ?_
  exact ⟨rfl, rfl⟩

theorem inf_n_spec (w : World) :
    Ret Tryd.prog 36 #[.int .i64 (-1)] w (fun v w' => v = fl 18442240474082181120#64 ∧ w' = w) := by
  refine enter (args := [.int .i64 (-1)]) (n := 5) Tryd.func36 rfl rfl (Nat.le_of_ble_eq_true rfl) ?_
  refine C.seqK fun K1 hK1 => ?_
  refine C.region ?_
  refine O.asg ?_
  refine O.nil ?_
  refine hK1 _ _ ?_
  refine C.seqK fun K2 hK2 => ?_
  refine C.region ?_
  refine O.mv ?_
  refine O.call Tryd.call43 (args1 rfl) (minf_n_spec _) ?_
  rintro v_4 w1 ⟨rfl, hw_⟩
  replace hw_ := hw_.symm
  subst hw_
  refine O.asg ?_
  refine O.nil ?_
  refine hK2 _ _ ?_
  refine C.ret ?_
  refine Outs.one rfl rfl ?_
  exact ⟨rfl, rfl⟩

end Go.Proofs.YtbadfphdniliaaaDoor
