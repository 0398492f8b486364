/-
  The walks of floats: keys, order, canonical values. Conditions: slices as they lie in memory.
-/
import Derived.Test.YtbadfphdniliaaaDoorPlain
import Derived.Test.YtbadfphdniliaaaDoorRows
namespace Go.Proofs.YtbadfphdniliaaaDoor
open Go.Pn Go.RowKit

theorem ext32 : ∀ args w, (callFunc 32 args).run Tryd.prog w = ((bitsOf args).run Tryd.prog w).andThen fun v w' => .ok (.value v) w' := fun args w => run_callFunc_extern Tryd.func32 (by kernel_rfl) (by kernel_rfl) (by kernel_rfl) (by kernel_rfl) args w
theorem ext33 : ∀ args w, (callFunc 33 args).run Tryd.prog w = ((fromBits args).run Tryd.prog w).andThen fun v w' => .ok (.value v) w' := fun args w => run_callFunc_extern Tryd.func33 (by kernel_rfl) (by kernel_rfl) (by kernel_rfl) (by kernel_rfl) args w
theorem of_spec (a : BitVec 64) (w : World) :
    Ret Tryd.prog 9 #[.int .u64 ((a).toNat : Int)] w (fun v w' => v = fl a ∧ w' = w) := by
  refine enter (args := [.int .u64 ((a).toNat : Int)]) (n := 5) Tryd.func9 rfl rfl (Nat.le_of_ble_eq_true rfl) ?_
  refine C.seqK fun K1 hK1 => ?_
  refine C.region ?_
  refine O.asg ?_
  refine O.nil ?_
  refine hK1 _ _ ?_
  refine C.seqK fun K2 hK2 => ?_
  refine C.region ?_
  refine O.mv ?_
  refine O.ext ext33 (args1 rfl) (run_fromBits _) ?_
  refine O.asg ?_
  refine O.nil ?_
  refine hK2 _ _ ?_
  refine C.ret ?_
  refine Outs.one rfl rfl ?_
  exact ⟨rfl, rfl⟩

theorem is_spec (x a : BitVec 64) (w : World) :
    Ret Tryd.prog 12 #[fl (x), .int .u64 ((a).toNat : Int)] w (fun v w' => v = .bool (decide (x = a)) ∧ w' = w) := by
  refine enter (args := [fl (x), .int .u64 ((a).toNat : Int)]) (n := 9) Tryd.func12 rfl rfl (Nat.le_of_ble_eq_true rfl) ?_
  refine C.seqK fun K1 hK1 => ?_
  refine C.region ?_
  refine O.asg ?_
  refine O.nil ?_
  refine hK1 _ _ ?_
  refine C.seqK fun K2 hK2 => ?_
  refine C.region ?_
  refine O.mv ?_
  refine O.ext ext32 (args1 rfl) (run_bitsOf _) ?_
  refine O.mv ?_
  refine O.eqlU (m := 64) rfl rfl ?_
  refine O.asg ?_
  refine O.nil ?_
  refine hK2 _ _ ?_
  refine C.ret ?_
  refine Outs.one rfl rfl ?_
  exact ⟨rfl, rfl⟩

theorem key_spec (x : BitVec 64) (w : World) :
    Ret Tryd.prog 10 #[fl (x)] w (fun v w' => v = .int .u64 ((Fl.key x).toNat : Int) ∧ w' = w) := by
  refine enter (args := [fl (x)]) (n := 13) Tryd.func10 rfl rfl (Nat.le_of_ble_eq_true rfl) ?_
  refine C.seqK fun K1 hK1 => ?_
  refine C.region ?_
  refine O.asg ?_
  refine O.nil ?_
  refine hK1 _ _ ?_
  refine C.seqK fun K2 hK2 => ?_
  refine C.region ?_
  refine O.mv ?_
  refine O.ext ext32 (args1 rfl) (run_bitsOf _) ?_
  refine O.asg ?_
  refine O.nil ?_
  refine hK2 _ _ ?_
  refine C.seqK fun K3 hK3 => ?_
  refine C.seqK fun K4 hK4 => ?_
  refine C.region ?_
  refine O.mv ?_
  refine O.andU (m := 64) (b := 9223372036854775808#64) rfl rfl rfl rfl ?_
  refine O.neqU (m := 64) (b := 0#64) rfl rfl ?_
  refine O.nil ?_
  refine hK4 _ _ ?_
  refine C.condD rfl (fun c8 => ?_) (fun c8 => ?_)
  ·
    refine C.seqK fun K5 hK5 => ?_
    refine C.region ?_
    refine O.mv ?_
    refine O.notU rfl rfl rfl ?_
    refine O.asg ?_
    refine O.nil ?_
    refine hK5 _ _ ?_
    refine C.ret ?_
    refine Outs.one rfl rfl ?_
    first
    | (rw [← Fl.key_hi c8]; exact ⟨rfl, rfl⟩)
    | (rw [← Fl.key_lo c8]; exact ⟨rfl, rfl⟩)
  ·
    refine C.skip ?_
    refine hK3 _ _ ?_
    refine C.seqK fun K6 hK6 => ?_
    refine C.region ?_
    refine O.mv ?_
    refine O.orU (m := 64) (b := 9223372036854775808#64) rfl rfl rfl rfl ?_
    refine O.asg ?_
    refine O.nil ?_
    refine hK6 _ _ ?_
    refine C.ret ?_
    refine Outs.one rfl rfl ?_
    first
    | (rw [← Fl.key_hi c8]; exact ⟨rfl, rfl⟩)
    | (rw [← Fl.key_lo c8]; exact ⟨rfl, rfl⟩)

theorem off_spec (x : BitVec 64) (w : World) :
    Ret Tryd.prog 13 #[.int .u64 ((x).toNat : Int)] w (fun v w' => v = fl (Fl.off x) ∧ w' = w) := by
  refine enter (args := [.int .u64 ((x).toNat : Int)]) (n := 12) Tryd.func13 rfl rfl (Nat.le_of_ble_eq_true rfl) ?_
  refine C.seqK fun K1 hK1 => ?_
  refine C.region ?_
  refine O.asg ?_
  refine O.nil ?_
  refine hK1 _ _ ?_
  refine C.seqK fun K2 hK2 => ?_
  refine C.seqK fun K3 hK3 => ?_
  refine C.region ?_
  refine O.mv ?_
  refine O.andU (m := 64) (b := 9223372036854775808#64) rfl rfl rfl rfl ?_
  refine O.neqU (m := 64) (b := 0#64) rfl rfl ?_
  refine O.nil ?_
  refine hK3 _ _ ?_
  refine C.condD rfl (fun c5 => ?_) (fun c5 => ?_)
  ·
    refine C.seqK fun K4 hK4 => ?_
    refine C.region ?_
    refine O.mv ?_
    refine O.andNotU (m := 64) (b := 9223372036854775808#64) rfl rfl rfl rfl ?_
    refine O.ext ext33 (args1 rfl) (run_fromBits _) ?_
    refine O.asg ?_
    refine O.nil ?_
    refine hK4 _ _ ?_
    refine C.ret ?_
    refine Outs.one rfl rfl ?_
    first
    | (rw [← Fl.off_hi (by assumption)]; exact ⟨rfl, rfl⟩)
    | (rw [← Fl.off_lo (by assumption)]; exact ⟨rfl, rfl⟩)
  ·
    refine C.skip ?_
    refine hK2 _ _ ?_
    refine C.seqK fun K5 hK5 => ?_
    refine C.region ?_
    refine O.mv ?_
    refine O.notU rfl rfl rfl ?_
    refine O.ext ext33 (args1 rfl) (run_fromBits _) ?_
    refine O.asg ?_
    refine O.nil ?_
    refine hK5 _ _ ?_
    refine C.ret ?_
    refine Outs.one rfl rfl ?_
    first
    | (rw [← Fl.off_hi (by assumption)]; exact ⟨rfl, rfl⟩)
    | (rw [← Fl.off_lo (by assumption)]; exact ⟨rfl, rfl⟩)

theorem rkey_spec (x : BitVec 64) (w : World) :
    Ret Tryd.prog 11 #[.int .u64 ((x).toNat : Int)] w (fun v w' => v = .int .u64 ((Fl.key x).toNat : Int) ∧ w' = w) := by
  refine enter (args := [.int .u64 ((x).toNat : Int)]) (n := 9) Tryd.func11 rfl rfl (Nat.le_of_ble_eq_true rfl) ?_
  refine C.seqK fun K1 hK1 => ?_
  refine C.region ?_
  refine O.asg ?_
  refine O.nil ?_
  refine hK1 _ _ ?_
  refine C.seqK fun K2 hK2 => ?_
  refine C.seqK fun K3 hK3 => ?_
  refine C.region ?_
  refine O.mv ?_
  refine O.lssU (m := 64) (b := 9223372036854775808#64) rfl rfl ?_
  refine O.nil ?_
  refine hK3 _ _ ?_
  refine C.condD rfl (fun c4 => ?_) (fun c4 => ?_)
  ·
    refine C.seqK fun K4 hK4 => ?_
    refine C.region ?_
    refine O.mv ?_
    refine O.addU (m := 64) (a := 9223372036854775808#64) rfl rfl rfl rfl ?_
    refine O.asg ?_
    refine O.nil ?_
    refine hK4 _ _ ?_
    refine C.ret ?_
    refine Outs.one rfl rfl ?_
    unfold Fl.key
    first
    | (rw [if_pos (by assumption)]; exact ⟨rfl, rfl⟩)
    | (rw [if_neg (by assumption)]; exact ⟨rfl, rfl⟩)
  ·
    refine C.skip ?_
    refine hK2 _ _ ?_
    refine C.seqK fun K5 hK5 => ?_
    refine C.region ?_
    refine O.mv ?_
    refine O.subU (m := 64) (a := 18446744073709551615#64) rfl rfl rfl rfl ?_
    refine O.asg ?_
    refine O.nil ?_
    refine hK5 _ _ ?_
    refine C.ret ?_
    refine Outs.one rfl rfl ?_
    unfold Fl.key
    first
    | (rw [if_pos (by assumption)]; exact ⟨rfl, rfl⟩)
    | (rw [if_neg (by assumption)]; exact ⟨rfl, rfl⟩)

theorem roff_spec (x : BitVec 64) (w : World) :
    Ret Tryd.prog 14 #[.int .u64 ((x).toNat : Int)] w (fun v w' => v = .int .u64 ((Fl.off x).toNat : Int) ∧ w' = w) := by
  refine enter (args := [.int .u64 ((x).toNat : Int)]) (n := 9) Tryd.func14 rfl rfl (Nat.le_of_ble_eq_true rfl) ?_
  refine C.seqK fun K1 hK1 => ?_
  refine C.region ?_
  refine O.asg ?_
  refine O.nil ?_
  refine hK1 _ _ ?_
  refine C.seqK fun K2 hK2 => ?_
  refine C.seqK fun K3 hK3 => ?_
  refine C.region ?_
  refine O.mv ?_
  refine O.geqU (m := 64) (b := 9223372036854775808#64) rfl rfl ?_
  refine O.nil ?_
  refine hK3 _ _ ?_
  refine C.condD rfl (fun c4 => ?_) (fun c4 => ?_)
  ·
    refine C.seqK fun K4 hK4 => ?_
    refine C.region ?_
    refine O.mv ?_
    refine O.subU (m := 64) (b := 9223372036854775808#64) rfl rfl rfl rfl ?_
    refine O.asg ?_
    refine O.nil ?_
    refine hK4 _ _ ?_
    refine C.ret ?_
    refine Outs.one rfl rfl ?_
    unfold Fl.off
    first
    | (rw [if_pos (by assumption)]; exact ⟨rfl, rfl⟩)
    | (rw [if_neg (by assumption)]; exact ⟨rfl, rfl⟩)
  ·
    refine C.skip ?_
    refine hK2 _ _ ?_
    refine C.seqK fun K5 hK5 => ?_
    refine C.region ?_
    refine O.mv ?_
    refine O.subU (m := 64) (a := 18446744073709551615#64) rfl rfl rfl rfl ?_
    refine O.asg ?_
    refine O.nil ?_
    refine hK5 _ _ ?_
    refine C.ret ?_
    refine Outs.one rfl rfl ?_
    unfold Fl.off
    first
    | (rw [if_pos (by assumption)]; exact ⟨rfl, rfl⟩)
    | (rw [if_neg (by assumption)]; exact ⟨rfl, rfl⟩)

theorem isNaN_spec (x : BitVec 64) (w : World) :
    Ret Tryd.prog 42 #[.int .u64 ((x).toNat : Int)] w (fun v w' => v = .bool false ∧ w' = w) := by
  refine enter (args := [.int .u64 ((x).toNat : Int)]) (n := 6) Tryd.func42 rfl rfl (Nat.le_of_ble_eq_true rfl) ?_
  refine C.seqK fun K1 hK1 => ?_
  refine C.region ?_
  refine O.asg ?_
  refine O.nil ?_
  refine hK1 _ _ ?_
  refine C.seqK fun K2 hK2 => ?_
  refine C.region ?_
  refine O.mv ?_
  refine O.mv ?_
  refine O.neqU (m := 64) rfl rfl ?_
  refine O.cast (v' := .bool false) (congrArg Value.bool (by exact decide_eq_false (fun h => h rfl))) ?_
  refine O.asg ?_
  refine O.nil ?_
  refine hK2 _ _ ?_
  refine C.ret ?_
  refine Outs.one rfl rfl ?_
  exact ⟨rfl, rfl⟩

theorem ucmp_spec (a b : BitVec 64) (w : World) :
    Ret Tryd.prog 34 #[.int .u64 ((a).toNat : Int), .int .u64 ((b).toNat : Int)] w (fun v w' => v = .int .i64 (Fl.ucmp a b) ∧ w' = w) := by
  refine enter (args := [.int .u64 ((a).toNat : Int), .int .u64 ((b).toNat : Int)]) (n := 20) Tryd.func34 rfl rfl (Nat.le_of_ble_eq_true rfl) ?_
  refine C.seqK fun K1 hK1 => ?_
  refine C.region ?_
  refine O.asg ?_
  refine O.nil ?_
  refine hK1 _ _ ?_
  refine C.seqK fun K2 hK2 => ?_
  refine C.region ?_
  refine O.mv ?_
  refine O.call Tryd.call42 (args1 rfl) (isNaN_spec _ _) ?_
  rintro v_8 w1 ⟨rfl, hw_⟩
  replace hw_ := hw_.symm
  subst hw_
  refine O.asg ?_
  refine O.nil ?_
  refine hK2 _ _ ?_
  refine C.seqK fun K3 hK3 => ?_
  refine C.region ?_
  refine O.mv ?_
  refine O.call Tryd.call42 (args1 rfl) (isNaN_spec _ _) ?_
  rintro v_10 w1 ⟨rfl, hw_⟩
  replace hw_ := hw_.symm
  subst hw_
  refine O.asg ?_
  refine O.nil ?_
  refine hK3 _ _ ?_
  refine C.seqK fun K4 hK4 => ?_
  refine C.seqK fun K5 hK5 => ?_
  refine C.region ?_
  refine O.mv ?_
  refine O.nil ?_
  refine hK5 _ _ ?_
  refine C.condF rfl ?_
  refine C.skip ?_
  refine hK4 _ _ ?_
  refine C.seqK fun K6 hK6 => ?_
  refine C.seqK fun K7 hK7 => ?_
  refine C.region ?_
  refine O.mv ?_
  refine O.nil ?_
  refine hK7 _ _ ?_
  refine C.condF rfl ?_
  refine C.skip ?_
  refine hK6 _ _ ?_
  refine C.seqK fun K8 hK8 => ?_
  refine C.seqK fun K9 hK9 => ?_
  refine C.region ?_
  refine O.mv ?_
  refine O.mv ?_
  refine O.lssU (m := 64) rfl rfl ?_
  refine O.nil ?_
  refine hK9 _ _ ?_
  refine C.condD rfl (fun c16 => ?_) (fun c16 => ?_)
  ·
    refine C.seqK fun K10 hK10 => ?_
    refine C.region ?_
    refine O.asg ?_
    refine O.nil ?_
    refine hK10 _ _ ?_
    refine C.ret ?_
    refine Outs.one rfl rfl ?_
    unfold Fl.ucmp
    first
    | (rw [if_pos c16]; exact ⟨rfl, rfl⟩)
    | (rw [if_neg c16, if_pos c19]; exact ⟨rfl, rfl⟩)
    | (rw [if_neg c16, if_neg c19]; exact ⟨rfl, rfl⟩)
  ·
    refine C.skip ?_
    refine hK8 _ _ ?_
    refine C.seqK fun K11 hK11 => ?_
    refine C.seqK fun K12 hK12 => ?_
    refine C.region ?_
    refine O.mv ?_
    refine O.mv ?_
    refine O.gtrU (m := 64) rfl rfl ?_
    refine O.nil ?_
    refine hK12 _ _ ?_
    refine C.condD rfl (fun c19 => ?_) (fun c19 => ?_)
    ·
      refine C.seqK fun K13 hK13 => ?_
      refine C.region ?_
      refine O.asg ?_
      refine O.nil ?_
      refine hK13 _ _ ?_
      refine C.ret ?_
      refine Outs.one rfl rfl ?_
      unfold Fl.ucmp
      first
      | (rw [if_pos c16]; exact ⟨rfl, rfl⟩)
      | (rw [if_neg c16, if_pos c19]; exact ⟨rfl, rfl⟩)
      | (rw [if_neg c16, if_neg c19]; exact ⟨rfl, rfl⟩)
    ·
      refine C.skip ?_
      refine hK11 _ _ ?_
      refine C.seqK fun K14 hK14 => ?_
      refine C.region ?_
      refine O.asg ?_
      refine O.nil ?_
      refine hK14 _ _ ?_
      refine C.ret ?_
      refine Outs.one rfl rfl ?_
      unfold Fl.ucmp
      first
      | (rw [if_pos c16]; exact ⟨rfl, rfl⟩)
      | (rw [if_neg c16, if_pos c19]; exact ⟨rfl, rfl⟩)
      | (rw [if_neg c16, if_neg c19]; exact ⟨rfl, rfl⟩)

theorem cmp_spec (a b : BitVec 64) (w : World) :
    Ret Tryd.prog 15 #[fl (a), fl (b)] w (fun v w' => v = .int .i64 (Fl.cmp a b) ∧ w' = w) := by
  refine enter (args := [fl (a), fl (b)]) (n := 10) Tryd.func15 rfl rfl (Nat.le_of_ble_eq_true rfl) ?_
  refine C.seqK fun K1 hK1 => ?_
  refine C.region ?_
  refine O.asg ?_
  refine O.nil ?_
  refine hK1 _ _ ?_
  refine C.seqK fun K2 hK2 => ?_
  refine C.region ?_
  refine O.mv ?_
  refine O.call Tryd.call10 (args1 rfl) (key_spec _ _) ?_
  rintro v_6 w1 ⟨rfl, hw_⟩
  replace hw_ := hw_.symm
  subst hw_
  refine O.mv ?_
  refine O.call Tryd.call10 (args1 rfl) (key_spec _ _) ?_
  rintro v_8 w1 ⟨rfl, hw_⟩
  replace hw_ := hw_.symm
  subst hw_
  refine O.call Tryd.call34 (args2 rfl rfl) (ucmp_spec _ _ _) ?_
  rintro v_9 w1 ⟨rfl, hw_⟩
  replace hw_ := hw_.symm
  subst hw_
  refine O.asg ?_
  refine O.nil ?_
  refine hK2 _ _ ?_
  refine C.ret ?_
  refine Outs.one rfl rfl ?_
  exact ⟨rfl, rfl⟩

theorem rcmp_spec (a b : BitVec 64) (w : World) :
    Ret Tryd.prog 16 #[.int .u64 ((a).toNat : Int), .int .u64 ((b).toNat : Int)] w (fun v w' => v = .int .i64 (Fl.cmp a b) ∧ w' = w) := by
  refine enter (args := [.int .u64 ((a).toNat : Int), .int .u64 ((b).toNat : Int)]) (n := 15) Tryd.func16 rfl rfl (Nat.le_of_ble_eq_true rfl) ?_
  refine C.seqK fun K1 hK1 => ?_
  refine C.region ?_
  refine O.asg ?_
  refine O.nil ?_
  refine hK1 _ _ ?_
  refine C.seqK fun K2 hK2 => ?_
  refine C.seqK fun K3 hK3 => ?_
  refine C.region ?_
  refine O.mv ?_
  refine O.call Tryd.call11 (args1 rfl) (rkey_spec _ _) ?_
  rintro v_6 w1 ⟨rfl, hw_⟩
  replace hw_ := hw_.symm
  subst hw_
  refine O.mv ?_
  refine O.call Tryd.call11 (args1 rfl) (rkey_spec _ _) ?_
  rintro v_8 w1 ⟨rfl, hw_⟩
  replace hw_ := hw_.symm
  subst hw_
  refine O.lssU (m := 64) rfl rfl ?_
  refine O.nil ?_
  refine hK3 _ _ ?_
  refine C.condD rfl (fun c9 => ?_) (fun c9 => ?_)
  ·
    refine C.seqK fun K4 hK4 => ?_
    refine C.region ?_
    refine O.asg ?_
    refine O.nil ?_
    refine hK4 _ _ ?_
    refine C.ret ?_
    refine Outs.one rfl rfl ?_
    unfold Fl.cmp Fl.ucmp
    first
    | (rw [if_pos (by assumption)]; exact ⟨rfl, rfl⟩)
    | (rw [if_neg (by assumption), if_pos (by assumption)]; exact ⟨rfl, rfl⟩)
    | (rw [if_neg (by assumption), if_neg (by assumption)]; exact ⟨rfl, rfl⟩)
  ·
    refine C.skip ?_
    refine hK2 _ _ ?_
    refine C.seqK fun K5 hK5 => ?_
    refine C.seqK fun K6 hK6 => ?_
    refine C.region ?_
    refine O.mv ?_
    refine O.call Tryd.call11 (args1 rfl) (rkey_spec _ _) ?_
    rintro v_11 w1 ⟨rfl, hw_⟩
    replace hw_ := hw_.symm
    subst hw_
    refine O.mv ?_
    refine O.call Tryd.call11 (args1 rfl) (rkey_spec _ _) ?_
    rintro v_13 w1 ⟨rfl, hw_⟩
    replace hw_ := hw_.symm
    subst hw_
    refine O.gtrU (m := 64) rfl rfl ?_
    refine O.nil ?_
    refine hK6 _ _ ?_
    refine C.condD rfl (fun c14 => ?_) (fun c14 => ?_)
    ·
      refine C.seqK fun K7 hK7 => ?_
      refine C.region ?_
      refine O.asg ?_
      refine O.nil ?_
      refine hK7 _ _ ?_
      refine C.ret ?_
      refine Outs.one rfl rfl ?_
      unfold Fl.cmp Fl.ucmp
      first
      | (rw [if_pos (by assumption)]; exact ⟨rfl, rfl⟩)
      | (rw [if_neg (by assumption), if_pos (by assumption)]; exact ⟨rfl, rfl⟩)
      | (rw [if_neg (by assumption), if_neg (by assumption)]; exact ⟨rfl, rfl⟩)
    ·
      refine C.skip ?_
      refine hK5 _ _ ?_
      refine C.seqK fun K8 hK8 => ?_
      refine C.region ?_
      refine O.asg ?_
      refine O.nil ?_
      refine hK8 _ _ ?_
      refine C.ret ?_
      refine Outs.one rfl rfl ?_
      unfold Fl.cmp Fl.ucmp
      first
      | (rw [if_pos (by assumption)]; exact ⟨rfl, rfl⟩)
      | (rw [if_neg (by assumption), if_pos (by assumption)]; exact ⟨rfl, rfl⟩)
      | (rw [if_neg (by assumption), if_neg (by assumption)]; exact ⟨rfl, rfl⟩)

theorem rcanon_spec (x : BitVec 64) (w : World) :
    Ret Tryd.prog 19 #[.int .u64 ((x).toNat : Int)] w (fun v w' => v = .int .u64 ((Fl.canon x).toNat : Int) ∧ w' = w) := by
  refine enter (args := [.int .u64 ((x).toNat : Int)]) (n := 11) Tryd.func19 rfl rfl (Nat.le_of_ble_eq_true rfl) ?_
  refine C.seqK fun K1 hK1 => ?_
  refine C.region ?_
  refine O.asg ?_
  refine O.nil ?_
  refine hK1 _ _ ?_
  refine C.seqK fun K2 hK2 => ?_
  refine C.region ?_
  refine O.mv ?_
  refine O.remU (m := 64) (b := 9223372036854775808#64) rfl rfl rfl rfl (by decide) ?_
  refine O.asg ?_
  refine O.nil ?_
  refine hK2 _ _ ?_
  refine C.seqK fun K3 hK3 => ?_
  refine C.seqK fun K4 hK4 => ?_
  refine C.region ?_
  refine O.mv ?_
  refine O.gtrU (m := 64) (b := 9218868437227405312#64) rfl rfl ?_
  refine O.nil ?_
  refine hK4 _ _ ?_
  refine C.condD rfl (fun c7 => ?_) (fun c7 => ?_)
  ·
    refine C.seqK fun K5 hK5 => ?_
    refine C.region ?_
    refine O.asg ?_
    refine O.nil ?_
    refine hK5 _ _ ?_
    refine C.ret ?_
    refine Outs.one rfl rfl ?_
    unfold Fl.canon
    first
    | (rw [if_pos (by assumption)]; exact ⟨rfl, rfl⟩)
    | (rw [if_neg (by assumption), if_pos (by assumption)]; exact ⟨rfl, rfl⟩)
    | (rw [if_neg (by assumption), if_neg (by assumption)]; exact ⟨rfl, rfl⟩)
  ·
    refine C.skip ?_
    refine hK3 _ _ ?_
    refine C.seqK fun K6 hK6 => ?_
    refine C.seqK fun K7 hK7 => ?_
    refine C.region ?_
    refine O.mv ?_
    refine O.eqlU (m := 64) (b := 0#64) rfl rfl ?_
    refine O.nil ?_
    refine hK7 _ _ ?_
    refine C.condD rfl (fun c9 => ?_) (fun c9 => ?_)
    ·
      refine C.seqK fun K8 hK8 => ?_
      refine C.region ?_
      refine O.asg ?_
      refine O.nil ?_
      refine hK8 _ _ ?_
      refine C.ret ?_
      refine Outs.one rfl rfl ?_
      unfold Fl.canon
      first
      | (rw [if_pos (by assumption)]; exact ⟨rfl, rfl⟩)
      | (rw [if_neg (by assumption), if_pos (by assumption)]; exact ⟨rfl, rfl⟩)
      | (rw [if_neg (by assumption), if_neg (by assumption)]; exact ⟨rfl, rfl⟩)
    ·
      refine C.skip ?_
      refine hK6 _ _ ?_
      refine C.seqK fun K9 hK9 => ?_
      refine C.region ?_
      refine O.mv ?_
      refine O.asg ?_
      refine O.nil ?_
      refine hK9 _ _ ?_
      refine C.ret ?_
      refine Outs.one rfl rfl ?_
      unfold Fl.canon
      first
      | (rw [if_pos (by assumption)]; exact ⟨rfl, rfl⟩)
      | (rw [if_neg (by assumption), if_pos (by assumption)]; exact ⟨rfl, rfl⟩)
      | (rw [if_neg (by assumption), if_neg (by assumption)]; exact ⟨rfl, rfl⟩)

theorem rsame_spec (v0 : Value) (a : List (BitVec 64)) (v1 : Value) (b : List (BitVec 64)) (F F2 : Nat → Prop) (w : World) (ha : Sl u64E w F v0 a) (hb : Sl u64E w F2 v1 b) :
    Ret Tryd.prog 23 #[v0, v1] w (fun v w' => v = .bool (decide (a = b)) ∧ Le w w') := by
  have hale := ha.le
  have hble := hb.le
  refine enter (args := [v0, v1]) (n := 26) Tryd.func23 rfl rfl (Nat.le_of_ble_eq_true rfl) ?_
  refine C.seqK fun K1 hK1 => ?_
  refine C.region ?_
  refine O.asg ?_
  refine O.nil ?_
  refine hK1 _ _ ?_
  refine C.seqK fun K2 hK2 => ?_
  refine C.seqK fun K3 hK3 => ?_
  refine C.region ?_
  refine O.mv ?_
  refine O.len Tryd.underlying34 rfl ha ?_
  refine O.mv ?_
  refine O.len Tryd.underlying34 rfl hb ?_
  refine O.neqI rfl rfl ?_
  refine O.nil ?_
  refine hK3 _ _ ?_
  refine C.condD rfl (fun c10 => ?_) (fun c10 => ?_)
  ·
    refine C.seqK fun K4 hK4 => ?_
    refine C.region ?_
    refine O.asg ?_
    refine O.nil ?_
    refine hK4 _ _ ?_
    refine C.ret ?_
    refine Outs.one rfl rfl ?_
    first
    | exact ⟨congrArg Value.bool (decide_eq_false (fun h => c10 (congrArg (fun l : List (BitVec 64) => (l.length : Int)) h))).symm, (Le.refl _)⟩
    | exact ⟨congrArg Value.bool (decide_eq_false (fun h => c25 (by simp only [h]))).symm, (Le.refl _)⟩
    | (have hk2 : k = a.length := by omega
       subst hk2
       rw [List.take_length, List.take_of_length_le (by omega)] at hI
       exact ⟨congrArg Value.bool (decide_eq_true hI).symm, (Le.refl _)⟩)
  ·
    have hlen : a.length = b.length := by omega
    refine C.skip ?_
    refine hK2 _ _ ?_
    refine C.seqK fun K5 hK5 => ?_
    refine C.seqK fun K6 hK6 => ?_
    refine C.region ?_
    refine O.asg ?_
    refine O.nil ?_
    refine hK6 _ _ ?_
    refine C.block fun K7 hK7 => ?_
    refine C.loop0 (σ := Nat) (fun f0 w0 k f w => f 5 = .int .i64 (k) ∧ f 0 = f0 0 ∧ f 1 = f0 1 ∧ Le w0 w ∧ Sl u64E w F v0 a ∧ Sl u64E w F2 v1 b ∧ k ≤ a.length ∧ a.take k = b.take k) (fun k => a.length - k) 0 ?_ ?_
    ·
      refine ⟨rfl, rfl, rfl, Le.refl _, ha, hb, ?_⟩
      exact ⟨Nat.zero_le _, rfl⟩
    ·
      rintro k f_1 w1 ⟨s5_1, s0_1, s1_1, e_1, r0_1, r1_1, ⟨hk, hI⟩⟩
      have z_1 := e_1.size
      refine C.seqK fun K8 hK8 => ?_
      refine C.seqK fun K9 hK9 => ?_
      refine C.region ?_
      refine O.mv ?_
      refine O.mv ?_
      refine O.len Tryd.underlying34 s0_1 r0_1 ?_
      refine O.lssI s5_1 rfl ?_
      refine O.nil ?_
      refine hK9 _ _ ?_
      refine C.condD rfl (fun c14 => ?_) (fun c14 => ?_)
      ·
        refine C.skip ?_
        refine hK8 _ _ ?_
        refine C.seqK fun K10 hK10 => ?_
        refine C.block fun K11 hK11 => ?_
        refine C.seqK fun K12 hK12 => ?_
        refine C.draw (by kernel_rfl) fun w2 e2 => ?_
        have z2 := e2.size
        refine D.take (i := 0) rfl rfl rfl rfl (by kernel_rfl) (Le.refl _) ⟨pure _, rfl⟩ (fun w_ hw_ N_ hN => (O.mv (O.nil hN))) ?_
        refine D.take (i := 1) rfl rfl rfl rfl (by kernel_rfl) (Le.refl _) ⟨pure _, rfl⟩ (fun w_ hw_ N_ hN => (O.mv (O.nil hN))) ?_
        obtain ⟨a19, h19, hr19⟩ := Sl.at (i := (k : Int)) (P := Tryd.prog) Tryd.underlying34 Tryd.sizeOf22 rfl (r0_1.keep e2) (by omega)
        refine D.take (i := 2) rfl rfl rfl rfl (by kernel_rfl) (Le.refl _) ⟨_, rfl⟩ (fun w_ hw_ N_ hN => (O.idxR s0_1 s5_1 hr19 (O.nil hN))) ?_
        refine D.take (i := 3) rfl rfl rfl rfl (by kernel_rfl) (Le.refl _) ⟨_, rfl⟩ (fun w_ hw_ N_ hN => (O.loadU64 Tryd.isAgg22 rfl (h19.keep hw_) (O.nil hN))) ?_
        refine D.take (i := 4) rfl rfl rfl rfl (by kernel_rfl) (Le.refl _) ⟨pure _, rfl⟩ (fun w_ hw_ N_ hN => (O.mv (O.nil hN))) ?_
        refine D.take (i := 5) rfl rfl rfl rfl (by kernel_rfl) (Le.refl _) ⟨pure _, rfl⟩ (fun w_ hw_ N_ hN => (O.mv (O.nil hN))) ?_
        obtain ⟨a23, h23, hr23⟩ := Sl.at (i := (k : Int)) (P := Tryd.prog) Tryd.underlying34 Tryd.sizeOf22 rfl (r1_1.keep e2) (by omega)
        refine D.take (i := 6) rfl rfl rfl rfl (by kernel_rfl) (Le.refl _) ⟨_, rfl⟩ (fun w_ hw_ N_ hN => (O.idxR s1_1 s5_1 hr23 (O.nil hN))) ?_
        refine D.take (i := 7) rfl rfl rfl rfl (by kernel_rfl) (Le.refl _) ⟨_, rfl⟩ (fun w_ hw_ N_ hN => (O.loadU64 Tryd.isAgg22 rfl (h23.keep hw_) (O.nil hN))) ?_
        refine D.take (i := 8) rfl rfl rfl rfl (by kernel_rfl) (Le.refl _) ⟨_, rfl⟩ (fun w_ hw_ N_ hN => (O.neqU (m := 64) rfl rfl (O.nil hN))) ?_
        refine D.done (by kernel_rfl) ?_
        refine hK12 _ _ ?_
        refine C.condD rfl (fun c25 => ?_) (fun c25 => ?_)
        ·
          refine C.seqK fun K13 hK13 => ?_
          refine C.region ?_
          refine O.asg ?_
          refine O.nil ?_
          refine hK13 _ _ ?_
          refine C.ret ?_
          refine Outs.one rfl rfl ?_
          first
          | exact ⟨congrArg Value.bool (decide_eq_false (fun h => c10 (congrArg (fun l : List (BitVec 64) => (l.length : Int)) h))).symm, (Ext.trans e_1 e2)⟩
          | exact ⟨congrArg Value.bool (decide_eq_false (fun h => c25 (by simp only [h]))).symm, (Ext.trans e_1 e2)⟩
          | (have hk2 : k = a.length := by omega
             subst hk2
             rw [List.take_length, List.take_of_length_le (by omega)] at hI
             exact ⟨congrArg Value.bool (decide_eq_true hI).symm, (Ext.trans e_1 e2)⟩)
        ·
          refine C.skip ?_
          refine hK11 _ _ ?_
          refine hK10 _ _ ?_
          refine C.region ?_
          refine O.mv ?_
          refine O.addI s5_1 rfl (by unfold InI; omega) ?_
          refine O.asg ?_
          refine O.nil ?_
          refine ⟨k + 1, ⟨rfl, s0_1, s1_1, (Ext.trans e_1 e2), (r0_1.keep e2), (r1_1.keep e2), ?_⟩, by first | omega | (simp only []; omega)⟩
          have hka : k < a.length := by omega
          have hkb : k < b.length := by omega
          have hq : a[k] = b[k] := Decidable.of_not_not c25
          refine ⟨by omega, ?_⟩
          rw [List.take_succ_eq_append_getElem hka, List.take_succ_eq_append_getElem hkb, hI, hq]
      ·
        refine C.exit ?_
        refine hK7 _ _ ?_
        refine hK5 _ _ ?_
        refine C.seqK fun K14 hK14 => ?_
        refine C.region ?_
        refine O.asg ?_
        refine O.nil ?_
        refine hK14 _ _ ?_
        refine C.ret ?_
        refine Outs.one rfl rfl ?_
        first
        | exact ⟨congrArg Value.bool (decide_eq_false (fun h => c10 (congrArg (fun l : List (BitVec 64) => (l.length : Int)) h))).symm, e_1⟩
        | exact ⟨congrArg Value.bool (decide_eq_false (fun h => c25 (by simp only [h]))).symm, e_1⟩
        | (have hk2 : k = a.length := by omega
           subst hk2
           rw [List.take_length, List.take_of_length_le (by omega)] at hI
           exact ⟨congrArg Value.bool (decide_eq_true hI).symm, e_1⟩)

end Go.Proofs.YtbadfphdniliaaaDoor
