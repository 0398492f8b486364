/-
  The walks of the reference that reads. Conditions: slices as they lie in memory.
-/
import Derived.Test.YtnkcmaoaagnopaaGreatDoorDecodeGreatsM4
import Derived.Test.YtnkcmaoaagnopaaGreatDoorDecodeGreatsM2
import Derived.Test.YtnkcmaoaagnopaaGreatDoorDecodeGreatsM1
section
namespace Go.Proofs.YtnkcmaoaagnopaaGreatDoor
open Go.Pn Go.RowKit Go.Proofs
attribute [local irreducible] O C D

set_option maxHeartbeats 4000000 in
theorem xnum_spec (b : Nat) (vl : Value) (l : List UInt8) (k : Nat) (bad : Bool) (F : Nat → Prop) (w : World) (ho : Own w b 122 [vl, .int .i64 ((k : Int)), .bool bad]) (hl : Sl byteE w F vl l) (hk : k ≤ l.length) (hF : ∀ j, F j → j ≠ b ∧ j < w.heap.size) (hL : l.length ≤ 1000000) :
    Ret Tryz.prog 79 #[.pointer (some ⟨b, 0, none⟩)] w (fun v w' => ∃ (n : BitVec 64) (k' : Nat) (bad' : Bool), v = .int .u64 (n.toNat : Int) ∧ Own w' b 122 [vl, .int .i64 ((k' : Int)), .bool bad'] ∧ Cn.RdN l k bad n k' bad' ∧ (bad' = true → n = 0#64) ∧ Ext (fun j => j = b) w w') := by
  have _hF9 := hF
  have _hk9 := hk
  have hbl := ho.lt
  have hll := hl.le
  refine enter (args := [.pointer (some ⟨b, 0, none⟩)]) (n := 87) Tryz.func79 rfl rfl (Nat.le_of_ble_eq_true rfl) ?_
  refine C.seqK fun K1 hK1 => ?_
  refine C.region ?_
  refine O.asg ?_
  refine O.nil ?_
  refine hK1 _ _ ?_
  refine C.seqK fun K2 hK2 => ?_
  refine C.seqK fun K3 hK3 => ?_
  refine C.region ?_
  refine O.mv ?_
  refine O.nilChk rfl ?_
  refine O.fieldAd Tryz.underlying122 rfl Tryz.sizeOf4 (by decide) rfl ?_
  refine O.loadO Tryz.isAgg4 rfl ho rfl ?_
  refine O.nil ?_
  refine hK3 _ _ ?_
  refine C.cond rfl (fun c10 => ?_) (fun c10 => ?_)
  ·
    subst c10
    refine C.seqK fun K4 hK4 => ?_
    refine C.region ?_
    refine O.asg ?_
    refine O.nil ?_
    refine hK4 _ _ ?_
    refine C.ret ?_
    refine Outs.one rfl rfl ?_
    first
    | exact ⟨0#64, k, true, rfl, ho, Cn.RdN.of_bad hk rfl, fun _ => rfl, (Ext.refl _ _)⟩
    | exact ⟨0#64, k, true, rfl, ho, ⟨hk, .inr ⟨rfl, fun _ => Cn.num_no2 hall hy2 hy4 hq8⟩⟩, fun _ => rfl, (Ext.refl _ _)⟩
    | exact ⟨0#64, k, true, rfl, ho, ⟨hk, .inr ⟨rfl, fun _ => Cn.num_no1 hall (by first | (left; omega) | (right; rw [List.length_drop]; omega))⟩⟩, fun _ => rfl, (Ext.refl _ _)⟩
    | exact ⟨BitVec.ofNat 64 (Cn.valN ((l.drop k).take (i + 1))), k + (i + 1), false, rfl, ho, ⟨by omega, .inl ⟨rfl, rfl, Cn.num_yes (by omega) hq9⟩⟩, (fun h => by cases h), (Ext.refl _ _)⟩
  ·
    subst c10
    refine C.skip ?_
    refine hK2 _ _ ?_
    refine C.seqK fun K5 hK5 => ?_
    refine C.region ?_
    refine O.asg ?_
    refine O.nil ?_
    refine hK5 _ _ ?_
    refine C.seqK fun K6 hK6 => ?_
    refine C.seqK fun K7 hK7 => ?_
    refine C.region ?_
    refine O.asg ?_
    refine O.nil ?_
    refine hK7 _ _ ?_
    refine C.block fun K8 hK8 => ?_
    refine C.loop0 (σ := Nat) (fun f0 w0 i f w => f 3 = .int .u64 ((BitVec.ofNat 64 (Cn.valN ((l.drop k).take i))).toNat : Int) ∧ f 4 = .int .i64 ((i : Int)) ∧ f 0 = f0 0 ∧ Le w0 w ∧ i ≤ 10 ∧ k + i ≤ l.length ∧ ∀ j, ∀ h : j < (l.drop k).length, j < i → ¬ (l.drop k)[j].toNat < 128) (fun i => 10 - i) 0 ?_ ?_
    ·
      refine ⟨(Eq.trans rfl (by rw [List.take_zero]; rfl)), rfl, rfl, Le.refl _, ?_⟩
      exact ⟨Nat.zero_le _, by omega, fun j h h2 => absurd h2 (Nat.not_lt_zero _)⟩
    ·
      rintro i f_1 w1 ⟨s3_1, s4_1, s0_1, e_1, ⟨hi, hki, hall⟩⟩
      have z_1 := e_1.size
      refine C.seqK fun K9 hK9 => ?_
      refine C.seqK fun K10 hK10 => ?_
      refine C.draw (by kernel_rfl) fun w2 e2 => ?_
      have z2 := e2.size
      refine D.take (i := 0) rfl rfl rfl rfl (by kernel_rfl) (Le.refl _) ⟨pure _, rfl⟩ (fun w_ hw_ N_ hN => (O.mv (O.nil hN))) ?_
      refine D.take (i := 1) rfl rfl rfl rfl (by kernel_rfl) (Le.refl _) ⟨_, rfl⟩ (fun w_ hw_ N_ hN => (O.lssI s4_1 rfl (O.nil hN))) ?_
      refine D.take (i := 2) rfl rfl rfl rfl (by kernel_rfl) (Le.refl _) ⟨pure _, rfl⟩ (fun w_ hw_ N_ hN => (O.mv (O.nil hN))) ?_
      refine D.splitD (x := .tmp 13) rfl (fun c13 => ?_) (fun c13 => ?_)
      ·
        refine D.takeYes (i := 3) rfl rfl rfl (by kernel_rfl) rfl (isT rfl c13) (Le.refl _) ⟨pure _, rfl⟩ (fun w_ hw_ N_ hN => (O.mv (O.nil hN))) ?_
        refine D.takeYes (i := 4) rfl rfl rfl (by kernel_rfl) rfl (isT rfl c13) (Le.refl _) (nil_form s0_1) (fun w_ hw_ N_ hN => (O.nilChk s0_1 (O.nil hN))) ?_
        refine D.takeYes (i := 5) rfl rfl rfl (by kernel_rfl) rfl (isT rfl c13) (Le.refl _) ⟨_, rfl⟩ (fun w_ hw_ N_ hN => (O.fieldAd Tryz.underlying122 rfl Tryz.sizeOf3 (by decide) rfl (O.nil hN))) ?_
        refine D.takeYes (i := 6) rfl rfl rfl (by kernel_rfl) rfl (isT rfl c13) (Le.refl _) ⟨_, rfl⟩ (fun w_ hw_ N_ hN => (O.loadO Tryz.isAgg3 rfl (((ho.keep e_1).keep e2).keep hw_) rfl (O.nil hN))) ?_
        refine D.takeYes (i := 7) rfl rfl rfl (by kernel_rfl) rfl (isT rfl c13) (Le.refl _) ⟨pure _, rfl⟩ (fun w_ hw_ N_ hN => (O.mv (O.nil hN))) ?_
        refine D.takeYes (i := 8) rfl rfl rfl (by kernel_rfl) rfl (isT rfl c13) (Le.refl _) ⟨_, rfl⟩ (fun w_ hw_ N_ hN => (O.addI rfl s4_1 (by unfold InI; omega) (O.nil hN))) ?_
        refine D.takeYes (i := 9) rfl rfl rfl (by kernel_rfl) rfl (isT rfl c13) (Le.refl _) ⟨pure _, rfl⟩ (fun w_ hw_ N_ hN => (O.mv (O.nil hN))) ?_
        refine D.takeYes (i := 10) rfl rfl rfl (by kernel_rfl) rfl (isT rfl c13) (Le.refl _) (nil_form s0_1) (fun w_ hw_ N_ hN => (O.nilChk s0_1 (O.nil hN))) ?_
        refine D.takeYes (i := 11) rfl rfl rfl (by kernel_rfl) rfl (isT rfl c13) (Le.refl _) ⟨_, rfl⟩ (fun w_ hw_ N_ hN => (O.fieldAd Tryz.underlying122 rfl Tryz.sizeOf32 (by decide) rfl (O.nil hN))) ?_
        refine D.takeYes (i := 12) rfl rfl rfl (by kernel_rfl) rfl (isT rfl c13) (Le.refl _) ⟨_, rfl⟩ (fun w_ hw_ N_ hN => (O.loadO Tryz.isAgg32 rfl (((ho.keep e_1).keep e2).keep hw_) rfl (O.nil hN))) ?_
        refine D.takeYes (i := 13) rfl rfl rfl (by kernel_rfl) rfl (isT rfl c13) (Le.refl _) len_form (fun w_ hw_ N_ hN => (O.len Tryz.underlying32 rfl (((hl.keep e_1).keep e2).keep hw_) (O.nil hN))) ?_
        refine D.takeYes (i := 14) rfl rfl rfl (by kernel_rfl) rfl (isT rfl c13) (Le.refl _) ⟨_, rfl⟩ (fun w_ hw_ N_ hN => (O.lssI rfl rfl (O.nil hN))) ?_
        refine D.take (i := 15) rfl rfl rfl rfl (by kernel_rfl) (Le.refl _) pick_form (fun w_ hw_ N_ hN => (O.pickT (isT rfl c13) (O.nil hN))) ?_
        refine D.done (by kernel_rfl) ?_
        refine hK10 _ _ ?_
        refine C.condD rfl (fun c26 => ?_) (fun c26 => ?_)
        ·
          have hy2 : i < (l.drop k).length := by rw [List.length_drop]; omega
          obtain ⟨y, hy⟩ : ∃ y, y = (l.drop k)[i] := ⟨_, rfl⟩
          refine C.skip ?_
          refine hK9 _ _ ?_
          refine C.seqK fun K11 hK11 => ?_
          refine C.block fun K12 hK12 => ?_
          refine C.seqK fun K13 hK13 => ?_
          refine C.draw (by kernel_rfl) fun w3 e3 => ?_
          have z3 := e3.size
          refine D.take (i := 0) rfl rfl rfl rfl (by kernel_rfl) (Le.refl _) ⟨pure _, rfl⟩ (fun w_ hw_ N_ hN => (O.mv (O.nil hN))) ?_
          refine D.take (i := 1) rfl rfl rfl rfl (by kernel_rfl) (Le.refl _) (nil_form s0_1) (fun w_ hw_ N_ hN => (O.nilChk s0_1 (O.nil hN))) ?_
          refine D.take (i := 2) rfl rfl rfl rfl (by kernel_rfl) (Le.refl _) ⟨_, rfl⟩ (fun w_ hw_ N_ hN => (O.fieldAd Tryz.underlying122 rfl Tryz.sizeOf32 (by decide) rfl (O.nil hN))) ?_
          refine D.take (i := 3) rfl rfl rfl rfl (by kernel_rfl) (Le.refl _) ⟨_, rfl⟩ (fun w_ hw_ N_ hN => (O.loadO Tryz.isAgg32 rfl ((((ho.keep e_1).keep e2).keep e3).keep hw_) rfl (O.nil hN))) ?_
          refine D.take (i := 4) rfl rfl rfl rfl (by kernel_rfl) (Le.refl _) ⟨pure _, rfl⟩ (fun w_ hw_ N_ hN => (O.mv (O.nil hN))) ?_
          refine D.take (i := 5) rfl rfl rfl rfl (by kernel_rfl) (Le.refl _) (nil_form s0_1) (fun w_ hw_ N_ hN => (O.nilChk s0_1 (O.nil hN))) ?_
          refine D.take (i := 6) rfl rfl rfl rfl (by kernel_rfl) (Le.refl _) ⟨_, rfl⟩ (fun w_ hw_ N_ hN => (O.fieldAd Tryz.underlying122 rfl Tryz.sizeOf3 (by decide) rfl (O.nil hN))) ?_
          refine D.take (i := 7) rfl rfl rfl rfl (by kernel_rfl) (Le.refl _) ⟨_, rfl⟩ (fun w_ hw_ N_ hN => (O.loadO Tryz.isAgg3 rfl ((((ho.keep e_1).keep e2).keep e3).keep hw_) rfl (O.nil hN))) ?_
          refine D.take (i := 8) rfl rfl rfl rfl (by kernel_rfl) (Le.refl _) ⟨pure _, rfl⟩ (fun w_ hw_ N_ hN => (O.mv (O.nil hN))) ?_
          refine D.take (i := 9) rfl rfl rfl rfl (by kernel_rfl) (Le.refl _) ⟨_, rfl⟩ (fun w_ hw_ N_ hN => (O.addI rfl s4_1 (by unfold InI; omega) (O.nil hN))) ?_
          obtain ⟨a39, h39, hr39⟩ := Sl.at (i := ((k : Int) + (i : Int))) (P := Tryz.prog) Tryz.underlying32 Tryz.sizeOf5 rfl (((hl.keep e_1).keep e2).keep e3) (by omega)
          refine D.take (i := 10) rfl rfl rfl rfl (by kernel_rfl) (Le.refl _) ⟨_, rfl⟩ (fun w_ hw_ N_ hN => (O.idxR rfl rfl hr39 (O.nil hN))) ?_
          refine D.take (i := 11) rfl rfl rfl rfl (by kernel_rfl) (Le.refl _) ⟨_, rfl⟩ (fun w_ hw_ N_ hN => (O.loadB Tryz.isAgg5 rfl (h39.keep hw_) (O.nil hN))) ?_
          refine D.take (i := 12) rfl rfl rfl rfl (by kernel_rfl) (Le.refl _) ⟨pure _, rfl⟩ (fun w_ hw_ N_ hN => (O.asg (O.nil hN))) ?_
          refine D.cast (v' := .int .u8 (y.toBitVec.toNat : Int)) (by show Value.int .u8 ((l[((k : Int) + (i : Int)).toNat]'(by omega)).toBitVec.toNat : Int) = _; rw [hy, Cn.drop_get (by omega) hy2]; simp only [show ((k : Int) + (i : Int)).toNat = k + i by omega]) ?_
          refine D.done (by kernel_rfl) ?_
          refine hK13 _ _ ?_
          refine C.seqK fun K14 hK14 => ?_
          refine C.region ?_
          refine O.mv ?_
          refine O.mv ?_
          refine O.remU (m := 8) (b := 128#8) rfl rfl rfl rfl (by decide) ?_
          refine O.convUU (m := 8) (m' := 64) Tryz.underlying5 Tryz.underlying49 rfl rfl rfl ?_
          refine O.mv ?_
          refine O.mulI rfl s4_1 (by unfold InI; omega) ?_
          refine O.cast (v' := .int .i64 ((7 * i : Nat) : Int)) (congrArg (Value.int .i64) (by omega)) ?_
          refine O.shlU (m := 64) rfl rfl rfl rfl ?_
          refine O.addU (m := 64) rfl rfl s3_1 rfl ?_
          refine O.cast (v' := .int .u64 ((BitVec.ofNat 64 (Cn.valN ((l.drop k).take (i + 1)))).toNat : Int)) (congrArg (fun q : BitVec 64 => Value.int .u64 (q.toNat : Int)) (by rw [Cn.valN_front hy2, ← hy]; exact Cn.group2 _ _ _)) ?_
          refine O.asg ?_
          refine O.nil ?_
          refine hK14 _ _ ?_
          refine C.seqK fun K15 hK15 => ?_
          refine C.seqK fun K16 hK16 => ?_
          refine C.region ?_
          refine O.mv ?_
          refine O.geqU (m := 8) (b := 128#8) rfl rfl ?_
          refine O.nil ?_
          refine hK16 _ _ ?_
          refine C.condD rfl (fun c50 => ?_) (fun c50 => ?_)
          ·
            have hy3 : ¬ (l.drop k)[i].toNat < 128 := by
              rw [← hy]
              have q := BitVec.le_def.1 c50
              exact Nat.not_lt.2 q
            refine C.exit ?_
            refine hK12 _ _ ?_
            refine hK11 _ _ ?_
            refine C.region ?_
            refine O.mv ?_
            refine O.addI s4_1 rfl (by unfold InI; omega) ?_
            refine O.asg ?_
            refine O.nil ?_
            refine ⟨(i + 1), ⟨rfl, rfl, s0_1, (Ext.trans (Ext.trans e_1 e2) e3), ?_⟩, by first | omega | (simp only []; omega)⟩
            refine ⟨by omega, by omega, fun j h h2 => ?_⟩
            rcases Nat.lt_or_eq_of_le (Nat.le_of_lt_succ h2) with h3 | h3
            · exact hall j h h3
            · subst h3; exact hy3
          ·
            have hy4 : (l.drop k)[i].toNat < 128 := by
              rw [← hy]
              have q := mt BitVec.le_def.2 c50
              exact Nat.lt_of_not_le q
            refine C.skip ?_
            refine hK15 _ _ ?_
            refine C.seqK fun K17 hK17 => ?_
            refine C.seqK fun K18 hK18 => ?_
            refine C.region ?_
            refine O.mv ?_
            refine O.call Tryz.call33 (args1 rfl) (rnum_spec (BitVec.ofNat 64 (Cn.valN ((l.drop k).take (i + 1)))) _) ?_
            rintro v_52 w4 ⟨e4, h52⟩
            have z4 := e4.size
            have h52s := h52.sl
            refine O.asg ?_
            refine O.nil ?_
            refine hK18 _ _ ?_
            refine C.seqK fun K19 hK19 => ?_
            refine C.draw (by kernel_rfl) fun w5 e5 => ?_
            have z5 := e5.size
            refine D.take (i := 0) rfl rfl rfl rfl (by kernel_rfl) (Le.refl _) ⟨pure _, rfl⟩ (fun w_ hw_ N_ hN => (O.mv (O.nil hN))) ?_
            refine D.take (i := 1) rfl rfl rfl rfl (by kernel_rfl) (Le.refl _) ⟨_, rfl⟩ (fun w_ hw_ N_ hN => (O.bytesS Tryz.underlying32 Tryz.underlying5 Tryz.underlying9 rfl ((h52s.keep e5).keep hw_) (O.nil hN))) ?_
            refine D.take (i := 2) rfl rfl rfl rfl (by kernel_rfl) (Le.refl _) ⟨pure _, rfl⟩ (fun w_ hw_ N_ hN => (O.mv (O.nil hN))) ?_
            refine D.take (i := 3) rfl rfl rfl rfl (by kernel_rfl) (Le.refl _) (nil_form s0_1) (fun w_ hw_ N_ hN => (O.nilChk s0_1 (O.nil hN))) ?_
            refine D.take (i := 4) rfl rfl rfl rfl (by kernel_rfl) (Le.refl _) ⟨_, rfl⟩ (fun w_ hw_ N_ hN => (O.fieldAd Tryz.underlying122 rfl Tryz.sizeOf32 (by decide) rfl (O.nil hN))) ?_
            refine D.take (i := 5) rfl rfl rfl rfl (by kernel_rfl) (Le.refl _) ⟨_, rfl⟩ (fun w_ hw_ N_ hN => (O.loadO Tryz.isAgg32 rfl ((((((ho.keep e_1).keep e2).keep e3).keep e4).keep e5).keep hw_) rfl (O.nil hN))) ?_
            refine D.take (i := 6) rfl rfl rfl rfl (by kernel_rfl) (Le.refl _) ⟨pure _, rfl⟩ (fun w_ hw_ N_ hN => (O.mv (O.nil hN))) ?_
            refine D.take (i := 7) rfl rfl rfl rfl (by kernel_rfl) (Le.refl _) (nil_form s0_1) (fun w_ hw_ N_ hN => (O.nilChk s0_1 (O.nil hN))) ?_
            refine D.take (i := 8) rfl rfl rfl rfl (by kernel_rfl) (Le.refl _) ⟨_, rfl⟩ (fun w_ hw_ N_ hN => (O.fieldAd Tryz.underlying122 rfl Tryz.sizeOf3 (by decide) rfl (O.nil hN))) ?_
            refine D.take (i := 9) rfl rfl rfl rfl (by kernel_rfl) (Le.refl _) ⟨_, rfl⟩ (fun w_ hw_ N_ hN => (O.loadO Tryz.isAgg3 rfl ((((((ho.keep e_1).keep e2).keep e3).keep e4).keep e5).keep hw_) rfl (O.nil hN))) ?_
            refine D.take (i := 10) rfl rfl rfl rfl (by kernel_rfl) (Le.refl _) ⟨pure _, rfl⟩ (fun w_ hw_ N_ hN => (O.mv (O.nil hN))) ?_
            refine D.take (i := 11) rfl rfl rfl rfl (by kernel_rfl) (Le.refl _) (nil_form s0_1) (fun w_ hw_ N_ hN => (O.nilChk s0_1 (O.nil hN))) ?_
            refine D.take (i := 12) rfl rfl rfl rfl (by kernel_rfl) (Le.refl _) ⟨_, rfl⟩ (fun w_ hw_ N_ hN => (O.fieldAd Tryz.underlying122 rfl Tryz.sizeOf3 (by decide) rfl (O.nil hN))) ?_
            refine D.take (i := 13) rfl rfl rfl rfl (by kernel_rfl) (Le.refl _) ⟨_, rfl⟩ (fun w_ hw_ N_ hN => (O.loadO Tryz.isAgg3 rfl ((((((ho.keep e_1).keep e2).keep e3).keep e4).keep e5).keep hw_) rfl (O.nil hN))) ?_
            refine D.take (i := 14) rfl rfl rfl rfl (by kernel_rfl) (Le.refl _) ⟨pure _, rfl⟩ (fun w_ hw_ N_ hN => (O.mv (O.nil hN))) ?_
            refine D.take (i := 15) rfl rfl rfl rfl (by kernel_rfl) (Le.refl _) ⟨_, rfl⟩ (fun w_ hw_ N_ hN => (O.addI rfl s4_1 (by unfold InI; omega) (O.nil hN))) ?_
            refine D.take (i := 16) rfl rfl rfl rfl (by kernel_rfl) (Le.refl _) ⟨_, rfl⟩ (fun w_ hw_ N_ hN => (O.addI rfl rfl (by unfold InI; omega) (O.nil hN))) ?_
            refine D.cast (v' := .int .i64 ((k + (i + 1) : Nat) : Int)) (congrArg (Value.int .i64) (by omega)) ?_
            have hb70 := Sl.sub (P := Tryz.prog) (k) (k + (i + 1)) Tryz.underlying32 Tryz.sizeOf5 (by rfl) (((((hl.keep e_1).keep e2).keep e3).keep e4).keep e5) (by omega) (by omega)
            obtain ⟨v70, hs70, hr70⟩ := hb70
            refine D.take (i := 17) rfl rfl rfl rfl (by kernel_rfl) (Le.refl _) ⟨_, rfl⟩ (fun w_ hw_ N_ hN => (O.subR rfl hr70 (.inr ⟨_, _, rfl, rfl⟩) (.inr ⟨_, _, rfl, rfl⟩) (O.nil hN))) ?_
            refine D.take (i := 18) rfl rfl rfl rfl (by kernel_rfl) (Le.refl _) ⟨_, rfl⟩ (fun w_ hw_ N_ hN => (O.bytesS Tryz.underlying32 Tryz.underlying5 Tryz.underlying9 rfl (hs70.keep hw_) (O.nil hN))) ?_
            refine D.take (i := 19) rfl rfl rfl rfl (by kernel_rfl) (Le.refl _) ⟨_, rfl⟩ (fun w_ hw_ N_ hN => (O.eqlS rfl rfl (O.nil hN))) ?_
            refine D.done (by kernel_rfl) ?_
            refine hK19 _ _ ?_
            refine C.condD rfl (fun c72 => ?_) (fun c72 => ?_)
            ·
              have hq9 : Cn.num (BitVec.ofNat 64 (Cn.valN ((l.drop k).take (i + 1)))).toNat = (l.drop k).take (i + 1) := by
                rw [c72, List.drop_take, show k + (i + 1) - k = i + 1 by omega]
              refine C.seqK fun K20 hK20 => ?_
              refine C.region ?_
              refine O.mv ?_
              refine O.mv ?_
              refine O.nilChk s0_1 ?_
              refine O.fieldAd Tryz.underlying122 rfl Tryz.sizeOf3 (by decide) rfl ?_
              refine O.loadO Tryz.isAgg3 rfl (((((ho.keep e_1).keep e2).keep e3).keep e4).keep e5) rfl ?_
              refine O.mv ?_
              refine O.addI rfl s4_1 (by unfold InI; omega) ?_
              refine O.addI rfl rfl (by unfold InI; omega) ?_
              refine O.cast (v' := .int .i64 ((k + (i + 1) : Nat) : Int)) (congrArg (Value.int .i64) (by omega)) ?_
              refine O.nilChk s0_1 ?_
              refine O.fieldAd Tryz.underlying122 rfl Tryz.sizeOf3 (by decide) rfl ?_
              refine O.store Tryz.sizeOf3 rfl rfl rfl (((((ho.keep e_1).keep e2).keep e3).keep e4).keep e5) (by simp) (fun w6 hs6 e6 z6 => ?_)
              try simp only [Nat.zero_add] at hs6
              refine O.nil ?_
              refine hK20 _ _ ?_
              refine C.seqK fun K21 hK21 => ?_
              refine C.region ?_
              refine O.mv ?_
              refine O.asg ?_
              refine O.nil ?_
              refine hK21 _ _ ?_
              refine C.ret ?_
              refine Outs.one rfl rfl ?_
              first
              | exact ⟨0#64, k, true, rfl, hs6, Cn.RdN.of_bad hk rfl, fun _ => rfl, (Ext.new (Ext.new (Ext.new (Ext.new (Ext.new (Ext.new (Ext.refl _ _) e_1 (by intro i hi hk; first | exact hk.elim | ((try dsimp only at hk); (try dsimp only); omega))) e2 (by intro i hi hk; first | exact hk.elim | ((try dsimp only at hk); (try dsimp only); omega))) e3 (by intro i hi hk; first | exact hk.elim | ((try dsimp only at hk); (try dsimp only); omega))) e4 (by intro i hi hk; first | exact hk.elim | ((try dsimp only at hk); (try dsimp only); omega))) e5 (by intro i hi hk; first | exact hk.elim | ((try dsimp only at hk); (try dsimp only); omega))) e6 (by intro i hi hk; first | exact hk.elim | ((try dsimp only at hk); (try dsimp only); omega)))⟩
              | exact ⟨0#64, k, true, rfl, hs6, ⟨hk, .inr ⟨rfl, fun _ => Cn.num_no2 hall hy2 hy4 hq8⟩⟩, fun _ => rfl, (Ext.new (Ext.new (Ext.new (Ext.new (Ext.new (Ext.new (Ext.refl _ _) e_1 (by intro i hi hk; first | exact hk.elim | ((try dsimp only at hk); (try dsimp only); omega))) e2 (by intro i hi hk; first | exact hk.elim | ((try dsimp only at hk); (try dsimp only); omega))) e3 (by intro i hi hk; first | exact hk.elim | ((try dsimp only at hk); (try dsimp only); omega))) e4 (by intro i hi hk; first | exact hk.elim | ((try dsimp only at hk); (try dsimp only); omega))) e5 (by intro i hi hk; first | exact hk.elim | ((try dsimp only at hk); (try dsimp only); omega))) e6 (by intro i hi hk; first | exact hk.elim | ((try dsimp only at hk); (try dsimp only); omega)))⟩
              | exact ⟨0#64, k, true, rfl, hs6, ⟨hk, .inr ⟨rfl, fun _ => Cn.num_no1 hall (by first | (left; omega) | (right; rw [List.length_drop]; omega))⟩⟩, fun _ => rfl, (Ext.new (Ext.new (Ext.new (Ext.new (Ext.new (Ext.new (Ext.refl _ _) e_1 (by intro i hi hk; first | exact hk.elim | ((try dsimp only at hk); (try dsimp only); omega))) e2 (by intro i hi hk; first | exact hk.elim | ((try dsimp only at hk); (try dsimp only); omega))) e3 (by intro i hi hk; first | exact hk.elim | ((try dsimp only at hk); (try dsimp only); omega))) e4 (by intro i hi hk; first | exact hk.elim | ((try dsimp only at hk); (try dsimp only); omega))) e5 (by intro i hi hk; first | exact hk.elim | ((try dsimp only at hk); (try dsimp only); omega))) e6 (by intro i hi hk; first | exact hk.elim | ((try dsimp only at hk); (try dsimp only); omega)))⟩
              | exact ⟨BitVec.ofNat 64 (Cn.valN ((l.drop k).take (i + 1))), k + (i + 1), false, rfl, hs6, ⟨by omega, .inl ⟨rfl, rfl, Cn.num_yes (by omega) hq9⟩⟩, (fun h => by cases h), (Ext.new (Ext.new (Ext.new (Ext.new (Ext.new (Ext.new (Ext.refl _ _) e_1 (by intro i hi hk; first | exact hk.elim | ((try dsimp only at hk); (try dsimp only); omega))) e2 (by intro i hi hk; first | exact hk.elim | ((try dsimp only at hk); (try dsimp only); omega))) e3 (by intro i hi hk; first | exact hk.elim | ((try dsimp only at hk); (try dsimp only); omega))) e4 (by intro i hi hk; first | exact hk.elim | ((try dsimp only at hk); (try dsimp only); omega))) e5 (by intro i hi hk; first | exact hk.elim | ((try dsimp only at hk); (try dsimp only); omega))) e6 (by intro i hi hk; first | exact hk.elim | ((try dsimp only at hk); (try dsimp only); omega)))⟩
            ·
              have hq8 : Cn.num (BitVec.ofNat 64 (Cn.valN ((l.drop k).take (i + 1)))).toNat ≠ (l.drop k).take (i + 1) := by
                intro q
                apply c72
                rw [q, List.drop_take, show k + (i + 1) - k = i + 1 by omega]
              refine C.skip ?_
              refine hK17 _ _ ?_
              refine C.exit ?_
              refine hK8 _ _ ?_
              refine hK6 _ _ ?_
              refine C.seqK fun K22 hK22 => ?_
              refine C.region ?_
              refine O.mv ?_
              refine O.nilChk s0_1 ?_
              refine O.fieldAd Tryz.underlying122 rfl Tryz.sizeOf4 (by decide) rfl ?_
              refine O.store Tryz.sizeOf4 rfl rfl rfl (((((ho.keep e_1).keep e2).keep e3).keep e4).keep e5) (by simp) (fun w7 hs7 e7 z7 => ?_)
              try simp only [Nat.zero_add] at hs7
              refine O.nil ?_
              refine hK22 _ _ ?_
              refine C.seqK fun K23 hK23 => ?_
              refine C.region ?_
              refine O.asg ?_
              refine O.nil ?_
              refine hK23 _ _ ?_
              refine C.ret ?_
              refine Outs.one rfl rfl ?_
              first
              | exact ⟨0#64, k, true, rfl, hs7, Cn.RdN.of_bad hk rfl, fun _ => rfl, (Ext.new (Ext.new (Ext.new (Ext.new (Ext.new (Ext.new (Ext.refl _ _) e_1 (by intro i hi hk; first | exact hk.elim | ((try dsimp only at hk); (try dsimp only); omega))) e2 (by intro i hi hk; first | exact hk.elim | ((try dsimp only at hk); (try dsimp only); omega))) e3 (by intro i hi hk; first | exact hk.elim | ((try dsimp only at hk); (try dsimp only); omega))) e4 (by intro i hi hk; first | exact hk.elim | ((try dsimp only at hk); (try dsimp only); omega))) e5 (by intro i hi hk; first | exact hk.elim | ((try dsimp only at hk); (try dsimp only); omega))) e7 (by intro i hi hk; first | exact hk.elim | ((try dsimp only at hk); (try dsimp only); omega)))⟩
              | exact ⟨0#64, k, true, rfl, hs7, ⟨hk, .inr ⟨rfl, fun _ => Cn.num_no2 hall hy2 hy4 hq8⟩⟩, fun _ => rfl, (Ext.new (Ext.new (Ext.new (Ext.new (Ext.new (Ext.new (Ext.refl _ _) e_1 (by intro i hi hk; first | exact hk.elim | ((try dsimp only at hk); (try dsimp only); omega))) e2 (by intro i hi hk; first | exact hk.elim | ((try dsimp only at hk); (try dsimp only); omega))) e3 (by intro i hi hk; first | exact hk.elim | ((try dsimp only at hk); (try dsimp only); omega))) e4 (by intro i hi hk; first | exact hk.elim | ((try dsimp only at hk); (try dsimp only); omega))) e5 (by intro i hi hk; first | exact hk.elim | ((try dsimp only at hk); (try dsimp only); omega))) e7 (by intro i hi hk; first | exact hk.elim | ((try dsimp only at hk); (try dsimp only); omega)))⟩
              | exact ⟨0#64, k, true, rfl, hs7, ⟨hk, .inr ⟨rfl, fun _ => Cn.num_no1 hall (by first | (left; omega) | (right; rw [List.length_drop]; omega))⟩⟩, fun _ => rfl, (Ext.new (Ext.new (Ext.new (Ext.new (Ext.new (Ext.new (Ext.refl _ _) e_1 (by intro i hi hk; first | exact hk.elim | ((try dsimp only at hk); (try dsimp only); omega))) e2 (by intro i hi hk; first | exact hk.elim | ((try dsimp only at hk); (try dsimp only); omega))) e3 (by intro i hi hk; first | exact hk.elim | ((try dsimp only at hk); (try dsimp only); omega))) e4 (by intro i hi hk; first | exact hk.elim | ((try dsimp only at hk); (try dsimp only); omega))) e5 (by intro i hi hk; first | exact hk.elim | ((try dsimp only at hk); (try dsimp only); omega))) e7 (by intro i hi hk; first | exact hk.elim | ((try dsimp only at hk); (try dsimp only); omega)))⟩
              | exact ⟨BitVec.ofNat 64 (Cn.valN ((l.drop k).take (i + 1))), k + (i + 1), false, rfl, hs7, ⟨by omega, .inl ⟨rfl, rfl, Cn.num_yes (by omega) hq9⟩⟩, (fun h => by cases h), (Ext.new (Ext.new (Ext.new (Ext.new (Ext.new (Ext.new (Ext.refl _ _) e_1 (by intro i hi hk; first | exact hk.elim | ((try dsimp only at hk); (try dsimp only); omega))) e2 (by intro i hi hk; first | exact hk.elim | ((try dsimp only at hk); (try dsimp only); omega))) e3 (by intro i hi hk; first | exact hk.elim | ((try dsimp only at hk); (try dsimp only); omega))) e4 (by intro i hi hk; first | exact hk.elim | ((try dsimp only at hk); (try dsimp only); omega))) e5 (by intro i hi hk; first | exact hk.elim | ((try dsimp only at hk); (try dsimp only); omega))) e7 (by intro i hi hk; first | exact hk.elim | ((try dsimp only at hk); (try dsimp only); omega)))⟩
        ·
          refine C.exit ?_
          refine hK8 _ _ ?_
          refine hK6 _ _ ?_
          refine C.seqK fun K24 hK24 => ?_
          refine C.region ?_
          refine O.mv ?_
          refine O.nilChk s0_1 ?_
          refine O.fieldAd Tryz.underlying122 rfl Tryz.sizeOf4 (by decide) rfl ?_
          refine O.store Tryz.sizeOf4 rfl rfl rfl ((ho.keep e_1).keep e2) (by simp) (fun w8 hs8 e8 z8 => ?_)
          try simp only [Nat.zero_add] at hs8
          refine O.nil ?_
          refine hK24 _ _ ?_
          refine C.seqK fun K25 hK25 => ?_
          refine C.region ?_
          refine O.asg ?_
          refine O.nil ?_
          refine hK25 _ _ ?_
          refine C.ret ?_
          refine Outs.one rfl rfl ?_
          first
          | exact ⟨0#64, k, true, rfl, hs8, Cn.RdN.of_bad hk rfl, fun _ => rfl, (Ext.new (Ext.new (Ext.new (Ext.refl _ _) e_1 (by intro i hi hk; first | exact hk.elim | ((try dsimp only at hk); (try dsimp only); omega))) e2 (by intro i hi hk; first | exact hk.elim | ((try dsimp only at hk); (try dsimp only); omega))) e8 (by intro i hi hk; first | exact hk.elim | ((try dsimp only at hk); (try dsimp only); omega)))⟩
          | exact ⟨0#64, k, true, rfl, hs8, ⟨hk, .inr ⟨rfl, fun _ => Cn.num_no2 hall hy2 hy4 hq8⟩⟩, fun _ => rfl, (Ext.new (Ext.new (Ext.new (Ext.refl _ _) e_1 (by intro i hi hk; first | exact hk.elim | ((try dsimp only at hk); (try dsimp only); omega))) e2 (by intro i hi hk; first | exact hk.elim | ((try dsimp only at hk); (try dsimp only); omega))) e8 (by intro i hi hk; first | exact hk.elim | ((try dsimp only at hk); (try dsimp only); omega)))⟩
          | exact ⟨0#64, k, true, rfl, hs8, ⟨hk, .inr ⟨rfl, fun _ => Cn.num_no1 hall (by first | (left; omega) | (right; rw [List.length_drop]; omega))⟩⟩, fun _ => rfl, (Ext.new (Ext.new (Ext.new (Ext.refl _ _) e_1 (by intro i hi hk; first | exact hk.elim | ((try dsimp only at hk); (try dsimp only); omega))) e2 (by intro i hi hk; first | exact hk.elim | ((try dsimp only at hk); (try dsimp only); omega))) e8 (by intro i hi hk; first | exact hk.elim | ((try dsimp only at hk); (try dsimp only); omega)))⟩
          | exact ⟨BitVec.ofNat 64 (Cn.valN ((l.drop k).take (i + 1))), k + (i + 1), false, rfl, hs8, ⟨by omega, .inl ⟨rfl, rfl, Cn.num_yes (by omega) hq9⟩⟩, (fun h => by cases h), (Ext.new (Ext.new (Ext.new (Ext.refl _ _) e_1 (by intro i hi hk; first | exact hk.elim | ((try dsimp only at hk); (try dsimp only); omega))) e2 (by intro i hi hk; first | exact hk.elim | ((try dsimp only at hk); (try dsimp only); omega))) e8 (by intro i hi hk; first | exact hk.elim | ((try dsimp only at hk); (try dsimp only); omega)))⟩
      ·
        refine D.takeNo (i := 3) rfl rfl (by kernel_rfl) (Le.refl _) rfl (noB (isF rfl c13) rfl) ?_
        refine D.takeNo (i := 4) rfl rfl (by kernel_rfl) (Le.refl _) rfl (noB (isF rfl c13) rfl) ?_
        refine D.takeNo (i := 5) rfl rfl (by kernel_rfl) (Le.refl _) rfl (noB (isF rfl c13) rfl) ?_
        refine D.takeNo (i := 6) rfl rfl (by kernel_rfl) (Le.refl _) rfl (noB (isF rfl c13) rfl) ?_
        refine D.takeNo (i := 7) rfl rfl (by kernel_rfl) (Le.refl _) rfl (noB (isF rfl c13) rfl) ?_
        refine D.takeNo (i := 8) rfl rfl (by kernel_rfl) (Le.refl _) rfl (noB (isF rfl c13) rfl) ?_
        refine D.takeNo (i := 9) rfl rfl (by kernel_rfl) (Le.refl _) rfl (noB (isF rfl c13) rfl) ?_
        refine D.takeNo (i := 10) rfl rfl (by kernel_rfl) (Le.refl _) rfl (noB (isF rfl c13) rfl) ?_
        refine D.takeNo (i := 11) rfl rfl (by kernel_rfl) (Le.refl _) rfl (noB (isF rfl c13) rfl) ?_
        refine D.takeNo (i := 12) rfl rfl (by kernel_rfl) (Le.refl _) rfl (noB (isF rfl c13) rfl) ?_
        refine D.takeNo (i := 13) rfl rfl (by kernel_rfl) (Le.refl _) rfl (noB (isF rfl c13) rfl) ?_
        refine D.takeNo (i := 14) rfl rfl (by kernel_rfl) (Le.refl _) rfl (noB (isF rfl c13) rfl) ?_
        refine D.take (i := 15) rfl rfl rfl rfl (by kernel_rfl) (Le.refl _) pick_form (fun w_ hw_ N_ hN => (O.pickF (isF rfl c13) (O.nil hN))) ?_
        refine D.done (by kernel_rfl) ?_
        refine hK10 _ _ ?_
        refine C.condF rfl ?_
        refine C.exit ?_
        refine hK8 _ _ ?_
        refine hK6 _ _ ?_
        refine C.seqK fun K26 hK26 => ?_
        refine C.region ?_
        refine O.mv ?_
        refine O.nilChk s0_1 ?_
        refine O.fieldAd Tryz.underlying122 rfl Tryz.sizeOf4 (by decide) rfl ?_
        refine O.store Tryz.sizeOf4 rfl rfl rfl ((ho.keep e_1).keep e2) (by simp) (fun w9 hs9 e9 z9 => ?_)
        try simp only [Nat.zero_add] at hs9
        refine O.nil ?_
        refine hK26 _ _ ?_
        refine C.seqK fun K27 hK27 => ?_
        refine C.region ?_
        refine O.asg ?_
        refine O.nil ?_
        refine hK27 _ _ ?_
        refine C.ret ?_
        refine Outs.one rfl rfl ?_
        first
        | exact ⟨0#64, k, true, rfl, hs9, Cn.RdN.of_bad hk rfl, fun _ => rfl, (Ext.new (Ext.new (Ext.new (Ext.refl _ _) e_1 (by intro i hi hk; first | exact hk.elim | ((try dsimp only at hk); (try dsimp only); omega))) e2 (by intro i hi hk; first | exact hk.elim | ((try dsimp only at hk); (try dsimp only); omega))) e9 (by intro i hi hk; first | exact hk.elim | ((try dsimp only at hk); (try dsimp only); omega)))⟩
        | exact ⟨0#64, k, true, rfl, hs9, ⟨hk, .inr ⟨rfl, fun _ => Cn.num_no2 hall hy2 hy4 hq8⟩⟩, fun _ => rfl, (Ext.new (Ext.new (Ext.new (Ext.refl _ _) e_1 (by intro i hi hk; first | exact hk.elim | ((try dsimp only at hk); (try dsimp only); omega))) e2 (by intro i hi hk; first | exact hk.elim | ((try dsimp only at hk); (try dsimp only); omega))) e9 (by intro i hi hk; first | exact hk.elim | ((try dsimp only at hk); (try dsimp only); omega)))⟩
        | exact ⟨0#64, k, true, rfl, hs9, ⟨hk, .inr ⟨rfl, fun _ => Cn.num_no1 hall (by first | (left; omega) | (right; rw [List.length_drop]; omega))⟩⟩, fun _ => rfl, (Ext.new (Ext.new (Ext.new (Ext.refl _ _) e_1 (by intro i hi hk; first | exact hk.elim | ((try dsimp only at hk); (try dsimp only); omega))) e2 (by intro i hi hk; first | exact hk.elim | ((try dsimp only at hk); (try dsimp only); omega))) e9 (by intro i hi hk; first | exact hk.elim | ((try dsimp only at hk); (try dsimp only); omega)))⟩
        | exact ⟨BitVec.ofNat 64 (Cn.valN ((l.drop k).take (i + 1))), k + (i + 1), false, rfl, hs9, ⟨by omega, .inl ⟨rfl, rfl, Cn.num_yes (by omega) hq9⟩⟩, (fun h => by cases h), (Ext.new (Ext.new (Ext.new (Ext.refl _ _) e_1 (by intro i hi hk; first | exact hk.elim | ((try dsimp only at hk); (try dsimp only); omega))) e2 (by intro i hi hk; first | exact hk.elim | ((try dsimp only at hk); (try dsimp only); omega))) e9 (by intro i hi hk; first | exact hk.elim | ((try dsimp only at hk); (try dsimp only); omega)))⟩

set_option maxHeartbeats 2000000 in
theorem xtext_spec (b : Nat) (vl : Value) (l : List UInt8) (k : Nat) (bad : Bool) (F : Nat → Prop) (w : World) (ho : Own w b 122 [vl, .int .i64 ((k : Int)), .bool bad]) (hl : Sl byteE w F vl l) (hk : k ≤ l.length) (hF : ∀ j, F j → j ≠ b ∧ j < w.heap.size) (hL : l.length ≤ 1000000) :
    Ret Tryz.prog 80 #[.pointer (some ⟨b, 0, none⟩)] w (fun v w' => ∃ (s : List UInt8) (k' : Nat) (bad' : Bool), v = str s ∧ Own w' b 122 [vl, .int .i64 ((k' : Int)), .bool bad'] ∧ s.length ≤ l.length ∧ Cn.Rd (fun _ : List UInt8 => True) Cn.strB l k bad s k' bad' ∧ Ext (fun j => j = b) w w') := by
  have _hF9 := hF
  have _hk9 := hk
  have hbl := ho.lt
  have hll := hl.le
  refine enter (args := [.pointer (some ⟨b, 0, none⟩)]) (n := 57) Tryz.func80 rfl rfl (Nat.le_of_ble_eq_true rfl) ?_
  refine C.seqK fun K1 hK1 => ?_
  refine C.region ?_
  refine O.asg ?_
  refine O.nil ?_
  refine hK1 _ _ ?_
  refine C.seqK fun K2 hK2 => ?_
  refine C.region ?_
  refine O.mv ?_
  refine O.call Tryz.call79 (args1 rfl) (xnum_spec b vl l k bad F _ ho hl hk (fun j hj => by have q1 := hF j hj; omega) hL) ?_
  rintro v_6 w1 ⟨nv6, knv6, bv6, rfl, hov6, hrv6, hzv6, e1⟩
  have z1 := e1.size
  have hk6 := hrv6.1
  have hn6 := nv6.isLt
  refine O.asg ?_
  refine O.nil ?_
  refine hK2 _ _ ?_
  refine C.seqK fun K3 hK3 => ?_
  refine C.seqK fun K4 hK4 => ?_
  refine C.draw (by kernel_rfl) fun w2 e2 => ?_
  have z2 := e2.size
  refine D.take (i := 0) rfl rfl rfl rfl (by kernel_rfl) (Le.refl _) ⟨pure _, rfl⟩ (fun w_ hw_ N_ hN => (O.mv (O.nil hN))) ?_
  refine D.take (i := 1) rfl rfl rfl rfl (by kernel_rfl) (Le.refl _) (nil_form rfl) (fun w_ hw_ N_ hN => (O.nilChk rfl (O.nil hN))) ?_
  refine D.take (i := 2) rfl rfl rfl rfl (by kernel_rfl) (Le.refl _) ⟨_, rfl⟩ (fun w_ hw_ N_ hN => (O.fieldAd Tryz.underlying122 rfl Tryz.sizeOf4 (by decide) rfl (O.nil hN))) ?_
  refine D.take (i := 3) rfl rfl rfl rfl (by kernel_rfl) (Le.refl _) ⟨_, rfl⟩ (fun w_ hw_ N_ hN => (O.loadO Tryz.isAgg4 rfl ((hov6.keep e2).keep hw_) rfl (O.nil hN))) ?_
  refine D.take (i := 4) rfl rfl rfl rfl (by kernel_rfl) (Le.refl _) ⟨pure _, rfl⟩ (fun w_ hw_ N_ hN => (O.mv (O.nil hN))) ?_
  refine D.split (x := .tmp 11) rfl (fun c11 => ?_) (fun c11 => ?_)
  ·
    have c11b := c11
    obtain rfl := c11b
    refine D.takeNo (i := 5) rfl rfl (by kernel_rfl) (Le.refl _) rfl (noB (isT' rfl c11) rfl) ?_
    refine D.takeNo (i := 6) rfl rfl (by kernel_rfl) (Le.refl _) rfl (noB (isT' rfl c11) rfl) ?_
    refine D.takeNo (i := 7) rfl rfl (by kernel_rfl) (Le.refl _) rfl (noB (isT' rfl c11) rfl) ?_
    refine D.takeNo (i := 8) rfl rfl (by kernel_rfl) (Le.refl _) rfl (noB (isT' rfl c11) rfl) ?_
    refine D.takeNo (i := 9) rfl rfl (by kernel_rfl) (Le.refl _) rfl (noB (isT' rfl c11) rfl) ?_
    refine D.takeNo (i := 10) rfl rfl (by kernel_rfl) (Le.refl _) rfl (noB (isT' rfl c11) rfl) ?_
    refine D.takeNo (i := 11) rfl rfl (by kernel_rfl) (Le.refl _) rfl (noB (isT' rfl c11) rfl) ?_
    refine D.takeNo (i := 12) rfl rfl (by kernel_rfl) (Le.refl _) rfl (noB (isT' rfl c11) rfl) ?_
    refine D.takeNo (i := 13) rfl rfl (by kernel_rfl) (Le.refl _) rfl (noB (isT' rfl c11) rfl) ?_
    refine D.takeNo (i := 14) rfl rfl (by kernel_rfl) (Le.refl _) rfl (noB (isT' rfl c11) rfl) ?_
    refine D.takeNo (i := 15) rfl rfl (by kernel_rfl) (Le.refl _) rfl (noB (isT' rfl c11) rfl) ?_
    refine D.takeNo (i := 16) rfl rfl (by kernel_rfl) (Le.refl _) rfl (noB (isT' rfl c11) rfl) ?_
    refine D.takeNo (i := 17) rfl rfl (by kernel_rfl) (Le.refl _) rfl (noB (isT' rfl c11) rfl) ?_
    refine D.take (i := 18) rfl rfl rfl rfl (by kernel_rfl) (Le.refl _) pick_form (fun w_ hw_ N_ hN => (O.pickT (isT' rfl c11) (O.nil hN))) ?_
    refine D.done (by kernel_rfl) ?_
    refine hK4 _ _ ?_
    refine C.condT rfl ?_
    refine C.seqK fun K5 hK5 => ?_
    refine C.region ?_
    refine O.mv ?_
    refine O.nilChk rfl ?_
    refine O.fieldAd Tryz.underlying122 rfl Tryz.sizeOf4 (by decide) rfl ?_
    refine O.store Tryz.sizeOf4 rfl rfl rfl (hov6.keep e2) (by simp) (fun w3 hs3 e3 z3 => ?_)
    try simp only [Nat.zero_add] at hs3
    refine O.nil ?_
    refine hK5 _ _ ?_
    refine C.seqK fun K6 hK6 => ?_
    refine C.region ?_
    refine O.asg ?_
    refine O.nil ?_
    refine hK6 _ _ ?_
    refine C.ret ?_
    refine Outs.one rfl rfl ?_
    first
    | exact ⟨_, knv6 + nv6.toNat, false, rfl, hs3, by rw [List.length_take, List.length_drop]; omega, Cn.Rd.str hrv6 hn7, (Ext.new (Ext.new (Ext.new (Ext.refl _ _) e1 (by intro i hi hk; first | exact hk.elim | ((try dsimp only at hk); (try dsimp only); omega))) e2 (by intro i hi hk; first | exact hk.elim | ((try dsimp only at hk); (try dsimp only); omega))) e3 (by intro i hi hk; first | exact hk.elim | ((try dsimp only at hk); (try dsimp only); omega)))⟩
    | exact ⟨[], knv6, true, rfl, hs3, Nat.zero_le _, Cn.Rd.nostr hL hrv6 (.inl rfl), (Ext.new (Ext.new (Ext.new (Ext.refl _ _) e1 (by intro i hi hk; first | exact hk.elim | ((try dsimp only at hk); (try dsimp only); omega))) e2 (by intro i hi hk; first | exact hk.elim | ((try dsimp only at hk); (try dsimp only); omega))) e3 (by intro i hi hk; first | exact hk.elim | ((try dsimp only at hk); (try dsimp only); omega)))⟩
    | exact ⟨[], knv6, true, rfl, hs3, Nat.zero_le _, Cn.Rd.nostr hL hrv6 (.inr hn8), (Ext.new (Ext.new (Ext.new (Ext.refl _ _) e1 (by intro i hi hk; first | exact hk.elim | ((try dsimp only at hk); (try dsimp only); omega))) e2 (by intro i hi hk; first | exact hk.elim | ((try dsimp only at hk); (try dsimp only); omega))) e3 (by intro i hi hk; first | exact hk.elim | ((try dsimp only at hk); (try dsimp only); omega)))⟩
  ·
    have c11b := c11
    obtain rfl := c11b
    refine D.takeYes (i := 5) rfl rfl rfl (by kernel_rfl) rfl (isF' rfl c11) (Le.refl _) ⟨pure _, rfl⟩ (fun w_ hw_ N_ hN => (O.mv (O.nil hN))) ?_
    refine D.takeYes (i := 6) rfl rfl rfl (by kernel_rfl) rfl (isF' rfl c11) (Le.refl _) ⟨pure _, rfl⟩ (fun w_ hw_ N_ hN => (O.mv (O.nil hN))) ?_
    refine D.takeYes (i := 7) rfl rfl rfl (by kernel_rfl) rfl (isF' rfl c11) (Le.refl _) (nil_form rfl) (fun w_ hw_ N_ hN => (O.nilChk rfl (O.nil hN))) ?_
    refine D.takeYes (i := 8) rfl rfl rfl (by kernel_rfl) rfl (isF' rfl c11) (Le.refl _) ⟨_, rfl⟩ (fun w_ hw_ N_ hN => (O.fieldAd Tryz.underlying122 rfl Tryz.sizeOf32 (by decide) rfl (O.nil hN))) ?_
    refine D.takeYes (i := 9) rfl rfl rfl (by kernel_rfl) rfl (isF' rfl c11) (Le.refl _) ⟨_, rfl⟩ (fun w_ hw_ N_ hN => (O.loadO Tryz.isAgg32 rfl ((hov6.keep e2).keep hw_) rfl (O.nil hN))) ?_
    refine D.takeYes (i := 10) rfl rfl rfl (by kernel_rfl) rfl (isF' rfl c11) (Le.refl _) len_form (fun w_ hw_ N_ hN => (O.len Tryz.underlying32 rfl (((hl.keepM e1 (by intro k hk h; first | (have q1 := hF k hk; (try dsimp only at h); omega) | ((try dsimp only at hk); (try dsimp only at h); omega))).keep e2).keep hw_) (O.nil hN))) ?_
    refine D.takeYes (i := 11) rfl rfl rfl (by kernel_rfl) rfl (isF' rfl c11) (Le.refl _) ⟨pure _, rfl⟩ (fun w_ hw_ N_ hN => (O.mv (O.nil hN))) ?_
    refine D.takeYes (i := 12) rfl rfl rfl (by kernel_rfl) rfl (isF' rfl c11) (Le.refl _) (nil_form rfl) (fun w_ hw_ N_ hN => (O.nilChk rfl (O.nil hN))) ?_
    refine D.takeYes (i := 13) rfl rfl rfl (by kernel_rfl) rfl (isF' rfl c11) (Le.refl _) ⟨_, rfl⟩ (fun w_ hw_ N_ hN => (O.fieldAd Tryz.underlying122 rfl Tryz.sizeOf3 (by decide) rfl (O.nil hN))) ?_
    refine D.takeYes (i := 14) rfl rfl rfl (by kernel_rfl) rfl (isF' rfl c11) (Le.refl _) ⟨_, rfl⟩ (fun w_ hw_ N_ hN => (O.loadO Tryz.isAgg3 rfl ((hov6.keep e2).keep hw_) rfl (O.nil hN))) ?_
    refine D.takeYes (i := 15) rfl rfl rfl (by kernel_rfl) rfl (isF' rfl c11) (Le.refl _) ⟨_, rfl⟩ (fun w_ hw_ N_ hN => (O.subI rfl rfl (by unfold InI; omega) (O.nil hN))) ?_
    refine D.takeYes (i := 16) rfl rfl rfl (by kernel_rfl) rfl (isF' rfl c11) (Le.refl _) ⟨_, rfl⟩ (fun w_ hw_ N_ hN => (O.convIU (m' := 64) Tryz.underlying3 Tryz.underlying49 rfl rfl rfl (O.nil hN))) ?_
    refine D.takeYes (i := 17) rfl rfl rfl (by kernel_rfl) rfl (isF' rfl c11) (Le.refl _) ⟨_, rfl⟩ (fun w_ hw_ N_ hN => (O.gtrU (m := 64) rfl rfl (O.nil hN))) ?_
    refine D.take (i := 18) rfl rfl rfl rfl (by kernel_rfl) (Le.refl _) pick_form (fun w_ hw_ N_ hN => (O.pickF (isF' rfl c11) (O.nil hN))) ?_
    refine D.done (by kernel_rfl) ?_
    refine hK4 _ _ ?_
    refine C.condD rfl (fun c25 => ?_) (fun c25 => ?_)
    ·
      have hn8 : l.length - knv6 < nv6.toNat := by
        have q := BitVec.lt_def.1 c25
        rw [BitVec.toNat_ofInt] at q
        omega
      refine C.seqK fun K7 hK7 => ?_
      refine C.region ?_
      refine O.mv ?_
      refine O.nilChk rfl ?_
      refine O.fieldAd Tryz.underlying122 rfl Tryz.sizeOf4 (by decide) rfl ?_
      refine O.store Tryz.sizeOf4 rfl rfl rfl (hov6.keep e2) (by simp) (fun w4 hs4 e4 z4 => ?_)
      try simp only [Nat.zero_add] at hs4
      refine O.nil ?_
      refine hK7 _ _ ?_
      refine C.seqK fun K8 hK8 => ?_
      refine C.region ?_
      refine O.asg ?_
      refine O.nil ?_
      refine hK8 _ _ ?_
      refine C.ret ?_
      refine Outs.one rfl rfl ?_
      first
      | exact ⟨_, knv6 + nv6.toNat, false, rfl, hs4, by rw [List.length_take, List.length_drop]; omega, Cn.Rd.str hrv6 hn7, (Ext.new (Ext.new (Ext.new (Ext.refl _ _) e1 (by intro i hi hk; first | exact hk.elim | ((try dsimp only at hk); (try dsimp only); omega))) e2 (by intro i hi hk; first | exact hk.elim | ((try dsimp only at hk); (try dsimp only); omega))) e4 (by intro i hi hk; first | exact hk.elim | ((try dsimp only at hk); (try dsimp only); omega)))⟩
      | exact ⟨[], knv6, true, rfl, hs4, Nat.zero_le _, Cn.Rd.nostr hL hrv6 (.inl rfl), (Ext.new (Ext.new (Ext.new (Ext.refl _ _) e1 (by intro i hi hk; first | exact hk.elim | ((try dsimp only at hk); (try dsimp only); omega))) e2 (by intro i hi hk; first | exact hk.elim | ((try dsimp only at hk); (try dsimp only); omega))) e4 (by intro i hi hk; first | exact hk.elim | ((try dsimp only at hk); (try dsimp only); omega)))⟩
      | exact ⟨[], knv6, true, rfl, hs4, Nat.zero_le _, Cn.Rd.nostr hL hrv6 (.inr hn8), (Ext.new (Ext.new (Ext.new (Ext.refl _ _) e1 (by intro i hi hk; first | exact hk.elim | ((try dsimp only at hk); (try dsimp only); omega))) e2 (by intro i hi hk; first | exact hk.elim | ((try dsimp only at hk); (try dsimp only); omega))) e4 (by intro i hi hk; first | exact hk.elim | ((try dsimp only at hk); (try dsimp only); omega)))⟩
    ·
      have hn7 : nv6.toNat ≤ l.length - knv6 := by
        have q := mt BitVec.lt_def.2 c25
        rw [BitVec.toNat_ofInt] at q
        omega
      refine C.skip ?_
      refine hK3 _ _ ?_
      refine C.seqK fun K9 hK9 => ?_
      refine C.draw (by kernel_rfl) fun w5 e5 => ?_
      have z5 := e5.size
      refine D.take (i := 0) rfl rfl rfl rfl (by kernel_rfl) (Le.refl _) ⟨pure _, rfl⟩ (fun w_ hw_ N_ hN => (O.mv (O.nil hN))) ?_
      refine D.take (i := 1) rfl rfl rfl rfl (by kernel_rfl) (Le.refl _) (nil_form rfl) (fun w_ hw_ N_ hN => (O.nilChk rfl (O.nil hN))) ?_
      refine D.take (i := 2) rfl rfl rfl rfl (by kernel_rfl) (Le.refl _) ⟨_, rfl⟩ (fun w_ hw_ N_ hN => (O.fieldAd Tryz.underlying122 rfl Tryz.sizeOf32 (by decide) rfl (O.nil hN))) ?_
      refine D.take (i := 3) rfl rfl rfl rfl (by kernel_rfl) (Le.refl _) ⟨_, rfl⟩ (fun w_ hw_ N_ hN => (O.loadO Tryz.isAgg32 rfl (((hov6.keep e2).keep e5).keep hw_) rfl (O.nil hN))) ?_
      refine D.take (i := 4) rfl rfl rfl rfl (by kernel_rfl) (Le.refl _) ⟨pure _, rfl⟩ (fun w_ hw_ N_ hN => (O.mv (O.nil hN))) ?_
      refine D.take (i := 5) rfl rfl rfl rfl (by kernel_rfl) (Le.refl _) (nil_form rfl) (fun w_ hw_ N_ hN => (O.nilChk rfl (O.nil hN))) ?_
      refine D.take (i := 6) rfl rfl rfl rfl (by kernel_rfl) (Le.refl _) ⟨_, rfl⟩ (fun w_ hw_ N_ hN => (O.fieldAd Tryz.underlying122 rfl Tryz.sizeOf3 (by decide) rfl (O.nil hN))) ?_
      refine D.take (i := 7) rfl rfl rfl rfl (by kernel_rfl) (Le.refl _) ⟨_, rfl⟩ (fun w_ hw_ N_ hN => (O.loadO Tryz.isAgg3 rfl (((hov6.keep e2).keep e5).keep hw_) rfl (O.nil hN))) ?_
      refine D.take (i := 8) rfl rfl rfl rfl (by kernel_rfl) (Le.refl _) ⟨pure _, rfl⟩ (fun w_ hw_ N_ hN => (O.mv (O.nil hN))) ?_
      refine D.take (i := 9) rfl rfl rfl rfl (by kernel_rfl) (Le.refl _) (nil_form rfl) (fun w_ hw_ N_ hN => (O.nilChk rfl (O.nil hN))) ?_
      refine D.take (i := 10) rfl rfl rfl rfl (by kernel_rfl) (Le.refl _) ⟨_, rfl⟩ (fun w_ hw_ N_ hN => (O.fieldAd Tryz.underlying122 rfl Tryz.sizeOf3 (by decide) rfl (O.nil hN))) ?_
      refine D.take (i := 11) rfl rfl rfl rfl (by kernel_rfl) (Le.refl _) ⟨_, rfl⟩ (fun w_ hw_ N_ hN => (O.loadO Tryz.isAgg3 rfl (((hov6.keep e2).keep e5).keep hw_) rfl (O.nil hN))) ?_
      refine D.take (i := 12) rfl rfl rfl rfl (by kernel_rfl) (Le.refl _) ⟨pure _, rfl⟩ (fun w_ hw_ N_ hN => (O.mv (O.nil hN))) ?_
      refine D.take (i := 13) rfl rfl rfl rfl (by kernel_rfl) (Le.refl _) ⟨_, rfl⟩ (fun w_ hw_ N_ hN => (O.convU64I Tryz.underlying49 Tryz.underlying3 rfl (O.nil hN))) ?_
      refine D.cast (v' := .int .i64 (nv6.toNat : Int)) (congrArg (Value.int .i64) (by rw [BitVec.toInt_eq_toNat_cond, if_pos (by omega)])) ?_
      refine D.take (i := 14) rfl rfl rfl rfl (by kernel_rfl) (Le.refl _) ⟨_, rfl⟩ (fun w_ hw_ N_ hN => (O.addI rfl rfl (by unfold InI; omega) (O.nil hN))) ?_
      refine D.cast (v' := .int .i64 ((knv6 + nv6.toNat : Nat) : Int)) (congrArg (Value.int .i64) (by omega)) ?_
      have hb44 := Sl.sub (P := Tryz.prog) (knv6) (knv6 + nv6.toNat) Tryz.underlying32 Tryz.sizeOf5 (by rfl) (((hl.keepM e1 (by intro k hk h; first | (have q1 := hF k hk; (try dsimp only at h); omega) | ((try dsimp only at hk); (try dsimp only at h); omega))).keep e2).keep e5) (by omega) (by omega)
      obtain ⟨v44, hs44, hr44⟩ := hb44
      refine D.take (i := 15) rfl rfl rfl rfl (by kernel_rfl) (Le.refl _) ⟨_, rfl⟩ (fun w_ hw_ N_ hN => (O.subR rfl hr44 (.inr ⟨_, _, rfl, rfl⟩) (.inr ⟨_, _, rfl, rfl⟩) (O.nil hN))) ?_
      refine D.take (i := 16) rfl rfl rfl rfl (by kernel_rfl) (Le.refl _) ⟨_, rfl⟩ (fun w_ hw_ N_ hN => (O.bytesS Tryz.underlying32 Tryz.underlying5 Tryz.underlying9 rfl (hs44.keep hw_) (O.nil hN))) ?_
      refine D.cast (v' := str ((l.drop knv6).take nv6.toNat)) (by rw [List.drop_take, show knv6 + nv6.toNat - knv6 = nv6.toNat by omega]) ?_
      refine D.take (i := 17) rfl rfl rfl rfl (by kernel_rfl) (Le.refl _) ⟨pure _, rfl⟩ (fun w_ hw_ N_ hN => (O.asg (O.nil hN))) ?_
      refine D.done (by kernel_rfl) ?_
      refine hK9 _ _ ?_
      refine C.seqK fun K10 hK10 => ?_
      refine C.region ?_
      refine O.mv ?_
      refine O.mv ?_
      refine O.nilChk rfl ?_
      refine O.fieldAd Tryz.underlying122 rfl Tryz.sizeOf3 (by decide) rfl ?_
      refine O.loadO Tryz.isAgg3 rfl ((hov6.keep e2).keep e5) rfl ?_
      refine O.mv ?_
      refine O.convU64I Tryz.underlying49 Tryz.underlying3 rfl ?_
      refine O.cast (v' := .int .i64 (nv6.toNat : Int)) (congrArg (Value.int .i64) (by rw [BitVec.toInt_eq_toNat_cond, if_pos (by omega)])) ?_
      refine O.addI rfl rfl (by unfold InI; omega) ?_
      refine O.cast (v' := .int .i64 ((knv6 + nv6.toNat : Nat) : Int)) (congrArg (Value.int .i64) (by omega)) ?_
      refine O.nilChk rfl ?_
      refine O.fieldAd Tryz.underlying122 rfl Tryz.sizeOf3 (by decide) rfl ?_
      refine O.store Tryz.sizeOf3 rfl rfl rfl ((hov6.keep e2).keep e5) (by simp) (fun w6 hs6 e6 z6 => ?_)
      try simp only [Nat.zero_add] at hs6
      refine O.nil ?_
      refine hK10 _ _ ?_
      refine C.seqK fun K11 hK11 => ?_
      refine C.region ?_
      refine O.mv ?_
      refine O.asg ?_
      refine O.nil ?_
      refine hK11 _ _ ?_
      refine C.ret ?_
      refine Outs.one rfl rfl ?_
      first
      | exact ⟨_, knv6 + nv6.toNat, false, rfl, hs6, by rw [List.length_take, List.length_drop]; omega, Cn.Rd.str hrv6 hn7, (Ext.new (Ext.new (Ext.new (Ext.new (Ext.refl _ _) e1 (by intro i hi hk; first | exact hk.elim | ((try dsimp only at hk); (try dsimp only); omega))) e2 (by intro i hi hk; first | exact hk.elim | ((try dsimp only at hk); (try dsimp only); omega))) e5 (by intro i hi hk; first | exact hk.elim | ((try dsimp only at hk); (try dsimp only); omega))) e6 (by intro i hi hk; first | exact hk.elim | ((try dsimp only at hk); (try dsimp only); omega)))⟩
      | exact ⟨[], knv6, true, rfl, hs6, Nat.zero_le _, Cn.Rd.nostr hL hrv6 (.inl rfl), (Ext.new (Ext.new (Ext.new (Ext.new (Ext.refl _ _) e1 (by intro i hi hk; first | exact hk.elim | ((try dsimp only at hk); (try dsimp only); omega))) e2 (by intro i hi hk; first | exact hk.elim | ((try dsimp only at hk); (try dsimp only); omega))) e5 (by intro i hi hk; first | exact hk.elim | ((try dsimp only at hk); (try dsimp only); omega))) e6 (by intro i hi hk; first | exact hk.elim | ((try dsimp only at hk); (try dsimp only); omega)))⟩
      | exact ⟨[], knv6, true, rfl, hs6, Nat.zero_le _, Cn.Rd.nostr hL hrv6 (.inr hn8), (Ext.new (Ext.new (Ext.new (Ext.new (Ext.refl _ _) e1 (by intro i hi hk; first | exact hk.elim | ((try dsimp only at hk); (try dsimp only); omega))) e2 (by intro i hi hk; first | exact hk.elim | ((try dsimp only at hk); (try dsimp only); omega))) e5 (by intro i hi hk; first | exact hk.elim | ((try dsimp only at hk); (try dsimp only); omega))) e6 (by intro i hi hk; first | exact hk.elim | ((try dsimp only at hk); (try dsimp only); omega)))⟩

theorem xdot_spec (b : Nat) (vl : Value) (l : List UInt8) (k : Nat) (bad : Bool) (F : Nat → Prop) (w : World) (ho : Own w b 122 [vl, .int .i64 ((k : Int)), .bool bad]) (hl : Sl byteE w F vl l) (hk : k ≤ l.length) (hF : ∀ j, F j → j ≠ b ∧ j < w.heap.size) (hL : l.length ≤ 1000000) :
    Ret Tryz.prog 81 #[.pointer (some ⟨b, 0, none⟩)] w (fun v w' => ∃ (d : Dt.Dot) (k' : Nat) (bad' : Bool), v = Dt.dv d ∧ Own w' b 122 [vl, .int .i64 ((k' : Int)), .bool bad'] ∧ Cn.dotR d ∧ Cn.Rd Cn.dotR Cn.dotB l k bad d k' bad' ∧ Ext (fun j => j = b) w w') := by
  have _hF9 := hF
  have _hk9 := hk
  have hbl := ho.lt
  have hll := hl.le
  refine enter (args := [.pointer (some ⟨b, 0, none⟩)]) (n := 12) Tryz.func81 rfl rfl (Nat.le_of_ble_eq_true rfl) ?_
  refine C.seqK fun K1 hK1 => ?_
  refine C.region ?_
  refine O.alloc Tryz.zeroValue51 (fun b2 w1 hb2 hz2 e1 => ?_)
  have z1 := e1.size
  have h2 := hz2.own
  have hl2 := h2.lt
  refine O.nil ?_
  refine hK1 _ _ ?_
  refine C.seqK fun K2 hK2 => ?_
  refine C.region ?_
  refine O.mv ?_
  refine O.call Tryz.call79 (args1 rfl) (xnum_spec b vl l k bad F _ (ho.keep e1) (hl.keep e1) hk (fun j hj => by have q1 := hF j hj; omega) hL) ?_
  rintro v_5 w2 ⟨nv5, knv5, bv5, rfl, hov5, hrv5, hzv5, e2⟩
  have z2 := e2.size
  refine O.asg ?_
  refine O.nil ?_
  refine hK2 _ _ ?_
  refine C.seqK fun K3 hK3 => ?_
  refine C.region ?_
  refine O.mv ?_
  refine O.convU64I Tryz.underlying49 Tryz.underlying3 rfl ?_
  refine O.mv ?_
  refine O.call Tryz.call79 (args1 rfl) (xnum_spec b vl l knv5 bv5 F _ hov5 ((hl.keep e1).keepM e2 (by intro k hk h; first | (have q1 := hF k hk; (try dsimp only at h); omega) | ((try dsimp only at hk); (try dsimp only at h); omega))) hrv5.1 (fun j hj => by have q1 := hF j hj; omega) hL) ?_
  rintro v_9 w3 ⟨nv9, knv9, bv9, rfl, hov9, hrv9, hzv9, e3⟩
  have z3 := e3.size
  refine O.convU64I Tryz.underlying49 Tryz.underlying3 rfl ?_
  refine O.build (cells := #[.int .i64 nv5.toInt, .int .i64 nv9.toInt]) rfl (by kernel_rfl) ?_
  refine O.storeA (vs := [.int .i64 nv5.toInt, .int .i64 nv9.toInt]) Tryz.sizeOf51 rfl rfl rfl (by simp [Value.oneCell']) ((h2.keepM e2 (by intro h; (try dsimp only at h); omega)).keepM e3 (by intro h; (try dsimp only at h); omega)) (Nat.le_of_ble_eq_true rfl) (fun w4 hs4 e4 z4 => ?_)
  refine O.nil ?_
  refine hK3 _ _ ?_
  refine C.ret ?_
  refine Outs.cellA rfl Tryz.isAgg51 Tryz.sizeOf51 rfl hs4 rfl ?_
  exact ⟨(nv5.toInt, nv9.toInt), knv9, bv9, rfl, (hov9.keepM e4 (by intro h; (try dsimp only at h); omega)), Cn.dotR_mk, Cn.Rd.dot hrv5 hrv9, (Ext.new (Ext.new (Ext.new (Ext.new (Ext.refl _ _) e1 (by intro i hi hk; first | exact hk.elim | ((try dsimp only at hk); (try dsimp only); omega))) e2 (by intro i hi hk; first | exact hk.elim | ((try dsimp only at hk); (try dsimp only); omega))) e3 (by intro i hi hk; first | exact hk.elim | ((try dsimp only at hk); (try dsimp only); omega))) e4 (by intro i hi hk; first | exact hk.elim | ((try dsimp only at hk); (try dsimp only); omega)))⟩

set_option maxHeartbeats 1000000 in
theorem xdots_spec (b : Nat) (vl : Value) (l : List UInt8) (k : Nat) (bad : Bool) (F : Nat → Prop) (w : World) (ho : Own w b 122 [vl, .int .i64 ((k : Int)), .bool bad]) (hl : Sl byteE w F vl l) (hk : k ≤ l.length) (hF : ∀ j, F j → j ≠ b ∧ j < w.heap.size) (hL : l.length ≤ 1000000) :
    Ret Tryz.prog 107 #[.pointer (some ⟨b, 0, none⟩)] w (fun v w' => ∃ (ds : List Dt.Dot) (k' : Nat) (bad' : Bool), Own w' b 122 [vl, .int .i64 ((k' : Int)), .bool bad'] ∧ Sl Dt.dotF.enc w' (fun j => w.heap.size ≤ j ∧ j < w'.heap.size) v ds ∧ ds.length ≤ l.length + 1 ∧ Cn.manyQ Cn.dotR ds ∧ Cn.Rd (Cn.manyQ Cn.dotR) (Cn.manyB Cn.dotB) l k bad ds k' bad' ∧ Ext (fun j => j = b) w w') := by
  have _hF9 := hF
  have _hk9 := hk
  have hbl := ho.lt
  have hll := hl.le
  obtain ⟨ie51, ti51, ts51, tb51, tz51⟩ := inf51
  refine enter (args := [.pointer (some ⟨b, 0, none⟩)]) (n := 24) Tryz.func107 rfl rfl (Nat.le_of_ble_eq_true rfl) ?_
  refine C.seqK fun K1 hK1 => ?_
  refine C.region ?_
  refine O.asg ?_
  refine O.nil ?_
  refine hK1 _ _ ?_
  refine C.seqK fun K2 hK2 => ?_
  refine C.region ?_
  refine O.asg ?_
  refine O.nil ?_
  refine hK2 _ _ ?_
  refine C.seqK fun K3 hK3 => ?_
  refine C.seqK fun K4 hK4 => ?_
  refine C.region ?_
  refine O.mv ?_
  refine O.call Tryz.call79 (args1 rfl) (xnum_spec b vl l k bad F _ ho hl hk (fun j hj => by have q1 := hF j hj; omega) hL) ?_
  rintro v_6 w1 ⟨nv6, knv6, bv6, rfl, hov6, hrv6, hzv6, e1⟩
  have z1 := e1.size
  refine O.asg ?_
  refine O.nil ?_
  refine hK4 _ _ ?_
  refine C.block fun K5 hK5 => ?_
  refine C.loop0 (σ := List Dt.Dot × Value × Nat × Bool) (fun f0 w0 ⟨ds, vs, kc, bc⟩ f wz => f 3 = vs ∧ f 4 = .int .u64 ((BitVec.ofNat 64 (nv6.toNat - ds.length)).toNat : Int) ∧ f 0 = f0 0 ∧ f 2 = f0 2 ∧ Ext (fun j => j = b) w wz ∧ Own wz b 122 [vl, .int .i64 ((kc : Int)), .bool bc] ∧ OwnF Dt.dotF 51 w.heap.size wz vs ds ∧ ds.length ≤ nv6.toNat ∧ ds.length ≤ l.length + 1 ∧ Cn.Rds Cn.dotR Cn.dotB l k bad nv6 knv6 ds kc bc) (fun ⟨ds, vs, kc, bc⟩ => nv6.toNat - ds.length) ([], .slice none 0 0, knv6, bv6) ?_ ?_
  ·
    refine ⟨rfl, (Eq.trans rfl (congrArg (fun q : BitVec 64 => Value.int .u64 (q.toNat : Int)) (by simp))), rfl, rfl, (Ext.new (Ext.refl _ _) e1 (by intro i hi hk; first | exact hk.elim | ((try dsimp only at hk); (try dsimp only); omega))), hov6, (OwnF.nil _ _ _ _), ?_⟩
    exact ⟨Nat.zero_le _, Nat.zero_le _, Cn.Rds.start hL Cn.dotB_ge hrv6⟩
  ·
    rintro ⟨ds, vs, kc, bc⟩ f_1 w2 ⟨s3_1, s4_1, s0_1, s2_1, e_1, r0_1, r1_1, ⟨hj, hj9, hR⟩⟩
    have z_1 := e_1.size
    have r1_1s := r1_1.sl
    have hNl := nv6.isLt
    refine C.seqK fun K6 hK6 => ?_
    refine C.seqK fun K7 hK7 => ?_
    refine C.region ?_
    refine O.mv ?_
    refine O.gtrU (m := 64) (b := 0#64) s4_1 rfl ?_
    refine O.mv ?_
    refine O.splitD (x := .tmp 9) rfl (fun c9 => ?_) (fun c9 => ?_)
    ·
      have hj2 : ds.length < nv6.toNat := by have q := (Cn.pos_ofNat (m := nv6.toNat - ds.length) (by omega)).1 c9; omega
      refine O.yes rfl (isT rfl c9) ?_
      refine O.mv ?_
      refine O.yes rfl (isT rfl c9) ?_
      refine O.nilChk s0_1 ?_
      refine O.yes rfl (isT rfl c9) ?_
      refine O.fieldAd Tryz.underlying122 rfl Tryz.sizeOf4 (by decide) rfl ?_
      refine O.yes rfl (isT rfl c9) ?_
      refine O.loadO Tryz.isAgg4 rfl r0_1 rfl ?_
      refine O.yes rfl (isT rfl c9) ?_
      refine O.not rfl ?_
      refine O.pickT (isT rfl c9) ?_
      refine O.nil ?_
      refine hK7 _ _ ?_
      refine C.cond rfl (fun c15 => ?_) (fun c15 => ?_)
      ·
        obtain rfl : bc = false := by simpa using c15
        have hln := (Cn.Rds.len Cn.dotB_ge hR).1
        refine C.skip ?_
        refine hK6 _ _ ?_
        refine C.seqK fun K8 hK8 => ?_
        refine C.block fun K9 hK9 => ?_
        refine C.region ?_
        refine O.mv ?_
        refine O.mv ?_
        refine O.call Tryz.call81 (args1 s0_1) (xdot_spec b vl l kc false F _ r0_1 (hl.keepM e_1 (by intro k hk h; first | (have q1 := hF k hk; (try dsimp only at h); omega) | ((try dsimp only at hk); (try dsimp only at h); omega))) hR.1 (fun j hj => by have q1 := hF j hj; omega) hL) ?_
        rintro v_20 w3 ⟨dv20, knv20, bv20, rfl, hov20, hdv20, hrv20, e3⟩
        have z3 := e3.size
        refine O.litG (G := Dt.dotF) [dv20] Tryz.underlying22 ti51 ts51 tz51 rfl (by decide) (by decide) rfl (fun b21 w4 hb21 hz21 e4 => ?_)
        have z4 := e4.size
        have h21 := hz21.own
        have hq21 := Sl.litG (n := 1) h21 rfl (by unfold maxLen; omega)
        refine O.appF (G := Dt.dotF) Tryz.underlying22 ti51 tz51 ts51 rfl s3_1 rfl ((r1_1.keepM e3 (fun k hk h => by have := r1_1.bk_ge k hk; (try dsimp only at h); omega)).keep e4) hq21 (by rw [tb51]; simp; omega) (by unfold maxLen; simp; omega) (by omega) (fun v22 w5 h22 e5 => ?_)
        have e5m : Ext (fun j => w.heap.size ≤ j) w4 w5 := e5.mono (fun j _ hj => by have := ((r1_1.keepM e3 (fun k hk h => by have := r1_1.bk_ge k hk; (try dsimp only at h); omega)).keep e4).bk_ge j hj; omega)
        have z5 := e5.size
        have h22s := h22.sl
        refine O.asg ?_
        refine O.nil ?_
        refine hK9 _ _ ?_
        refine hK8 _ _ ?_
        refine C.region ?_
        refine O.mv ?_
        refine O.subU (m := 64) (b := 1#64) rfl rfl s4_1 rfl ?_
        refine O.asg ?_
        refine O.nil ?_
        refine ⟨(ds ++ [dv20], v22, knv20, bv20), ⟨rfl, (Eq.trans rfl (congrArg (fun q : BitVec 64 => Value.int .u64 (q.toNat : Int)) (by rw [Cn.dec_ofNat (by omega) (by omega), List.length_append]; rfl))), s0_1, s2_1, (Ext.new (Ext.new (Ext.new (Ext.new (Ext.refl _ _) e_1 (by intro i hi hk; first | exact hk.elim | ((try dsimp only at hk); (try dsimp only); omega))) e3 (by intro i hi hk; first | exact hk.elim | ((try dsimp only at hk); (try dsimp only); omega))) e4 (by intro i hi hk; first | exact hk.elim | ((try dsimp only at hk); (try dsimp only); omega))) e5m (by intro i hi hk; first | exact hk.elim | ((try dsimp only at hk); (try dsimp only); omega))), ((hov20.keep e4).keepM e5 (by intro h; have := ((r1_1.keepM e3 (fun k hk h => by have := r1_1.bk_ge k hk; (try dsimp only at h); omega)).keep e4).bk_ge _ h; omega)), h22, ?_⟩, by show nv6.toNat - (ds ++ [dv20]).length < nv6.toNat - ds.length; rw [List.length_append]; show nv6.toNat - (ds.length + 1) < _; omega⟩
        exact ⟨by rw [List.length_append]; exact hj2, by rw [List.length_append]; show ds.length + 1 ≤ _; omega, Cn.Rds.next Cn.pre_dot hR hj2 hdv20 hrv20⟩
      ·
        refine C.exit ?_
        refine hK5 _ _ ?_
        refine hK3 _ _ ?_
        refine C.seqK fun K10 hK10 => ?_
        refine C.region ?_
        refine O.mv ?_
        refine O.asg ?_
        refine O.nil ?_
        refine hK10 _ _ ?_
        refine C.ret ?_
        refine Outs.one rfl s3_1 ?_
        exact ⟨ds, kc, bc, r0_1, (r1_1).sl.weak (fun j hj => by have := (r1_1).bk_ge j hj; exact ⟨by omega, by omega⟩), by omega, hR.2.1, Cn.Rds.done hR (by first | (left; omega) | (right; simpa using c15)), (Ext.new (Ext.refl _ _) e_1 (by intro i hi hk; first | exact hk.elim | ((try dsimp only at hk); (try dsimp only); omega)))⟩
    ·
      have hj3 : ds.length = nv6.toNat := by have q := mt (Cn.pos_ofNat (m := nv6.toNat - ds.length) (by omega)).2 c9; omega
      refine O.no rfl (noB (isF rfl c9) rfl) ?_
      refine O.no rfl (noB (isF rfl c9) rfl) ?_
      refine O.no rfl (noB (isF rfl c9) rfl) ?_
      refine O.no rfl (noB (isF rfl c9) rfl) ?_
      refine O.no rfl (noB (isF rfl c9) rfl) ?_
      refine O.pickF (isF rfl c9) ?_
      refine O.nil ?_
      refine hK7 _ _ ?_
      refine C.condF rfl ?_
      refine C.exit ?_
      refine hK5 _ _ ?_
      refine hK3 _ _ ?_
      refine C.seqK fun K11 hK11 => ?_
      refine C.region ?_
      refine O.mv ?_
      refine O.asg ?_
      refine O.nil ?_
      refine hK11 _ _ ?_
      refine C.ret ?_
      refine Outs.one rfl s3_1 ?_
      exact ⟨ds, kc, bc, r0_1, (r1_1).sl.weak (fun j hj => by have := (r1_1).bk_ge j hj; exact ⟨by omega, by omega⟩), by omega, hR.2.1, Cn.Rds.done hR (by first | (left; omega) | (right; simpa using c15)), (Ext.new (Ext.refl _ _) e_1 (by intro i hi hk; first | exact hk.elim | ((try dsimp only at hk); (try dsimp only); omega)))⟩

theorem xctx_spec (b : Nat) (vl : Value) (l : List UInt8) (k : Nat) (bad : Bool) (F : Nat → Prop) (w : World) (ho : Own w b 122 [vl, .int .i64 ((k : Int)), .bool bad]) (hl : Sl byteE w F vl l) (hk : k ≤ l.length) (hF : ∀ j, F j → j ≠ b ∧ j < w.heap.size) (hL : l.length ≤ 1000000) :
    Ret Tryz.prog 78 #[.pointer (some ⟨b, 0, none⟩)] w (fun v w' => ∃ (v1 v2 : Value) (x : Cn.Ctx) (k' : Nat) (bad' : Bool), v = .agg #[v1, v2] ∧ Own w' b 122 [vl, .int .i64 ((k' : Int)), .bool bad'] ∧ Sl Dt.dotF.enc w' (fun j => w.heap.size ≤ j ∧ j < w'.heap.size) v1 x.1 ∧ Sl Dt.dotF.enc w' (fun j => w.heap.size ≤ j ∧ j < w'.heap.size) v2 x.2 ∧ (x.1.length ≤ l.length + 1 ∧ x.2.length ≤ l.length + 1) ∧ Cn.ctxR x ∧ Cn.Rd Cn.ctxR Cn.ctxB l k bad x k' bad' ∧ Ext (fun j => j = b) w w') := by
  have _hF9 := hF
  have _hk9 := hk
  have hbl := ho.lt
  have hll := hl.le
  refine enter (args := [.pointer (some ⟨b, 0, none⟩)]) (n := 10) Tryz.func78 rfl rfl (Nat.le_of_ble_eq_true rfl) ?_
  refine C.seqK fun K1 hK1 => ?_
  refine C.region ?_
  refine O.alloc Tryz.zeroValue25 (fun b2 w1 hb2 hz2 e1 => ?_)
  have z1 := e1.size
  have h2 := hz2.own
  have hl2 := h2.lt
  refine O.nil ?_
  refine hK1 _ _ ?_
  refine C.seqK fun K2 hK2 => ?_
  refine C.region ?_
  refine O.mv ?_
  refine O.call Tryz.call107 (args1 rfl) (xdots_spec b vl l k bad F _ (ho.keep e1) (hl.keep e1) hk (fun j hj => by have q1 := hF j hj; omega) hL) ?_
  rintro v_5 w2 ⟨dsv5, knv5, bv5, hov5, hlv5, hnv5, hqv5, hrv5, e2⟩
  have z2 := e2.size
  obtain ⟨p5, rfl⟩ := hlv5.slv
  refine O.asg ?_
  refine O.nil ?_
  refine hK2 _ _ ?_
  refine C.seqK fun K3 hK3 => ?_
  refine C.region ?_
  refine O.mv ?_
  refine O.mv ?_
  refine O.call Tryz.call107 (args1 rfl) (xdots_spec b vl l knv5 bv5 F _ hov5 ((hl.keep e1).keepM e2 (by intro k hk h; first | (have q1 := hF k hk; (try dsimp only at h); omega) | ((try dsimp only at hk); (try dsimp only at h); omega))) hrv5.1 (fun j hj => by have q1 := hF j hj; omega) hL) ?_
  rintro v_8 w3 ⟨dsv8, knv8, bv8, hov8, hlv8, hnv8, hqv8, hrv8, e3⟩
  have z3 := e3.size
  obtain ⟨p8, rfl⟩ := hlv8.slv
  refine O.build (cells := #[slv p5, slv p8]) rfl (by kernel_rfl) ?_
  refine O.storeA (vs := [slv p5, slv p8]) Tryz.sizeOf25 rfl rfl rfl (by simp [slv, Value.oneCell']) ((h2.keepM e2 (by intro h; (try dsimp only at h); omega)).keepM e3 (by intro h; (try dsimp only at h); omega)) (Nat.le_of_ble_eq_true rfl) (fun w4 hs4 e4 z4 => ?_)
  refine O.nil ?_
  refine hK3 _ _ ?_
  refine C.ret ?_
  refine Outs.cellA rfl Tryz.isAgg25 Tryz.sizeOf25 rfl hs4 rfl ?_
  exact ⟨slv p5, slv p8, (dsv5, dsv8), knv8, bv8, rfl, (hov8.keepM e4 (by intro h; (try dsimp only at h); omega)), (((hlv5.keepM e3 (by intro k hk h; first | (have q1 := hF k hk; (try dsimp only at h); omega) | ((try dsimp only at hk); (try dsimp only at h); omega))).keepM e4 (by intro k hk h; first | (have q1 := hF k hk; (try dsimp only at h); omega) | (have q1 := hF2 k hk; (try dsimp only at h); omega) | (have q1 := hFb k hk; (try dsimp only at h); omega) | ((try dsimp only at hk); (try dsimp only at h); omega)))).weak (by intro j hj; (try dsimp only at hj); (try dsimp only); omega), ((hlv8.keepM e4 (by intro k hk h; first | (have q1 := hF k hk; (try dsimp only at h); omega) | (have q1 := hF2 k hk; (try dsimp only at h); omega) | (have q1 := hFb k hk; (try dsimp only at h); omega) | ((try dsimp only at hk); (try dsimp only at h); omega)))).weak (by intro j hj; (try dsimp only at hj); (try dsimp only); omega), ⟨hnv5, hnv8⟩, ⟨hqv5, hqv8⟩, Cn.Rd.ctx hrv5 hqv5 hrv8, (Ext.new (Ext.new (Ext.new (Ext.new (Ext.refl _ _) e1 (by intro i hi hk; first | exact hk.elim | ((try dsimp only at hk); (try dsimp only); omega))) e2 (by intro i hi hk; first | exact hk.elim | ((try dsimp only at hk); (try dsimp only); omega))) e3 (by intro i hi hk; first | exact hk.elim | ((try dsimp only at hk); (try dsimp only); omega))) e4 (by intro i hi hk; first | exact hk.elim | ((try dsimp only at hk); (try dsimp only); omega)))⟩

end Go.Proofs.YtnkcmaoaagnopaaGreatDoor
end
section
/-
  The walks of the reference that reads whole carts. Conditions: slices as they lie in memory.
-/
namespace Go.Proofs.YtnkcmaoaagnopaaGreatDoor
open Go.Pn Go.RowKit Go.Proofs
attribute [local irreducible] O C D

set_option maxHeartbeats 4000000 in
theorem xcontext_spec (p0 : Option Addr × Nat × Nat) (l : List UInt8) (F : Nat → Prop) (w : World) (hl : Sl byteE w F (slv p0) l) (hL9 : l.length ≤ 900000) (hF : ∀ j, F j → j < w.heap.size) :
    Ret Tryz.prog 55 #[slv p0] w (fun v w' => ∃ (v1 v2 : Value) (x : Cn.Ctx) (found : Bool), v = .tuple #[.agg #[v1, v2], .bool found] ∧ Sl Dt.dotF.enc w' (fun j => w.heap.size ≤ j ∧ j < w'.heap.size) v1 x.1 ∧ Sl Dt.dotF.enc w' (fun j => w.heap.size ≤ j ∧ j < w'.heap.size) v2 x.2 ∧ (x.1.length ≤ 1000000 ∧ x.2.length ≤ 1000000) ∧ Cn.CtxR9 l x found ∧ Le w w') := by
  have hL : l.length ≤ 1000000 := by omega
  have hll := hl.le
  have _hF9 := hF
  refine enter (args := [slv p0]) (n := 26) Tryz.func55 rfl rfl (Nat.le_of_ble_eq_true rfl) ?_
  refine C.seqK fun K1 hK1 => ?_
  refine C.region ?_
  refine O.alloc Tryz.zeroValue25 (fun b2 w1 hb2 hz2 e1 => ?_)
  have z1 := e1.size
  have h2 := hz2.own
  have hl2 := h2.lt
  refine O.asg ?_
  refine O.nil ?_
  refine hK1 _ _ ?_
  refine C.seqK fun K2 hK2 => ?_
  refine C.region ?_
  refine O.mv ?_
  refine O.build (cells := #[slv p0, .int .i64 0, .bool false]) rfl (by kernel_rfl) ?_
  refine O.box (v := .agg #[slv p0, .int .i64 0, .bool false]) rfl (fun b8 w2 hb8 hz8 e2 => ?_)
  have z2 := e2.size
  have h8 := hz8.own
  have hl8 := h8.lt
  refine O.asg ?_
  refine O.nil ?_
  refine hK2 _ _ ?_
  refine C.seqK fun K3 hK3 => ?_
  refine C.region ?_
  refine O.mv ?_
  refine O.call Tryz.call78 (args1 rfl) (xctx_spec b8 (slv p0) l 0 false F _ h8 ((hl.keep e1).keep e2) (Nat.zero_le _) (fun j hj => by have q1 := hF j hj; omega) hL) ?_
  rintro v_10 w3 ⟨vav10, vbv10, xv10, knv10, bv10, rfl, hov10, hxv10, hyv10, hnv10, hcv10, hrv10, e3⟩
  have z3 := e3.size
  obtain ⟨q1, rfl⟩ := hxv10.slv
  obtain ⟨q2, rfl⟩ := hyv10.slv
  refine O.alloc Tryz.zeroValue25 (fun b5 w4 hb5 hz5 e4 => ?_)
  have z4 := e4.size
  have h5 := hz5.own
  have hl5 := h5.lt
  refine O.storeA (vs := [slv q1, slv q2]) Tryz.sizeOf25 rfl rfl rfl (by simp [slv, Value.oneCell']) h5 (Nat.le_of_ble_eq_true rfl) (fun w5 hs5 e5 z5 => ?_)
  refine O.nil ?_
  refine hK3 _ _ ?_
  refine C.seqK fun K4 hK4 => ?_
  refine C.seqK fun K5 hK5 => ?_
  refine C.region ?_
  refine O.mv ?_
  refine O.nilChk rfl ?_
  refine O.fieldAd Tryz.underlying122 rfl Tryz.sizeOf4 (by decide) rfl ?_
  refine O.loadO Tryz.isAgg4 rfl ((hov10.keep e4).keepM e5 (by intro h; (try dsimp only at h); omega)) rfl ?_
  refine O.mv ?_
  refine O.split (x := .tmp 15) rfl (fun c15 => ?_) (fun c15 => ?_)
  ·
    have hb8 : bv10 = true := c15
    refine O.no rfl (noB (isT' rfl c15) rfl) ?_
    refine O.no rfl (noB (isT' rfl c15) rfl) ?_
    refine O.no rfl (noB (isT' rfl c15) rfl) ?_
    refine O.no rfl (noB (isT' rfl c15) rfl) ?_
    refine O.no rfl (noB (isT' rfl c15) rfl) ?_
    refine O.no rfl (noB (isT' rfl c15) rfl) ?_
    refine O.no rfl (noB (isT' rfl c15) rfl) ?_
    refine O.pickT (isT' rfl c15) ?_
    refine O.nil ?_
    refine hK5 _ _ ?_
    refine C.condT rfl ?_
    refine C.seqK fun K6 hK6 => ?_
    refine C.region ?_
    refine O.build (cells := #[.slice none 0 0, .slice none 0 0]) rfl (by kernel_rfl) ?_
    refine O.storeA (vs := [.slice none 0 0, .slice none 0 0]) Tryz.sizeOf25 rfl rfl rfl (by simp [slv, Value.oneCell']) ((((h2.keep e2).keepM e3 (by intro h; (try dsimp only at h); omega)).keep e4).keepM e5 (by intro h; (try dsimp only at h); omega)) (Nat.le_of_ble_eq_true rfl) (fun w6 hs6 e6 z6 => ?_)
    refine O.asg ?_
    refine O.nil ?_
    refine hK6 _ _ ?_
    refine C.ret ?_
    refine Outs.cellA2 rfl Tryz.isAgg25 Tryz.sizeOf25 rfl rfl hs6 rfl ?_
    first
    | exact ⟨slv q1, slv q2, xv10, true, rfl, ((((hxv10.keep e4).keepM e5 (by intro k hk h; first | (have q1 := hF k hk; (try dsimp only at h); omega) | (have q1 := hF2 k hk; (try dsimp only at h); omega) | (have q1 := hFb k hk; (try dsimp only at h); omega) | ((try dsimp only at hk); (try dsimp only at h); omega))).keepM e6 (by intro k hk h; first | (have q1 := hF k hk; (try dsimp only at h); omega) | (have q1 := hF2 k hk; (try dsimp only at h); omega) | (have q1 := hFb k hk; (try dsimp only at h); omega) | ((try dsimp only at hk); (try dsimp only at h); omega)))).weak (by intro j hj; (try dsimp only at hj); (try dsimp only); omega), ((((hyv10.keep e4).keepM e5 (by intro k hk h; first | (have q1 := hF k hk; (try dsimp only at h); omega) | (have q1 := hF2 k hk; (try dsimp only at h); omega) | (have q1 := hFb k hk; (try dsimp only at h); omega) | ((try dsimp only at hk); (try dsimp only at h); omega))).keepM e6 (by intro k hk h; first | (have q1 := hF k hk; (try dsimp only at h); omega) | (have q1 := hF2 k hk; (try dsimp only at h); omega) | (have q1 := hFb k hk; (try dsimp only at h); omega) | ((try dsimp only at hk); (try dsimp only at h); omega)))).weak (by intro j hj; (try dsimp only at hj); (try dsimp only); omega), ⟨by have := hnv10.1; omega, by have := hnv10.2; omega⟩, .inl ⟨rfl, hcv10, Cn.seg_whole (hrv10.yes hb9) (by omega)⟩, (Ext.new (Ext.new (Ext.trans (Ext.new (Ext.trans e1 e2) e3 (by rintro i hi rfl; omega)) e4) e5 (by rintro i hi rfl; omega)) e6 (by rintro i hi rfl; omega))⟩
    | exact ⟨_, _, ([], []), false, rfl, Sl.nil _ _ _, Sl.nil _ _ _, ⟨by simp, by simp⟩, .inr ⟨rfl, rfl, Cn.no_whole (hrv10.no hb8)⟩, (Ext.new (Ext.new (Ext.trans (Ext.new (Ext.trans e1 e2) e3 (by rintro i hi rfl; omega)) e4) e5 (by rintro i hi rfl; omega)) e6 (by rintro i hi rfl; omega))⟩
    | exact ⟨_, _, ([], []), false, rfl, Sl.nil _ _ _, Sl.nil _ _ _, ⟨by simp, by simp⟩, .inr ⟨rfl, rfl, Cn.ctxR_more (hrv10.yes hb9) hcv10 (by omega)⟩, (Ext.new (Ext.new (Ext.trans (Ext.new (Ext.trans e1 e2) e3 (by rintro i hi rfl; omega)) e4) e5 (by rintro i hi rfl; omega)) e6 (by rintro i hi rfl; omega))⟩
  ·
    have hb9 : bv10 = false := c15
    refine O.yes rfl (isF' rfl c15) ?_
    refine O.mv ?_
    refine O.yes rfl (isF' rfl c15) ?_
    refine O.nilChk rfl ?_
    refine O.yes rfl (isF' rfl c15) ?_
    refine O.fieldAd Tryz.underlying122 rfl Tryz.sizeOf3 (by decide) rfl ?_
    refine O.yes rfl (isF' rfl c15) ?_
    refine O.loadO Tryz.isAgg3 rfl ((hov10.keep e4).keepM e5 (by intro h; (try dsimp only at h); omega)) rfl ?_
    refine O.yes rfl (isF' rfl c15) ?_
    refine O.mv ?_
    refine O.yes rfl (isF' rfl c15) ?_
    refine O.len Tryz.underlying32 rfl (((((hl.keep e1).keep e2).keepM e3 (by intro k hk h; first | (have q1 := hF k hk; (try dsimp only at h); omega) | ((try dsimp only at hk); (try dsimp only at h); omega))).keep e4).keepM e5 (by intro k hk h; first | (have q1 := hF k hk; (try dsimp only at h); omega) | (have q1 := hF2 k hk; (try dsimp only at h); omega) | (have q1 := hFb k hk; (try dsimp only at h); omega) | ((try dsimp only at hk); (try dsimp only at h); omega))) ?_
    refine O.yes rfl (isF' rfl c15) ?_
    refine O.neqI rfl rfl ?_
    refine O.pickF (isF' rfl c15) ?_
    refine O.nil ?_
    refine hK5 _ _ ?_
    refine C.condD rfl (fun c23 => ?_) (fun c23 => ?_)
    ·
      refine C.seqK fun K7 hK7 => ?_
      refine C.region ?_
      refine O.build (cells := #[.slice none 0 0, .slice none 0 0]) rfl (by kernel_rfl) ?_
      refine O.storeA (vs := [.slice none 0 0, .slice none 0 0]) Tryz.sizeOf25 rfl rfl rfl (by simp [slv, Value.oneCell']) ((((h2.keep e2).keepM e3 (by intro h; (try dsimp only at h); omega)).keep e4).keepM e5 (by intro h; (try dsimp only at h); omega)) (Nat.le_of_ble_eq_true rfl) (fun w7 hs7 e7 z7 => ?_)
      refine O.asg ?_
      refine O.nil ?_
      refine hK7 _ _ ?_
      refine C.ret ?_
      refine Outs.cellA2 rfl Tryz.isAgg25 Tryz.sizeOf25 rfl rfl hs7 rfl ?_
      first
      | exact ⟨slv q1, slv q2, xv10, true, rfl, ((((hxv10.keep e4).keepM e5 (by intro k hk h; first | (have q1 := hF k hk; (try dsimp only at h); omega) | (have q1 := hF2 k hk; (try dsimp only at h); omega) | (have q1 := hFb k hk; (try dsimp only at h); omega) | ((try dsimp only at hk); (try dsimp only at h); omega))).keepM e7 (by intro k hk h; first | (have q1 := hF k hk; (try dsimp only at h); omega) | (have q1 := hF2 k hk; (try dsimp only at h); omega) | (have q1 := hFb k hk; (try dsimp only at h); omega) | ((try dsimp only at hk); (try dsimp only at h); omega)))).weak (by intro j hj; (try dsimp only at hj); (try dsimp only); omega), ((((hyv10.keep e4).keepM e5 (by intro k hk h; first | (have q1 := hF k hk; (try dsimp only at h); omega) | (have q1 := hF2 k hk; (try dsimp only at h); omega) | (have q1 := hFb k hk; (try dsimp only at h); omega) | ((try dsimp only at hk); (try dsimp only at h); omega))).keepM e7 (by intro k hk h; first | (have q1 := hF k hk; (try dsimp only at h); omega) | (have q1 := hF2 k hk; (try dsimp only at h); omega) | (have q1 := hFb k hk; (try dsimp only at h); omega) | ((try dsimp only at hk); (try dsimp only at h); omega)))).weak (by intro j hj; (try dsimp only at hj); (try dsimp only); omega), ⟨by have := hnv10.1; omega, by have := hnv10.2; omega⟩, .inl ⟨rfl, hcv10, Cn.seg_whole (hrv10.yes hb9) (by omega)⟩, (Ext.new (Ext.new (Ext.trans (Ext.new (Ext.trans e1 e2) e3 (by rintro i hi rfl; omega)) e4) e5 (by rintro i hi rfl; omega)) e7 (by rintro i hi rfl; omega))⟩
      | exact ⟨_, _, ([], []), false, rfl, Sl.nil _ _ _, Sl.nil _ _ _, ⟨by simp, by simp⟩, .inr ⟨rfl, rfl, Cn.no_whole (hrv10.no hb8)⟩, (Ext.new (Ext.new (Ext.trans (Ext.new (Ext.trans e1 e2) e3 (by rintro i hi rfl; omega)) e4) e5 (by rintro i hi rfl; omega)) e7 (by rintro i hi rfl; omega))⟩
      | exact ⟨_, _, ([], []), false, rfl, Sl.nil _ _ _, Sl.nil _ _ _, ⟨by simp, by simp⟩, .inr ⟨rfl, rfl, Cn.ctxR_more (hrv10.yes hb9) hcv10 (by omega)⟩, (Ext.new (Ext.new (Ext.trans (Ext.new (Ext.trans e1 e2) e3 (by rintro i hi rfl; omega)) e4) e5 (by rintro i hi rfl; omega)) e7 (by rintro i hi rfl; omega))⟩
    ·
      refine C.skip ?_
      refine hK4 _ _ ?_
      refine C.seqK fun K8 hK8 => ?_
      refine C.region ?_
      refine O.loadOA Tryz.isAgg25 Tryz.sizeOf25 rfl hs5 (Nat.le_of_ble_eq_true rfl) ?_
      refine O.storeA (vs := [slv q1, slv q2]) Tryz.sizeOf25 rfl rfl rfl (by simp [slv, Value.oneCell']) ((((h2.keep e2).keepM e3 (by intro h; (try dsimp only at h); omega)).keep e4).keepM e5 (by intro h; (try dsimp only at h); omega)) (Nat.le_of_ble_eq_true rfl) (fun w8 hs8 e8 z8 => ?_)
      refine O.asg ?_
      refine O.nil ?_
      refine hK8 _ _ ?_
      refine C.ret ?_
      refine Outs.cellA2 rfl Tryz.isAgg25 Tryz.sizeOf25 rfl rfl hs8 rfl ?_
      first
      | exact ⟨slv q1, slv q2, xv10, true, rfl, ((((hxv10.keep e4).keepM e5 (by intro k hk h; first | (have q1 := hF k hk; (try dsimp only at h); omega) | (have q1 := hF2 k hk; (try dsimp only at h); omega) | (have q1 := hFb k hk; (try dsimp only at h); omega) | ((try dsimp only at hk); (try dsimp only at h); omega))).keepM e8 (by intro k hk h; first | (have q1 := hF k hk; (try dsimp only at h); omega) | (have q1 := hF2 k hk; (try dsimp only at h); omega) | (have q1 := hFb k hk; (try dsimp only at h); omega) | ((try dsimp only at hk); (try dsimp only at h); omega)))).weak (by intro j hj; (try dsimp only at hj); (try dsimp only); omega), ((((hyv10.keep e4).keepM e5 (by intro k hk h; first | (have q1 := hF k hk; (try dsimp only at h); omega) | (have q1 := hF2 k hk; (try dsimp only at h); omega) | (have q1 := hFb k hk; (try dsimp only at h); omega) | ((try dsimp only at hk); (try dsimp only at h); omega))).keepM e8 (by intro k hk h; first | (have q1 := hF k hk; (try dsimp only at h); omega) | (have q1 := hF2 k hk; (try dsimp only at h); omega) | (have q1 := hFb k hk; (try dsimp only at h); omega) | ((try dsimp only at hk); (try dsimp only at h); omega)))).weak (by intro j hj; (try dsimp only at hj); (try dsimp only); omega), ⟨by have := hnv10.1; omega, by have := hnv10.2; omega⟩, .inl ⟨rfl, hcv10, Cn.seg_whole (hrv10.yes hb9) (by omega)⟩, (Ext.new (Ext.new (Ext.trans (Ext.new (Ext.trans e1 e2) e3 (by rintro i hi rfl; omega)) e4) e5 (by rintro i hi rfl; omega)) e8 (by rintro i hi rfl; omega))⟩
      | exact ⟨_, _, ([], []), false, rfl, Sl.nil _ _ _, Sl.nil _ _ _, ⟨by simp, by simp⟩, .inr ⟨rfl, rfl, Cn.no_whole (hrv10.no hb8)⟩, (Ext.new (Ext.new (Ext.trans (Ext.new (Ext.trans e1 e2) e3 (by rintro i hi rfl; omega)) e4) e5 (by rintro i hi rfl; omega)) e8 (by rintro i hi rfl; omega))⟩
      | exact ⟨_, _, ([], []), false, rfl, Sl.nil _ _ _, Sl.nil _ _ _, ⟨by simp, by simp⟩, .inr ⟨rfl, rfl, Cn.ctxR_more (hrv10.yes hb9) hcv10 (by omega)⟩, (Ext.new (Ext.new (Ext.trans (Ext.new (Ext.trans e1 e2) e3 (by rintro i hi rfl; omega)) e4) e5 (by rintro i hi rfl; omega)) e8 (by rintro i hi rfl; omega))⟩

set_option maxHeartbeats 8000000 in
theorem xprefix_spec (p0 : Option Addr × Nat × Nat) (l : List UInt8) (F : Nat → Prop) (w : World) (hl : Sl byteE w F (slv p0) l) (hL9 : l.length ≤ 900000) (hF : ∀ j, F j → j < w.heap.size) :
    Ret Tryz.prog 54 #[slv p0] w (fun v w' => ∃ (v1 v2 v3 : Value) (c : Cn.Cart) (k' : Nat) (found : Bool), v = .tuple #[.agg #[v1, v2, v3], .int .i64 (k' : Int), .bool found] ∧ Sl Dt.dotF.enc w' (fun j => w.heap.size ≤ j ∧ j < w'.heap.size) v1 c.1.1 ∧ Sl Dt.dotF.enc w' (fun j => w.heap.size ≤ j ∧ j < w'.heap.size) v2 c.1.2 ∧ Sl itemE w' (fun j => w.heap.size ≤ j ∧ j < w'.heap.size) v3 c.2 ∧ Cn.big c ∧ Cn.PrefR l c k' found ∧ Le w w') := by
  have hL : l.length ≤ 1000000 := by omega
  have hll := hl.le
  have _hF9 := hF
  obtain ⟨ie53, ti53, ts53, tb53, tz53⟩ := inf53
  obtain ⟨ie56, ti56, ts56, tb56, tz56⟩ := inf56
  refine enter (args := [slv p0]) (n := 78) Tryz.func54 rfl rfl (Nat.le_of_ble_eq_true rfl) ?_
  refine C.seqK fun K1 hK1 => ?_
  refine C.region ?_
  refine O.alloc Tryz.zeroValue28 (fun b2 w1 hb2 hz2 e1 => ?_)
  have z1 := e1.size
  have h2 := hz2.own
  have hl2 := h2.lt
  refine O.asg ?_
  refine O.asg ?_
  refine O.nil ?_
  refine hK1 _ _ ?_
  refine C.seqK fun K2 hK2 => ?_
  refine C.region ?_
  refine O.mv ?_
  refine O.build (cells := #[slv p0, .int .i64 0, .bool false]) rfl (by kernel_rfl) ?_
  refine O.box (v := .agg #[slv p0, .int .i64 0, .bool false]) rfl (fun b13 w2 hb13 hz13 e2 => ?_)
  have z2 := e2.size
  have h13 := hz13.own
  have hl13 := h13.lt
  refine O.asg ?_
  refine O.nil ?_
  refine hK2 _ _ ?_
  refine C.seqK fun K3 hK3 => ?_
  refine C.region ?_
  refine O.mv ?_
  refine O.call Tryz.call78 (args1 rfl) (xctx_spec b13 (slv p0) l 0 false F _ h13 ((hl.keep e1).keep e2) (Nat.zero_le _) (fun j hj => by have q1 := hF j hj; omega) hL) ?_
  rintro v_15 w3 ⟨vav15, vbv15, xv15, knv15, bv15, rfl, hov15, hxv15, hyv15, hnv15, hcv15, hrv15, e3⟩
  have z3 := e3.size
  obtain ⟨p15, rfl⟩ := hxv15.slv
  obtain ⟨q15, rfl⟩ := hyv15.slv
  refine O.build (cells := #[slv p15, slv q15, .slice none 0 0]) rfl (by kernel_rfl) ?_
  refine O.alloc Tryz.zeroValue28 (fun b6 w4 hb6 hz6 e4 => ?_)
  have z4 := e4.size
  have h6 := hz6.own
  have hl6 := h6.lt
  refine O.storeA (vs := [slv p15, slv q15, .slice none 0 0]) Tryz.sizeOf28 rfl rfl rfl (by simp [slv, Value.oneCell']) h6 (Nat.le_of_ble_eq_true rfl) (fun w5 hs5 e5 z5 => ?_)
  refine O.nil ?_
  refine hK3 _ _ ?_
  refine C.seqK fun K4 hK4 => ?_
  refine C.seqK fun K5 hK5 => ?_
  refine C.region ?_
  refine O.mv ?_
  refine O.call Tryz.call79 (args1 rfl) (xnum_spec b13 (slv p0) l knv15 bv15 F _ ((hov15.keep e4).keepM e5 (by intro h; (try dsimp only at h); omega)) (((((hl.keep e1).keep e2).keepM e3 (by intro k hk h; first | (have q1 := hF k hk; (try dsimp only at h); omega) | ((try dsimp only at hk); (try dsimp only at h); omega))).keep e4).keepM e5 (by intro k hk h; first | (have q1 := hF k hk; (try dsimp only at h); omega) | (have q1 := hF2 k hk; (try dsimp only at h); omega) | (have q1 := hFb k hk; (try dsimp only at h); omega) | ((try dsimp only at hk); (try dsimp only at h); omega))) hrv15.1 (fun j hj => by have q1 := hF j hj; omega) hL) ?_
  rintro v_18 w6 ⟨nv18, knv18, bv18, rfl, hov18, hrv18, hzv18, e6⟩
  have z6 := e6.size
  refine O.asg ?_
  refine O.nil ?_
  refine hK5 _ _ ?_
  refine C.block fun K6 hK6 => ?_
  refine C.loop0 (σ := List ItemT × List (List UInt8 × (Option Addr × Nat × Nat)) × Value × Nat × Bool) (fun f0 w0 ⟨its, raw, o, kc, bc⟩ f wz => f 7 = .int .u64 ((BitVec.ofNat 64 (nv18.toNat - its.length)).toNat : Int) ∧ f 2 = f0 2 ∧ f 3 = f0 3 ∧ f 4 = f0 4 ∧ f 5 = f0 5 ∧ f 6 = f0 6 ∧ Le w wz ∧ Own wz b13 122 [slv p0, .int .i64 ((kc : Int)), .bool bc] ∧ Own wz b2 28 [.slice none 0 0, .slice none 0 0, .slice none 0 0] ∧ Own wz b6 28 [slv p15, slv q15, o] ∧ OwnF itemF 56 (b6 + 1) wz o raw ∧ Items wz (fun j => b6 < j ∧ j < wz.heap.size ∧ ¬ bk o j) raw its ∧ Sl Dt.dotF.enc wz (fun j => b13 < j ∧ j < b6) (slv p15) xv15.1 ∧ Sl Dt.dotF.enc wz (fun j => b13 < j ∧ j < b6) (slv q15) xv15.2 ∧ its.length ≤ nv18.toNat ∧ its.length ≤ l.length + 1 ∧ Cn.manyQ (fun x : ItemT => x.1.length ≤ 1000000 ∧ x.2.length ≤ 1000000) its ∧ Cn.Rds Cn.itemR Cn.itemB l knv15 bv15 nv18 knv18 its kc bc) (fun ⟨its, raw, o, kc, bc⟩ => nv18.toNat - its.length) ([], [], .slice none 0 0, knv18, bv18) ?_ ?_
  ·
    refine ⟨(Eq.trans rfl (congrArg (fun q : BitVec 64 => Value.int .u64 (q.toNat : Int)) (by simp))), rfl, rfl, rfl, rfl, rfl, (Ext.new (Ext.new (Ext.trans (Ext.new (Ext.trans e1 e2) e3 (by rintro i hi rfl; omega)) e4) e5 (by rintro i hi rfl; omega)) e6 (by rintro i hi rfl; omega)), hov18, (((((h2.keep e2).keepM e3 (by intro h; (try dsimp only at h); omega)).keep e4).keepM e5 (by intro h; (try dsimp only at h); omega)).keepM e6 (by intro h; (try dsimp only at h); omega)), (hs5.keepM e6 (by intro h; (try dsimp only at h); omega)), (OwnF.nil _ _ _ _), Items.nil, (((((hxv15.keep e4).keepM e5 (by intro k hk h; first | (have q1 := hF k hk; (try dsimp only at h); omega) | (have q1 := hF2 k hk; (try dsimp only at h); omega) | (have q1 := hFb k hk; (try dsimp only at h); omega) | ((try dsimp only at hk); (try dsimp only at h); omega))).keepM e6 (by intro k hk h; first | (have q1 := hF k hk; (try dsimp only at h); omega) | ((try dsimp only at hk); (try dsimp only at h); omega)))).weak (by intro j hj; (try dsimp only at hj); (try dsimp only); omega)), (((((hyv15.keep e4).keepM e5 (by intro k hk h; first | (have q1 := hF k hk; (try dsimp only at h); omega) | (have q1 := hF2 k hk; (try dsimp only at h); omega) | (have q1 := hFb k hk; (try dsimp only at h); omega) | ((try dsimp only at hk); (try dsimp only at h); omega))).keepM e6 (by intro k hk h; first | (have q1 := hF k hk; (try dsimp only at h); omega) | ((try dsimp only at hk); (try dsimp only at h); omega)))).weak (by intro j hj; (try dsimp only at hj); (try dsimp only); omega)), ?_⟩
    exact ⟨Nat.zero_le _, Nat.zero_le _, Cn.manyQ_nil, Cn.Rds.start hL Cn.itemB_ge hrv18⟩
  ·
    rintro ⟨its, raw, o, kc, bc⟩ f_1 w7 ⟨s7_1, s2_1, s3_1, s4_1, s5_1, s6_1, e_1, r0_1, r1_1, r2_1, r3_1, r4_1, r5_1, r6_1, ⟨hj, hj9, hB, hR⟩⟩
    have z_1 := e_1.size
    have r3_1s := r3_1.sl
    obtain ⟨wL, hwL⟩ : ∃ x, x = w7 := ⟨_, rfl⟩
    have hzL : wL.heap.size = w7.heap.size := by rw [hwL]
    have hNl := nv18.isLt
    have ho1 := (r3_1).one
    have hbl6 := (r2_1).lt
    have hbl2 := (r1_1).lt
    have hbl13 := (r0_1).lt
    have hit := r4_1
    have hob := (r3_1).bk_ge
    refine C.seqK fun K7 hK7 => ?_
    refine C.seqK fun K8 hK8 => ?_
    refine C.region ?_
    refine O.mv ?_
    refine O.gtrU (m := 64) (b := 0#64) s7_1 rfl ?_
    refine O.mv ?_
    refine O.splitD (x := .tmp 21) rfl (fun c21 => ?_) (fun c21 => ?_)
    ·
      have hj2 : its.length < nv18.toNat := by have q := (Cn.pos_ofNat (m := nv18.toNat - its.length) (by omega)).1 c21; omega
      refine O.yes rfl (isT rfl c21) ?_
      refine O.mv ?_
      refine O.yes rfl (isT rfl c21) ?_
      refine O.nilChk s5_1 ?_
      refine O.yes rfl (isT rfl c21) ?_
      refine O.fieldAd Tryz.underlying122 rfl Tryz.sizeOf4 (by decide) rfl ?_
      refine O.yes rfl (isT rfl c21) ?_
      refine O.loadO Tryz.isAgg4 rfl r0_1 rfl ?_
      refine O.yes rfl (isT rfl c21) ?_
      refine O.not rfl ?_
      refine O.pickT (isT rfl c21) ?_
      refine O.nil ?_
      refine hK8 _ _ ?_
      refine C.cond rfl (fun c27 => ?_) (fun c27 => ?_)
      ·
        obtain rfl : bc = false := by simpa using c27
        have hln := (Cn.Rds.len Cn.itemB_ge hR).1
        refine C.skip ?_
        refine hK7 _ _ ?_
        refine C.seqK fun K9 hK9 => ?_
        refine C.block fun K10 hK10 => ?_
        refine C.seqK fun K11 hK11 => ?_
        refine C.region ?_
        refine O.mv ?_
        refine O.call Tryz.call80 (args1 s5_1) (xtext_spec b13 (slv p0) l kc false F _ r0_1 (hl.keep e_1) hR.1 (fun j hj => by have q1 := hF j hj; omega) hL) ?_
        rintro v_31 w8 ⟨sv31, knv31, bv31, rfl, hov31, hnv31, hrv31, e8⟩
        have z8 := e8.size
        refine O.build (cells := #[str sv31, .slice none 0 0]) rfl (by kernel_rfl) ?_
        refine O.alloc Tryz.zeroValue56 (fun b8 w9 hb8 hz8 e9 => ?_)
        have z9 := e9.size
        have h8 := hz8.own
        have hl8 := h8.lt
        refine O.storeA (vs := [str sv31, .slice none 0 0]) Tryz.sizeOf56 rfl rfl rfl (ones2 rfl) h8 (Nat.le_of_ble_eq_true rfl) (fun w10 hs10 e10 z10 => ?_)
        refine O.nil ?_
        refine hK11 _ _ ?_
        refine C.seqK fun K12 hK12 => ?_
        refine C.seqK fun K13 hK13 => ?_
        refine C.region ?_
        refine O.mv ?_
        refine O.call Tryz.call79 (args1 s5_1) (xnum_spec b13 (slv p0) l knv31 bv31 F _ ((hov31.keep e9).keepM e10 (by intro h; (try dsimp only at h); omega)) ((((hl.keep e_1).keepM e8 (by intro k hk h; first | (have q1 := hF k hk; (try dsimp only at h); omega) | ((try dsimp only at hk); (try dsimp only at h); omega))).keep e9).keepM e10 (by intro k hk h; first | (have q1 := hF k hk; (try dsimp only at h); omega) | (have q1 := hF2 k hk; (try dsimp only at h); omega) | (have q1 := hFb k hk; (try dsimp only at h); omega) | ((try dsimp only at hk); (try dsimp only at h); omega))) hrv31.1 (fun j hj => by have q1 := hF j hj; omega) hL) ?_
        rintro v_34 w11 ⟨nv34, knv34, bv34, rfl, hov34, hrv34, hzv34, e11⟩
        have z11 := e11.size
        have hob8 : ∀ j, bk o j → j < b8 := fun j hj => by have := hob j hj; omega
        refine O.asg ?_
        refine O.nil ?_
        refine hK13 _ _ ?_
        refine C.block fun K14 hK14 => ?_
        refine C.loop0 (σ := List MarkT × Value × Nat × Bool) (fun f0 w0 ⟨ms, vm, kd, bd⟩ f wz => f 9 = .int .u64 ((BitVec.ofNat 64 (nv34.toNat - ms.length)).toNat : Int) ∧ f 2 = f0 2 ∧ f 3 = f0 3 ∧ f 4 = f0 4 ∧ f 5 = f0 5 ∧ f 6 = f0 6 ∧ f 7 = f0 7 ∧ f 8 = f0 8 ∧ Le w wz ∧ Own wz b13 122 [slv p0, .int .i64 ((kd : Int)), .bool bd] ∧ Own wz b2 28 [.slice none 0 0, .slice none 0 0, .slice none 0 0] ∧ Own wz b6 28 [slv p15, slv q15, o] ∧ Own wz b8 56 [str sv31, vm] ∧ OwnF itemF 56 (b6 + 1) wz o raw ∧ OwnF markF 53 (b8 + 1) wz vm ms ∧ Items wz (fun j => b6 < j ∧ j < b8 ∧ ¬ bk o j) raw its ∧ Sl Dt.dotF.enc wz (fun j => b13 < j ∧ j < b6) (slv p15) xv15.1 ∧ Sl Dt.dotF.enc wz (fun j => b13 < j ∧ j < b6) (slv q15) xv15.2 ∧ ms.length ≤ nv34.toNat ∧ ms.length ≤ l.length + 1 ∧ Cn.Rds Cn.markR Cn.markB l knv31 bv31 nv34 knv34 ms kd bd) (fun ⟨ms, vm, kd, bd⟩ => nv34.toNat - ms.length) ([], .slice none 0 0, knv34, bv34) ?_ ?_
        ·
          refine ⟨(Eq.trans rfl (congrArg (fun q : BitVec 64 => Value.int .u64 (q.toNat : Int)) (by simp))), rfl, rfl, rfl, rfl, rfl, rfl, rfl, (Ext.new (Ext.new (Ext.trans (Ext.new e_1 e8 (by rintro i hi rfl; omega)) e9) e10 (by rintro i hi rfl; omega)) e11 (by rintro i hi rfl; omega)), hov34, ((((r1_1.keepM e8 (by intro h; (try dsimp only at h); omega)).keep e9).keepM e10 (by intro h; (try dsimp only at h); omega)).keepM e11 (by intro h; (try dsimp only at h); omega)), ((((r2_1.keepM e8 (by intro h; (try dsimp only at h); omega)).keep e9).keepM e10 (by intro h; (try dsimp only at h); omega)).keepM e11 (by intro h; (try dsimp only at h); omega)), (hs10.keepM e11 (by intro h; (try dsimp only at h); omega)), ((((r3_1.keepM e8 (fun k hk h => by have := r3_1.bk_ge k hk; (try dsimp only at h); omega)).keep e9).keepM e10 (fun k hk h => by have := r3_1.bk_ge k hk; (try dsimp only at h); omega)).keepM e11 (fun k hk h => by have := r3_1.bk_ge k hk; (try dsimp only at h); omega)), (OwnF.nil _ _ _ _), ((((((r4_1.keepM e8 (by intro k hk h; first | (have q1 := hF k hk; (try dsimp only at h); omega) | ((try dsimp only at hk); (try dsimp only at h); omega))).keep e9).keepM e10 (by intro k hk h; first | (have q1 := hF k hk; (try dsimp only at h); omega) | (have q1 := hF2 k hk; (try dsimp only at h); omega) | (have q1 := hFb k hk; (try dsimp only at h); omega) | ((try dsimp only at hk); (try dsimp only at h); omega))).keepM e11 (by intro k hk h; first | (have q1 := hF k hk; (try dsimp only at h); omega) | ((try dsimp only at hk); (try dsimp only at h); omega)))).weak (fun j hj => ⟨hj.1, by have := hj.2.1; omega, hj.2.2⟩)), ((((r5_1.keepM e8 (by intro k hk h; first | (have q1 := hF k hk; (try dsimp only at h); omega) | ((try dsimp only at hk); (try dsimp only at h); omega))).keep e9).keepM e10 (by intro k hk h; first | (have q1 := hF k hk; (try dsimp only at h); omega) | (have q1 := hF2 k hk; (try dsimp only at h); omega) | (have q1 := hFb k hk; (try dsimp only at h); omega) | ((try dsimp only at hk); (try dsimp only at h); omega))).keepM e11 (by intro k hk h; first | (have q1 := hF k hk; (try dsimp only at h); omega) | ((try dsimp only at hk); (try dsimp only at h); omega))), ((((r6_1.keepM e8 (by intro k hk h; first | (have q1 := hF k hk; (try dsimp only at h); omega) | ((try dsimp only at hk); (try dsimp only at h); omega))).keep e9).keepM e10 (by intro k hk h; first | (have q1 := hF k hk; (try dsimp only at h); omega) | (have q1 := hF2 k hk; (try dsimp only at h); omega) | (have q1 := hFb k hk; (try dsimp only at h); omega) | ((try dsimp only at hk); (try dsimp only at h); omega))).keepM e11 (by intro k hk h; first | (have q1 := hF k hk; (try dsimp only at h); omega) | ((try dsimp only at hk); (try dsimp only at h); omega))), ?_⟩
          exact ⟨Nat.zero_le _, Nat.zero_le _, Cn.Rds.start hL Cn.markB_ge hrv34⟩
        ·
          rintro ⟨ms, vm, kd, bd⟩ f_2 w12 ⟨s9_2, s2_2, s3_2, s4_2, s5_2, s6_2, s7_2, s8_2, e_2, r0_2, r1_2, r2_2, r3_2, r4_2, r5_2, r6_2, r7_2, r8_2, ⟨hm, hm9, hM⟩⟩
          have z_2 := e_2.size
          have r4_2s := r4_2.sl
          have r5_2s := r5_2.sl
          have hMl := nv34.isLt
          have hbl8 := (r3_2).lt
          have hbl6b := (r2_2).lt
          have hbl13b := (r0_2).lt
          have hbl2b := (r1_2).lt
          refine C.seqK fun K15 hK15 => ?_
          refine C.seqK fun K16 hK16 => ?_
          refine C.region ?_
          refine O.mv ?_
          refine O.gtrU (m := 64) (b := 0#64) s9_2 rfl ?_
          refine O.mv ?_
          refine O.splitD (x := .tmp 37) rfl (fun c37 => ?_) (fun c37 => ?_)
          ·
            have hm2 : ms.length < nv34.toNat := by have q := (Cn.pos_ofNat (m := nv34.toNat - ms.length) (by omega)).1 c37; omega
            refine O.yes rfl (isT rfl c37) ?_
            refine O.mv ?_
            refine O.yes rfl (isT rfl c37) ?_
            refine O.nilChk (Eq.trans s5_2 s5_1) ?_
            refine O.yes rfl (isT rfl c37) ?_
            refine O.fieldAd Tryz.underlying122 rfl Tryz.sizeOf4 (by decide) rfl ?_
            refine O.yes rfl (isT rfl c37) ?_
            refine O.loadO Tryz.isAgg4 rfl r0_2 rfl ?_
            refine O.yes rfl (isT rfl c37) ?_
            refine O.not rfl ?_
            refine O.pickT (isT rfl c37) ?_
            refine O.nil ?_
            refine hK16 _ _ ?_
            refine C.cond rfl (fun c43 => ?_) (fun c43 => ?_)
            ·
              obtain rfl : bd = false := by simpa using c43
              have hlm := (Cn.Rds.len Cn.markB_ge hM).1
              refine C.skip ?_
              refine hK15 _ _ ?_
              refine C.seqK fun K17 hK17 => ?_
              refine C.block fun K18 hK18 => ?_
              refine C.seqK fun K19 hK19 => ?_
              refine C.region ?_
              refine O.mv ?_
              refine O.call Tryz.call81 (args1 (Eq.trans s5_2 s5_1)) (xdot_spec b13 (slv p0) l kd false F _ r0_2 (hl.keep e_2) hM.1 (fun j hj => by have q1 := hF j hj; omega) hL) ?_
              rintro v_47 w13 ⟨dv47, knv47, bv47, rfl, hov47, hdv47, hrv47, e13⟩
              have z13 := e13.size
              refine O.build (cells := #[.int .i64 dv47.1, .int .i64 dv47.2, .int .i64 0, .int .u64 0]) rfl (by kernel_rfl) ?_
              refine O.alloc Tryz.zeroValue53 (fun b10 w14 hb10 hz10 e14 => ?_)
              have z14 := e14.size
              have h10 := hz10.own
              have hl10 := h10.lt
              refine O.storeA (vs := [.int .i64 dv47.1, .int .i64 dv47.2, .int .i64 0, .int .u64 0]) Tryz.sizeOf53 rfl rfl rfl (by simp [Value.oneCell']) h10 (Nat.le_of_ble_eq_true rfl) (fun w15 hs15 e15 z15 => ?_)
              refine O.nil ?_
              refine hK19 _ _ ?_
              refine C.seqK fun K20 hK20 => ?_
              refine C.region ?_
              refine O.mv ?_
              refine O.call Tryz.call79 (args1 (Eq.trans s5_2 s5_1)) (xnum_spec b13 (slv p0) l knv47 bv47 F _ ((hov47.keep e14).keepM e15 (by intro h; (try dsimp only at h); omega)) ((((hl.keep e_2).keepM e13 (by intro k hk h; first | (have q1 := hF k hk; (try dsimp only at h); omega) | ((try dsimp only at hk); (try dsimp only at h); omega))).keep e14).keepM e15 (by intro k hk h; first | (have q1 := hF k hk; (try dsimp only at h); omega) | (have q1 := hF2 k hk; (try dsimp only at h); omega) | (have q1 := hFb k hk; (try dsimp only at h); omega) | ((try dsimp only at hk); (try dsimp only at h); omega))) hrv47.1 (fun j hj => by have q1 := hF j hj; omega) hL) ?_
              rintro v_50 w16 ⟨nv50, knv50, bv50, rfl, hov50, hrv50, hzv50, e16⟩
              have z16 := e16.size
              refine O.convU64I Tryz.underlying49 Tryz.underlying3 rfl ?_
              refine O.fieldAd Tryz.underlying53 rfl Tryz.sizeOf3 (by decide) rfl ?_
              refine O.store Tryz.sizeOf3 rfl rfl rfl (hs15.keepM e16 (by intro h; (try dsimp only at h); omega)) (by simp) (fun w17 hs17 e17 z17 => ?_)
              try simp only [Int.toNat_natCast, Nat.zero_add, Nat.mul_one] at hs17
              refine O.nil ?_
              refine hK20 _ _ ?_
              refine C.seqK fun K21 hK21 => ?_
              refine C.region ?_
              refine O.mv ?_
              refine O.call Tryz.call79 (args1 (Eq.trans s5_2 s5_1)) (xnum_spec b13 (slv p0) l knv50 bv50 F _ (hov50.keepM e17 (by intro h; (try dsimp only at h); omega)) ((((((hl.keep e_2).keepM e13 (by intro k hk h; first | (have q1 := hF k hk; (try dsimp only at h); omega) | ((try dsimp only at hk); (try dsimp only at h); omega))).keep e14).keepM e15 (by intro k hk h; first | (have q1 := hF k hk; (try dsimp only at h); omega) | (have q1 := hF2 k hk; (try dsimp only at h); omega) | (have q1 := hFb k hk; (try dsimp only at h); omega) | ((try dsimp only at hk); (try dsimp only at h); omega))).keepM e16 (by intro k hk h; first | (have q1 := hF k hk; (try dsimp only at h); omega) | ((try dsimp only at hk); (try dsimp only at h); omega))).keepM e17 (by intro k hk h; first | (have q1 := hF k hk; (try dsimp only at h); omega) | (have q1 := hF2 k hk; (try dsimp only at h); omega) | (have q1 := hFb k hk; (try dsimp only at h); omega) | ((try dsimp only at hk); (try dsimp only at h); omega))) hrv50.1 (fun j hj => by have q1 := hF j hj; omega) hL) ?_
              rintro v_54 w18 ⟨nv54, knv54, bv54, rfl, hov54, hrv54, hzv54, e18⟩
              have z18 := e18.size
              refine O.fieldAd Tryz.underlying53 rfl Tryz.sizeOf49 (by decide) rfl ?_
              refine O.store Tryz.sizeOf49 rfl rfl rfl (hs17.keepM e18 (by intro h; (try dsimp only at h); omega)) (by simp) (fun w19 hs19 e19 z19 => ?_)
              try simp only [Int.toNat_natCast, Nat.zero_add, Nat.mul_one] at hs19
              refine O.nil ?_
              refine hK21 _ _ ?_
              refine C.region ?_
              refine O.fieldAd Tryz.underlying56 rfl Tryz.sizeOf54 (by decide) s8_2 ?_
              refine O.loadO Tryz.isAgg54 rfl (((((((r3_2.keepM e13 (by intro h; (try dsimp only at h); omega)).keep e14).keepM e15 (by intro h; (try dsimp only at h); omega)).keepM e16 (by intro h; (try dsimp only at h); omega)).keepM e17 (by intro h; (try dsimp only at h); omega)).keepM e18 (by intro h; (try dsimp only at h); omega)).keepM e19 (by intro h; (try dsimp only at h); omega)) rfl ?_
              refine O.loadOA Tryz.isAgg53 Tryz.sizeOf53 rfl hs19 (Nat.le_of_ble_eq_true rfl) ?_
              refine O.cast (v' := mv (dv47, nv50.toInt, nv54)) rfl ?_
              refine O.litG (G := markF) [(dv47, nv50.toInt, nv54)] Tryz.underlying54 ti53 ts53 tz53 rfl (by decide) (by decide) rfl (fun b59 w20 hb59 hz59 e20 => ?_)
              have z20 := e20.size
              have h59 := hz59.own
              have hq59 := Sl.litG (n := 1) h59 rfl (by unfold maxLen; omega)
              refine O.appF (G := markF) Tryz.underlying54 ti53 tz53 ts53 rfl rfl rfl ((((((((r5_2.keepM e13 (fun k hk h => by have := r5_2.bk_ge k hk; (try dsimp only at h); omega)).keep e14).keepM e15 (fun k hk h => by have := r5_2.bk_ge k hk; (try dsimp only at h); omega)).keepM e16 (fun k hk h => by have := r5_2.bk_ge k hk; (try dsimp only at h); omega)).keepM e17 (fun k hk h => by have := r5_2.bk_ge k hk; (try dsimp only at h); omega)).keepM e18 (fun k hk h => by have := r5_2.bk_ge k hk; (try dsimp only at h); omega)).keepM e19 (fun k hk h => by have := r5_2.bk_ge k hk; (try dsimp only at h); omega)).keep e20) hq59 (by rw [tb53]; simp; omega) (by unfold maxLen; simp; omega) (by omega) (fun v60 w21 h60 e21 => ?_)
              have e21m : Ext (fun j => w.heap.size ≤ j) w20 w21 := e21.mono (fun j _ hj => by have := ((((((((r5_2.keepM e13 (fun k hk h => by have := r5_2.bk_ge k hk; (try dsimp only at h); omega)).keep e14).keepM e15 (fun k hk h => by have := r5_2.bk_ge k hk; (try dsimp only at h); omega)).keepM e16 (fun k hk h => by have := r5_2.bk_ge k hk; (try dsimp only at h); omega)).keepM e17 (fun k hk h => by have := r5_2.bk_ge k hk; (try dsimp only at h); omega)).keepM e18 (fun k hk h => by have := r5_2.bk_ge k hk; (try dsimp only at h); omega)).keepM e19 (fun k hk h => by have := r5_2.bk_ge k hk; (try dsimp only at h); omega)).keep e20).bk_ge j hj; omega)
              have z21 := e21.size
              have h60s := h60.sl
              refine O.fieldAd Tryz.underlying56 rfl Tryz.sizeOf54 (by decide) s8_2 ?_
              refine O.store Tryz.sizeOf54 rfl rfl h60.one (((((((((r3_2.keepM e13 (by intro h; (try dsimp only at h); omega)).keep e14).keepM e15 (by intro h; (try dsimp only at h); omega)).keepM e16 (by intro h; (try dsimp only at h); omega)).keepM e17 (by intro h; (try dsimp only at h); omega)).keepM e18 (by intro h; (try dsimp only at h); omega)).keepM e19 (by intro h; (try dsimp only at h); omega)).keep e20).keepM e21 (by intro h; have := ((((((((r5_2.keepM e13 (fun k hk h => by have := r5_2.bk_ge k hk; (try dsimp only at h); omega)).keep e14).keepM e15 (fun k hk h => by have := r5_2.bk_ge k hk; (try dsimp only at h); omega)).keepM e16 (fun k hk h => by have := r5_2.bk_ge k hk; (try dsimp only at h); omega)).keepM e17 (fun k hk h => by have := r5_2.bk_ge k hk; (try dsimp only at h); omega)).keepM e18 (fun k hk h => by have := r5_2.bk_ge k hk; (try dsimp only at h); omega)).keepM e19 (fun k hk h => by have := r5_2.bk_ge k hk; (try dsimp only at h); omega)).keep e20).bk_ge _ h; omega)) (by simp) (fun w22 hs22 e22 z22 => ?_)
              try simp only [Int.toNat_natCast, Nat.zero_add, Nat.mul_one] at hs22
              refine O.nil ?_
              refine hK18 _ _ ?_
              refine hK17 _ _ ?_
              refine C.region ?_
              refine O.mv ?_
              refine O.subU (m := 64) (b := 1#64) rfl rfl s9_2 rfl ?_
              refine O.asg ?_
              refine O.nil ?_
              refine ⟨(ms ++ [(dv47, nv50.toInt, nv54)], v60, knv54, bv54), ⟨(Eq.trans rfl (congrArg (fun q : BitVec 64 => Value.int .u64 (q.toNat : Int)) (by rw [Cn.dec_ofNat (by omega) (by omega), List.length_append]; rfl))), s2_2, s3_2, s4_2, s5_2, s6_2, s7_2, s8_2, (Ext.new (Ext.new (Ext.trans (Ext.new (Ext.new (Ext.new (Ext.new (Ext.new (Ext.trans (Ext.new e_2 e13 (by rintro i hi rfl; omega)) e14) e15 (by rintro i hi rfl; omega)) e16 (by rintro i hi rfl; omega)) e17 (by rintro i hi rfl; omega)) e18 (by rintro i hi rfl; omega)) e19 (by rintro i hi rfl; omega)) e20) e21 (by intro i hi h; have := ((((((((r5_2.keepM e13 (fun k hk h => by have := r5_2.bk_ge k hk; (try dsimp only at h); omega)).keep e14).keepM e15 (fun k hk h => by have := r5_2.bk_ge k hk; (try dsimp only at h); omega)).keepM e16 (fun k hk h => by have := r5_2.bk_ge k hk; (try dsimp only at h); omega)).keepM e17 (fun k hk h => by have := r5_2.bk_ge k hk; (try dsimp only at h); omega)).keepM e18 (fun k hk h => by have := r5_2.bk_ge k hk; (try dsimp only at h); omega)).keepM e19 (fun k hk h => by have := r5_2.bk_ge k hk; (try dsimp only at h); omega)).keep e20).bk_ge i h; omega)) e22 (by rintro i hi rfl; omega)), ((((hov54.keepM e19 (by intro h; (try dsimp only at h); omega)).keep e20).keepM e21 (by intro h; have := ((((((((r5_2.keepM e13 (fun k hk h => by have := r5_2.bk_ge k hk; (try dsimp only at h); omega)).keep e14).keepM e15 (fun k hk h => by have := r5_2.bk_ge k hk; (try dsimp only at h); omega)).keepM e16 (fun k hk h => by have := r5_2.bk_ge k hk; (try dsimp only at h); omega)).keepM e17 (fun k hk h => by have := r5_2.bk_ge k hk; (try dsimp only at h); omega)).keepM e18 (fun k hk h => by have := r5_2.bk_ge k hk; (try dsimp only at h); omega)).keepM e19 (fun k hk h => by have := r5_2.bk_ge k hk; (try dsimp only at h); omega)).keep e20).bk_ge _ h; omega)).keepM e22 (by intro h; (try dsimp only at h); omega)), ((((((((((r1_2.keepM e13 (by intro h; (try dsimp only at h); omega)).keep e14).keepM e15 (by intro h; (try dsimp only at h); omega)).keepM e16 (by intro h; (try dsimp only at h); omega)).keepM e17 (by intro h; (try dsimp only at h); omega)).keepM e18 (by intro h; (try dsimp only at h); omega)).keepM e19 (by intro h; (try dsimp only at h); omega)).keep e20).keepM e21 (by intro h; have := ((((((((r5_2.keepM e13 (fun k hk h => by have := r5_2.bk_ge k hk; (try dsimp only at h); omega)).keep e14).keepM e15 (fun k hk h => by have := r5_2.bk_ge k hk; (try dsimp only at h); omega)).keepM e16 (fun k hk h => by have := r5_2.bk_ge k hk; (try dsimp only at h); omega)).keepM e17 (fun k hk h => by have := r5_2.bk_ge k hk; (try dsimp only at h); omega)).keepM e18 (fun k hk h => by have := r5_2.bk_ge k hk; (try dsimp only at h); omega)).keepM e19 (fun k hk h => by have := r5_2.bk_ge k hk; (try dsimp only at h); omega)).keep e20).bk_ge _ h; omega)).keepM e22 (by intro h; (try dsimp only at h); omega)), ((((((((((r2_2.keepM e13 (by intro h; (try dsimp only at h); omega)).keep e14).keepM e15 (by intro h; (try dsimp only at h); omega)).keepM e16 (by intro h; (try dsimp only at h); omega)).keepM e17 (by intro h; (try dsimp only at h); omega)).keepM e18 (by intro h; (try dsimp only at h); omega)).keepM e19 (by intro h; (try dsimp only at h); omega)).keep e20).keepM e21 (by intro h; have := ((((((((r5_2.keepM e13 (fun k hk h => by have := r5_2.bk_ge k hk; (try dsimp only at h); omega)).keep e14).keepM e15 (fun k hk h => by have := r5_2.bk_ge k hk; (try dsimp only at h); omega)).keepM e16 (fun k hk h => by have := r5_2.bk_ge k hk; (try dsimp only at h); omega)).keepM e17 (fun k hk h => by have := r5_2.bk_ge k hk; (try dsimp only at h); omega)).keepM e18 (fun k hk h => by have := r5_2.bk_ge k hk; (try dsimp only at h); omega)).keepM e19 (fun k hk h => by have := r5_2.bk_ge k hk; (try dsimp only at h); omega)).keep e20).bk_ge _ h; omega)).keepM e22 (by intro h; (try dsimp only at h); omega)), hs22, ((((((((((r4_2.keepM e13 (fun k hk h => by have := r4_2.bk_ge k hk; (try dsimp only at h); omega)).keep e14).keepM e15 (fun k hk h => by have := r4_2.bk_ge k hk; (try dsimp only at h); omega)).keepM e16 (fun k hk h => by have := r4_2.bk_ge k hk; (try dsimp only at h); omega)).keepM e17 (fun k hk h => by have := r4_2.bk_ge k hk; (try dsimp only at h); omega)).keepM e18 (fun k hk h => by have := r4_2.bk_ge k hk; (try dsimp only at h); omega)).keepM e19 (fun k hk h => by have := r4_2.bk_ge k hk; (try dsimp only at h); omega)).keep e20).keepM e21 (fun j hj h => by have q1 := hob8 j hj; have q2 := ((((((((r5_2.keepM e13 (fun k hk h => by have := r5_2.bk_ge k hk; (try dsimp only at h); omega)).keep e14).keepM e15 (fun k hk h => by have := r5_2.bk_ge k hk; (try dsimp only at h); omega)).keepM e16 (fun k hk h => by have := r5_2.bk_ge k hk; (try dsimp only at h); omega)).keepM e17 (fun k hk h => by have := r5_2.bk_ge k hk; (try dsimp only at h); omega)).keepM e18 (fun k hk h => by have := r5_2.bk_ge k hk; (try dsimp only at h); omega)).keepM e19 (fun k hk h => by have := r5_2.bk_ge k hk; (try dsimp only at h); omega)).keep e20).bk_ge j h; omega)).keepM e22 (fun j hj h => by have q1 := hob8 j hj; (try dsimp only at h); omega)), (h60.keepM e22 (fun k hk h => by have := h60.bk_ge k hk; (try dsimp only at h); omega)), ((((((((((r6_2.keepM e13 (by intro k hk h; first | (have q1 := hF k hk; (try dsimp only at h); omega) | ((try dsimp only at hk); (try dsimp only at h); omega))).keep e14).keepM e15 (by intro k hk h; first | (have q1 := hF k hk; (try dsimp only at h); omega) | (have q1 := hF2 k hk; (try dsimp only at h); omega) | (have q1 := hFb k hk; (try dsimp only at h); omega) | ((try dsimp only at hk); (try dsimp only at h); omega))).keepM e16 (by intro k hk h; first | (have q1 := hF k hk; (try dsimp only at h); omega) | ((try dsimp only at hk); (try dsimp only at h); omega))).keepM e17 (by intro k hk h; first | (have q1 := hF k hk; (try dsimp only at h); omega) | (have q1 := hF2 k hk; (try dsimp only at h); omega) | (have q1 := hFb k hk; (try dsimp only at h); omega) | ((try dsimp only at hk); (try dsimp only at h); omega))).keepM e18 (by intro k hk h; first | (have q1 := hF k hk; (try dsimp only at h); omega) | ((try dsimp only at hk); (try dsimp only at h); omega))).keepM e19 (by intro k hk h; first | (have q1 := hF k hk; (try dsimp only at h); omega) | (have q1 := hF2 k hk; (try dsimp only at h); omega) | (have q1 := hFb k hk; (try dsimp only at h); omega) | ((try dsimp only at hk); (try dsimp only at h); omega))).keep e20).keepM e21 (fun j hj h => by have q1 := hj.2.1; have q2 := ((((((((r5_2.keepM e13 (fun k hk h => by have := r5_2.bk_ge k hk; (try dsimp only at h); omega)).keep e14).keepM e15 (fun k hk h => by have := r5_2.bk_ge k hk; (try dsimp only at h); omega)).keepM e16 (fun k hk h => by have := r5_2.bk_ge k hk; (try dsimp only at h); omega)).keepM e17 (fun k hk h => by have := r5_2.bk_ge k hk; (try dsimp only at h); omega)).keepM e18 (fun k hk h => by have := r5_2.bk_ge k hk; (try dsimp only at h); omega)).keepM e19 (fun k hk h => by have := r5_2.bk_ge k hk; (try dsimp only at h); omega)).keep e20).bk_ge j h; omega)).keepM e22 (by intro k hk h; first | (have q1 := hF k hk; (try dsimp only at h); omega) | (have q1 := hF2 k hk; (try dsimp only at h); omega) | (have q1 := hFb k hk; (try dsimp only at h); omega) | ((try dsimp only at hk); (try dsimp only at h); omega))), ((((((((((r7_2.keepM e13 (by intro k hk h; first | (have q1 := hF k hk; (try dsimp only at h); omega) | ((try dsimp only at hk); (try dsimp only at h); omega))).keep e14).keepM e15 (by intro k hk h; first | (have q1 := hF k hk; (try dsimp only at h); omega) | (have q1 := hF2 k hk; (try dsimp only at h); omega) | (have q1 := hFb k hk; (try dsimp only at h); omega) | ((try dsimp only at hk); (try dsimp only at h); omega))).keepM e16 (by intro k hk h; first | (have q1 := hF k hk; (try dsimp only at h); omega) | ((try dsimp only at hk); (try dsimp only at h); omega))).keepM e17 (by intro k hk h; first | (have q1 := hF k hk; (try dsimp only at h); omega) | (have q1 := hF2 k hk; (try dsimp only at h); omega) | (have q1 := hFb k hk; (try dsimp only at h); omega) | ((try dsimp only at hk); (try dsimp only at h); omega))).keepM e18 (by intro k hk h; first | (have q1 := hF k hk; (try dsimp only at h); omega) | ((try dsimp only at hk); (try dsimp only at h); omega))).keepM e19 (by intro k hk h; first | (have q1 := hF k hk; (try dsimp only at h); omega) | (have q1 := hF2 k hk; (try dsimp only at h); omega) | (have q1 := hFb k hk; (try dsimp only at h); omega) | ((try dsimp only at hk); (try dsimp only at h); omega))).keep e20).keepM e21 (by intro j hj h; have q2 := ((((((((r5_2.keepM e13 (fun k hk h => by have := r5_2.bk_ge k hk; (try dsimp only at h); omega)).keep e14).keepM e15 (fun k hk h => by have := r5_2.bk_ge k hk; (try dsimp only at h); omega)).keepM e16 (fun k hk h => by have := r5_2.bk_ge k hk; (try dsimp only at h); omega)).keepM e17 (fun k hk h => by have := r5_2.bk_ge k hk; (try dsimp only at h); omega)).keepM e18 (fun k hk h => by have := r5_2.bk_ge k hk; (try dsimp only at h); omega)).keepM e19 (fun k hk h => by have := r5_2.bk_ge k hk; (try dsimp only at h); omega)).keep e20).bk_ge j h; first | (have q1 := hF j hj; omega) | ((try dsimp only at hj); omega))).keepM e22 (by intro k hk h; first | (have q1 := hF k hk; (try dsimp only at h); omega) | (have q1 := hF2 k hk; (try dsimp only at h); omega) | (have q1 := hFb k hk; (try dsimp only at h); omega) | ((try dsimp only at hk); (try dsimp only at h); omega))), ((((((((((r8_2.keepM e13 (by intro k hk h; first | (have q1 := hF k hk; (try dsimp only at h); omega) | ((try dsimp only at hk); (try dsimp only at h); omega))).keep e14).keepM e15 (by intro k hk h; first | (have q1 := hF k hk; (try dsimp only at h); omega) | (have q1 := hF2 k hk; (try dsimp only at h); omega) | (have q1 := hFb k hk; (try dsimp only at h); omega) | ((try dsimp only at hk); (try dsimp only at h); omega))).keepM e16 (by intro k hk h; first | (have q1 := hF k hk; (try dsimp only at h); omega) | ((try dsimp only at hk); (try dsimp only at h); omega))).keepM e17 (by intro k hk h; first | (have q1 := hF k hk; (try dsimp only at h); omega) | (have q1 := hF2 k hk; (try dsimp only at h); omega) | (have q1 := hFb k hk; (try dsimp only at h); omega) | ((try dsimp only at hk); (try dsimp only at h); omega))).keepM e18 (by intro k hk h; first | (have q1 := hF k hk; (try dsimp only at h); omega) | ((try dsimp only at hk); (try dsimp only at h); omega))).keepM e19 (by intro k hk h; first | (have q1 := hF k hk; (try dsimp only at h); omega) | (have q1 := hF2 k hk; (try dsimp only at h); omega) | (have q1 := hFb k hk; (try dsimp only at h); omega) | ((try dsimp only at hk); (try dsimp only at h); omega))).keep e20).keepM e21 (by intro j hj h; have q2 := ((((((((r5_2.keepM e13 (fun k hk h => by have := r5_2.bk_ge k hk; (try dsimp only at h); omega)).keep e14).keepM e15 (fun k hk h => by have := r5_2.bk_ge k hk; (try dsimp only at h); omega)).keepM e16 (fun k hk h => by have := r5_2.bk_ge k hk; (try dsimp only at h); omega)).keepM e17 (fun k hk h => by have := r5_2.bk_ge k hk; (try dsimp only at h); omega)).keepM e18 (fun k hk h => by have := r5_2.bk_ge k hk; (try dsimp only at h); omega)).keepM e19 (fun k hk h => by have := r5_2.bk_ge k hk; (try dsimp only at h); omega)).keep e20).bk_ge j h; first | (have q1 := hF j hj; omega) | ((try dsimp only at hj); omega))).keepM e22 (by intro k hk h; first | (have q1 := hF k hk; (try dsimp only at h); omega) | (have q1 := hF2 k hk; (try dsimp only at h); omega) | (have q1 := hFb k hk; (try dsimp only at h); omega) | ((try dsimp only at hk); (try dsimp only at h); omega))), ?_⟩, by show nv34.toNat - (ms ++ [_]).length < nv34.toNat - ms.length; rw [List.length_append]; show nv34.toNat - (ms.length + 1) < _; omega⟩
              exact ⟨by rw [List.length_append]; exact hm2, by rw [List.length_append]; show ms.length + 1 ≤ _; omega, Cn.Rds.next Cn.pre_mark hM hm2 (Cn.markR_mk hdv47) (Cn.Rd.mark hrv47 hdv47 hrv50 hrv54)⟩
            ·
              have hm4 : bd = true := by simpa using c43
              have hmd : Cn.Rd (Cn.manyQ Cn.markR) (Cn.manyB Cn.markB) l knv31 bv31 ms kd bd := Cn.Rds.done hM (by first | (left; omega) | exact .inr hm4)
              have hpb := (r5_2).bk_ge
              have hsm := (r5_2).sl
              obtain ⟨pm, rfl⟩ := hsm.slv
              refine C.exit ?_
              refine hK14 _ _ ?_
              refine hK12 _ _ ?_
              refine C.region ?_
              refine O.fieldAd Tryz.underlying28 rfl Tryz.sizeOf26 (by decide) (Eq.trans s6_2 s6_1) ?_
              refine O.loadO Tryz.isAgg26 rfl r2_2 rfl ?_
              refine O.loadOA Tryz.isAgg56 Tryz.sizeOf56 s8_2 r3_2 (Nat.le_of_ble_eq_true rfl) ?_
              refine O.cast (v' := .agg #[str sv31, slv pm]) rfl ?_
              refine O.litG (G := itemF) [(sv31, pm)] Tryz.underlying26 ti56 ts56 tz56 rfl (by decide) (by decide) rfl (fun b65 w23 hb65 hz65 e23 => ?_)
              have z23 := e23.size
              have h65 := hz65.own
              have hq65 := Sl.litG (n := 1) h65 rfl (by unfold maxLen; omega)
              refine O.appW (G := itemF) Tryz.underlying26 ti56 tz56 ts56 rfl rfl rfl (r4_2.keep e23) hq65 (by rw [tb56, hit.1]; simp; omega) (by unfold maxLen; rw [hit.1]; simp; omega) (by omega) (fun v66 w24 h66 e24 hw66 => ?_)
              have e24m : Ext (fun j => w.heap.size ≤ j) w23 w24 := e24.mono (fun j _ hj => by have := (r4_2.keep e23).bk_ge j hj; omega)
              have z24 := e24.size
              have h66s := h66.sl
              have hit66 : Items w24 (fun j => b6 < j ∧ j < w24.heap.size ∧ ¬ bk v66 j) (raw ++ [(sv31, pm)]) (its ++ [(sv31, ms)]) := ((((r6_2.keep e23).keepM e24 (fun j hj h => hj.2.2 h))).weak (fun j hj => ⟨hj.1, by have := hj.2.1; omega, fun hq => by
                rcases hw66 j hq with q | q
                · exact hj.2.2 q
                · have := hj.2.1; omega⟩)).snoc (x := (sv31, ms)) rfl ((((hsm.keep e23).keepM e24 (fun j hj h => by have q1 := hob8 j h; have q2 := hpb j hj; omega))).weak (fun j hj => by
                have q2 := hpb j hj
                refine ⟨by omega, by omega, fun hq => ?_⟩
                rcases hw66 j hq with q | q
                · have := hob8 j q; omega
                · omega))
              refine O.fieldAd Tryz.underlying28 rfl Tryz.sizeOf26 (by decide) (Eq.trans s6_2 s6_1) ?_
              refine O.store Tryz.sizeOf26 rfl rfl h66.one ((r2_2.keep e23).keepM e24 (by intro h; have := (r4_2.keep e23).bk_ge _ h; omega)) (by simp) (fun w25 hs25 e25 z25 => ?_)
              try simp only [Int.toNat_natCast, Nat.zero_add, Nat.mul_one] at hs25
              refine O.nil ?_
              refine hK10 _ _ ?_
              refine hK9 _ _ ?_
              refine C.region ?_
              refine O.mv ?_
              refine O.subU (m := 64) (b := 1#64) rfl rfl (Eq.trans s7_2 s7_1) rfl ?_
              refine O.asg ?_
              refine O.nil ?_
              refine ⟨(its ++ [(sv31, ms)], raw ++ [(sv31, pm)], v66, kd, bd), ⟨(Eq.trans rfl (congrArg (fun q : BitVec 64 => Value.int .u64 (q.toNat : Int)) (by rw [Cn.dec_ofNat (by omega) (by omega), List.length_append]; rfl))), (Eq.trans s2_2 s2_1), (Eq.trans s3_2 s3_1), (Eq.trans s4_2 s4_1), (Eq.trans s5_2 s5_1), (Eq.trans s6_2 s6_1), (Ext.new (Ext.new (Ext.trans e_2 e23) e24 (by intro i hi h; have := (r4_2.keep e23).bk_ge i h; omega)) e25 (by rintro i hi rfl; omega)), (((r0_2.keep e23).keepM e24 (by intro h; have := (r4_2.keep e23).bk_ge _ h; omega)).keepM e25 (by intro h; (try dsimp only at h); omega)), (((r1_2.keep e23).keepM e24 (by intro h; have := (r4_2.keep e23).bk_ge _ h; omega)).keepM e25 (by intro h; (try dsimp only at h); omega)), hs25, (h66.keepM e25 (fun k hk h => by have := h66.bk_ge k hk; (try dsimp only at h); omega)), (((hit66.keepM e25 (by intro k hk h; first | (have q1 := hF k hk; (try dsimp only at h); omega) | (have q1 := hF2 k hk; (try dsimp only at h); omega) | (have q1 := hFb k hk; (try dsimp only at h); omega) | ((try dsimp only at hk); (try dsimp only at h); omega)))).weak (fun j hj => ⟨hj.1, by have := hj.2.1; omega, hj.2.2⟩)), (((r7_2.keep e23).keepM e24 (by intro j hj h; have q2 := (r4_2.keep e23).bk_ge j h; first | (have q1 := hF j hj; omega) | ((try dsimp only at hj); omega))).keepM e25 (by intro k hk h; first | (have q1 := hF k hk; (try dsimp only at h); omega) | (have q1 := hF2 k hk; (try dsimp only at h); omega) | (have q1 := hFb k hk; (try dsimp only at h); omega) | ((try dsimp only at hk); (try dsimp only at h); omega))), (((r8_2.keep e23).keepM e24 (by intro j hj h; have q2 := (r4_2.keep e23).bk_ge j h; first | (have q1 := hF j hj; omega) | ((try dsimp only at hj); omega))).keepM e25 (by intro k hk h; first | (have q1 := hF k hk; (try dsimp only at h); omega) | (have q1 := hF2 k hk; (try dsimp only at h); omega) | (have q1 := hFb k hk; (try dsimp only at h); omega) | ((try dsimp only at hk); (try dsimp only at h); omega))), ?_⟩, by show nv18.toNat - (its ++ [_]).length < nv18.toNat - its.length; rw [List.length_append]; show nv18.toNat - (its.length + 1) < _; omega⟩
              exact ⟨by rw [List.length_append]; exact hj2, by rw [List.length_append]; show its.length + 1 ≤ _; omega, Cn.manyQ_snoc hB ⟨by show sv31.length ≤ 1000000; omega, by show ms.length ≤ 1000000; omega⟩, Cn.Rds.next Cn.pre_itemR hR hj2 hM.2.1 (Cn.Rd.item hrv31 hmd)⟩
          ·
            have hm3 : ms.length = nv34.toNat := by have q := mt (Cn.pos_ofNat (m := nv34.toNat - ms.length) (by omega)).2 c37; omega
            have hmd : Cn.Rd (Cn.manyQ Cn.markR) (Cn.manyB Cn.markB) l knv31 bv31 ms kd bd := Cn.Rds.done hM (by first | (left; omega) | exact .inr hm4)
            have hpb := (r5_2).bk_ge
            have hsm := (r5_2).sl
            obtain ⟨pm, rfl⟩ := hsm.slv
            refine O.no rfl (noB (isF rfl c37) rfl) ?_
            refine O.no rfl (noB (isF rfl c37) rfl) ?_
            refine O.no rfl (noB (isF rfl c37) rfl) ?_
            refine O.no rfl (noB (isF rfl c37) rfl) ?_
            refine O.no rfl (noB (isF rfl c37) rfl) ?_
            refine O.pickF (isF rfl c37) ?_
            refine O.nil ?_
            refine hK16 _ _ ?_
            refine C.condF rfl ?_
            refine C.exit ?_
            refine hK14 _ _ ?_
            refine hK12 _ _ ?_
            refine C.region ?_
            refine O.fieldAd Tryz.underlying28 rfl Tryz.sizeOf26 (by decide) (Eq.trans s6_2 s6_1) ?_
            refine O.loadO Tryz.isAgg26 rfl r2_2 rfl ?_
            refine O.loadOA Tryz.isAgg56 Tryz.sizeOf56 s8_2 r3_2 (Nat.le_of_ble_eq_true rfl) ?_
            refine O.cast (v' := .agg #[str sv31, slv pm]) rfl ?_
            refine O.litG (G := itemF) [(sv31, pm)] Tryz.underlying26 ti56 ts56 tz56 rfl (by decide) (by decide) rfl (fun b65 w26 hb65 hz65 e26 => ?_)
            have z26 := e26.size
            have h65 := hz65.own
            have hq65 := Sl.litG (n := 1) h65 rfl (by unfold maxLen; omega)
            refine O.appW (G := itemF) Tryz.underlying26 ti56 tz56 ts56 rfl rfl rfl (r4_2.keep e26) hq65 (by rw [tb56, hit.1]; simp; omega) (by unfold maxLen; rw [hit.1]; simp; omega) (by omega) (fun v66 w27 h66 e27 hw66 => ?_)
            have e27m : Ext (fun j => w.heap.size ≤ j) w26 w27 := e27.mono (fun j _ hj => by have := (r4_2.keep e26).bk_ge j hj; omega)
            have z27 := e27.size
            have h66s := h66.sl
            have hit66 : Items w27 (fun j => b6 < j ∧ j < w27.heap.size ∧ ¬ bk v66 j) (raw ++ [(sv31, pm)]) (its ++ [(sv31, ms)]) := ((((r6_2.keep e26).keepM e27 (fun j hj h => hj.2.2 h))).weak (fun j hj => ⟨hj.1, by have := hj.2.1; omega, fun hq => by
              rcases hw66 j hq with q | q
              · exact hj.2.2 q
              · have := hj.2.1; omega⟩)).snoc (x := (sv31, ms)) rfl ((((hsm.keep e26).keepM e27 (fun j hj h => by have q1 := hob8 j h; have q2 := hpb j hj; omega))).weak (fun j hj => by
              have q2 := hpb j hj
              refine ⟨by omega, by omega, fun hq => ?_⟩
              rcases hw66 j hq with q | q
              · have := hob8 j q; omega
              · omega))
            refine O.fieldAd Tryz.underlying28 rfl Tryz.sizeOf26 (by decide) (Eq.trans s6_2 s6_1) ?_
            refine O.store Tryz.sizeOf26 rfl rfl h66.one ((r2_2.keep e26).keepM e27 (by intro h; have := (r4_2.keep e26).bk_ge _ h; omega)) (by simp) (fun w28 hs28 e28 z28 => ?_)
            try simp only [Int.toNat_natCast, Nat.zero_add, Nat.mul_one] at hs28
            refine O.nil ?_
            refine hK10 _ _ ?_
            refine hK9 _ _ ?_
            refine C.region ?_
            refine O.mv ?_
            refine O.subU (m := 64) (b := 1#64) rfl rfl (Eq.trans s7_2 s7_1) rfl ?_
            refine O.asg ?_
            refine O.nil ?_
            refine ⟨(its ++ [(sv31, ms)], raw ++ [(sv31, pm)], v66, kd, bd), ⟨(Eq.trans rfl (congrArg (fun q : BitVec 64 => Value.int .u64 (q.toNat : Int)) (by rw [Cn.dec_ofNat (by omega) (by omega), List.length_append]; rfl))), (Eq.trans s2_2 s2_1), (Eq.trans s3_2 s3_1), (Eq.trans s4_2 s4_1), (Eq.trans s5_2 s5_1), (Eq.trans s6_2 s6_1), (Ext.new (Ext.new (Ext.trans e_2 e26) e27 (by intro i hi h; have := (r4_2.keep e26).bk_ge i h; omega)) e28 (by rintro i hi rfl; omega)), (((r0_2.keep e26).keepM e27 (by intro h; have := (r4_2.keep e26).bk_ge _ h; omega)).keepM e28 (by intro h; (try dsimp only at h); omega)), (((r1_2.keep e26).keepM e27 (by intro h; have := (r4_2.keep e26).bk_ge _ h; omega)).keepM e28 (by intro h; (try dsimp only at h); omega)), hs28, (h66.keepM e28 (fun k hk h => by have := h66.bk_ge k hk; (try dsimp only at h); omega)), (((hit66.keepM e28 (by intro k hk h; first | (have q1 := hF k hk; (try dsimp only at h); omega) | (have q1 := hF2 k hk; (try dsimp only at h); omega) | (have q1 := hFb k hk; (try dsimp only at h); omega) | ((try dsimp only at hk); (try dsimp only at h); omega)))).weak (fun j hj => ⟨hj.1, by have := hj.2.1; omega, hj.2.2⟩)), (((r7_2.keep e26).keepM e27 (by intro j hj h; have q2 := (r4_2.keep e26).bk_ge j h; first | (have q1 := hF j hj; omega) | ((try dsimp only at hj); omega))).keepM e28 (by intro k hk h; first | (have q1 := hF k hk; (try dsimp only at h); omega) | (have q1 := hF2 k hk; (try dsimp only at h); omega) | (have q1 := hFb k hk; (try dsimp only at h); omega) | ((try dsimp only at hk); (try dsimp only at h); omega))), (((r8_2.keep e26).keepM e27 (by intro j hj h; have q2 := (r4_2.keep e26).bk_ge j h; first | (have q1 := hF j hj; omega) | ((try dsimp only at hj); omega))).keepM e28 (by intro k hk h; first | (have q1 := hF k hk; (try dsimp only at h); omega) | (have q1 := hF2 k hk; (try dsimp only at h); omega) | (have q1 := hFb k hk; (try dsimp only at h); omega) | ((try dsimp only at hk); (try dsimp only at h); omega))), ?_⟩, by show nv18.toNat - (its ++ [_]).length < nv18.toNat - its.length; rw [List.length_append]; show nv18.toNat - (its.length + 1) < _; omega⟩
            exact ⟨by rw [List.length_append]; exact hj2, by rw [List.length_append]; show its.length + 1 ≤ _; omega, Cn.manyQ_snoc hB ⟨by show sv31.length ≤ 1000000; omega, by show ms.length ≤ 1000000; omega⟩, Cn.Rds.next Cn.pre_itemR hR hj2 hM.2.1 (Cn.Rd.item hrv31 hmd)⟩
      ·
        have hj4 : bc = true := by simpa using c27
        have hdn : Cn.Rd (Cn.manyQ Cn.itemR) (Cn.manyB Cn.itemB) l knv15 bv15 its kc bc := Cn.Rds.done hR (by first | (left; omega) | exact .inr hj4)
        have hit := r4_1
        have hob2 := (r3_1).bk_ge
        obtain ⟨wq, hwq⟩ : ∃ x, x = w7 := ⟨_, rfl⟩
        have hzq : wq.heap.size = w7.heap.size := by rw [hwq]
        have hsi : Sl itemE w7 (fun j => b6 < j ∧ j < wq.heap.size) o its := (hit.weak (by intro j hj; have q1 := hj.1; have q := hj.2.1; show b6 < j ∧ j < wq.heap.size; omega)).sl ((r3_1).sl.weak (by intro j hj; have q := hob2 j hj; show b6 < j ∧ j < wq.heap.size; omega))
        refine C.exit ?_
        refine hK6 _ _ ?_
        refine hK4 _ _ ?_
        refine C.seqK fun K22 hK22 => ?_
        refine C.seqK fun K23 hK23 => ?_
        refine C.region ?_
        refine O.mv ?_
        refine O.nilChk s5_1 ?_
        refine O.fieldAd Tryz.underlying122 rfl Tryz.sizeOf4 (by decide) rfl ?_
        refine O.loadO Tryz.isAgg4 rfl r0_1 rfl ?_
        refine O.nil ?_
        refine hK23 _ _ ?_
        refine C.cond rfl (fun c71 => ?_) (fun c71 => ?_)
        ·
          refine C.seqK fun K24 hK24 => ?_
          refine C.region ?_
          refine O.build (cells := #[.slice none 0 0, .slice none 0 0, .slice none 0 0]) rfl (by kernel_rfl) ?_
          refine O.storeA (vs := [.slice none 0 0, .slice none 0 0, .slice none 0 0]) Tryz.sizeOf28 rfl s2_1 rfl (by first | (have q9 := ho1; intro u hu; simp only [List.mem_cons, List.not_mem_nil, or_false] at hu; rcases hu with rfl | rfl | rfl <;> first | rfl | exact q9) | simp [Value.oneCell']) r1_1 (Nat.le_of_ble_eq_true rfl) (fun w29 hs29 e29 z29 => ?_)
          refine O.asg ?_
          refine O.asg ?_
          refine O.nil ?_
          refine hK24 _ _ ?_
          refine C.ret ?_
          refine Outs.cellA3 rfl Tryz.isAgg28 Tryz.sizeOf28 s2_1 rfl rfl hs29 rfl ?_
          first
          | exact ⟨slv p15, slv q15, o, (xv15, its), kc, true, rfl, ((r5_1.keepM e29 (by intro k hk h; first | (have q1 := hF k hk; (try dsimp only at h); omega) | (have q1 := hF2 k hk; (try dsimp only at h); omega) | (have q1 := hFb k hk; (try dsimp only at h); omega) | ((try dsimp only at hk); (try dsimp only at h); omega)))).weak (by intro j hj; (try dsimp only at hj); (try dsimp only); omega), ((r6_1.keepM e29 (by intro k hk h; first | (have q1 := hF k hk; (try dsimp only at h); omega) | (have q1 := hF2 k hk; (try dsimp only at h); omega) | (have q1 := hFb k hk; (try dsimp only at h); omega) | ((try dsimp only at hk); (try dsimp only at h); omega)))).weak (by intro j hj; (try dsimp only at hj); (try dsimp only); omega), ((hsi.keepM e29 (by intro k hk h; first | (have q1 := hF k hk; (try dsimp only at h); omega) | (have q1 := hF2 k hk; (try dsimp only at h); omega) | (have q1 := hFb k hk; (try dsimp only at h); omega) | ((try dsimp only at hk); (try dsimp only at h); omega)))).weak (by intro j hj; (try dsimp only at hj); (try dsimp only); omega), ⟨by have := hnv15.1; show xv15.1.length ≤ 1000000; omega, by have := hnv15.2; show xv15.2.length ≤ 1000000; omega, by show its.length ≤ 1000000; omega, hB⟩, .inl ⟨rfl, ⟨hcv15, hR.2.1⟩, (Cn.Rd.cart hrv15 hcv15 hdn).yes c71⟩, (Ext.new e_1 e29 (by rintro i hi rfl; omega))⟩
          | exact ⟨_, _, _, Cn.nil0, 0, false, rfl, Sl.nil _ _ _, Sl.nil _ _ _, Sl.nil _ _ _, Cn.big_nil0, .inr ⟨rfl, rfl, rfl, (Cn.Rd.cart hrv15 hcv15 hdn).no c71⟩, (Ext.new e_1 e29 (by rintro i hi rfl; omega))⟩
        ·
          refine C.skip ?_
          refine hK22 _ _ ?_
          refine C.seqK fun K25 hK25 => ?_
          refine C.drawB (wB := (bare w7)) (by kernel_rfl) fun w30 e30 => ?_
          have z30 := e30.size
          refine D.take (i := 1) rfl rfl rfl rfl (by kernel_rfl) (Ext.bare (Ext.new (Ext.refl (fun _ => True) _) e30 (fun _ _ _ => trivial))) ⟨pure _, rfl⟩ (fun w_ hw_ N_ hN => (O.mv (O.nil hN))) ?_
          refine D.take (i := 2) rfl rfl rfl rfl (by kernel_rfl) (Ext.bare (Ext.new (Ext.refl (fun _ => True) _) e30 (fun _ _ _ => trivial))) (nil_form s5_1) (fun w_ hw_ N_ hN => (O.nilChk s5_1 (O.nil hN))) ?_
          refine D.take (i := 3) rfl rfl rfl rfl (by kernel_rfl) (Ext.bare (Ext.new (Ext.refl (fun _ => True) _) e30 (fun _ _ _ => trivial))) ⟨_, rfl⟩ (fun w_ hw_ N_ hN => (O.fieldAd Tryz.underlying122 rfl Tryz.sizeOf3 (by decide) rfl (O.nil hN))) ?_
          refine D.many [0, 4] (by kernel_rfl) (by decide) ⟨?_, ?_, trivial⟩
          ·
            refine D.stepU rfl rfl ?_
            refine O.loadOA Tryz.isAgg28 Tryz.sizeOf28 s6_1 (r2_1.keep e30) (Nat.le_of_ble_eq_true rfl) ?_
            refine O.nil ⟨(Ext.bare (Ext.new (Ext.refl (fun _ => True) _) e30 (fun _ _ _ => trivial))), ?_⟩
            refine D.many [4, 5] (by kernel_rfl) (by decide) ⟨?_, ?_, trivial⟩
            ·
              refine D.stepU rfl rfl ?_
              refine O.loadO Tryz.isAgg3 rfl (r0_1.keep e30) rfl ?_
              refine O.nil ⟨(Ext.bare (Ext.new (Ext.refl (fun _ => True) _) e30 (fun _ _ _ => trivial))), ?_⟩
              refine D.one (i := 5) rfl rfl (by kernel_rfl) ?_
              refine O.storeA (vs := [slv p15, slv q15, o]) Tryz.sizeOf28 rfl s2_1 rfl (by first | (have q9 := ho1; intro u hu; simp only [List.mem_cons, List.not_mem_nil, or_false] at hu; rcases hu with rfl | rfl | rfl <;> first | rfl | exact q9) | simp [Value.oneCell']) (r1_1.keep e30) (Nat.le_of_ble_eq_true rfl) (fun w31 hs31 e31 z31 => ?_)
              refine O.nil ⟨(Ext.bare (Ext.new (Ext.new (Ext.refl (fun _ => True) _) e30 (fun _ _ _ => trivial)) e31 (fun _ _ _ => trivial))), ?_⟩
              refine D.take (i := 6) rfl rfl rfl rfl (by kernel_rfl) (Ext.bare (Ext.new (Ext.new (Ext.refl (fun _ => True) _) e30 (fun _ _ _ => trivial)) e31 (fun _ _ _ => trivial))) ⟨pure _, rfl⟩ (fun w_ hw_ N_ hN => (O.asg (O.nil hN))) ?_
              refine D.take (i := 7) rfl rfl rfl rfl (by kernel_rfl) (Ext.bare (Ext.new (Ext.new (Ext.refl (fun _ => True) _) e30 (fun _ _ _ => trivial)) e31 (fun _ _ _ => trivial))) ⟨pure _, rfl⟩ (fun w_ hw_ N_ hN => (O.asg (O.nil hN))) ?_
              refine D.done (by kernel_rfl) ?_
              refine hK25 _ _ ?_
              refine C.ret ?_
              refine Outs.cellA3 rfl Tryz.isAgg28 Tryz.sizeOf28 s2_1 rfl rfl hs31 rfl ?_
              first
              | exact ⟨slv p15, slv q15, o, (xv15, its), kc, true, rfl, (((r5_1.keep e30).keepM e31 (by intro k hk h; first | (have q1 := hF k hk; (try dsimp only at h); omega) | (have q1 := hF2 k hk; (try dsimp only at h); omega) | (have q1 := hFb k hk; (try dsimp only at h); omega) | ((try dsimp only at hk); (try dsimp only at h); omega)))).weak (by intro j hj; (try dsimp only at hj); (try dsimp only); omega), (((r6_1.keep e30).keepM e31 (by intro k hk h; first | (have q1 := hF k hk; (try dsimp only at h); omega) | (have q1 := hF2 k hk; (try dsimp only at h); omega) | (have q1 := hFb k hk; (try dsimp only at h); omega) | ((try dsimp only at hk); (try dsimp only at h); omega)))).weak (by intro j hj; (try dsimp only at hj); (try dsimp only); omega), (((hsi.keep e30).keepM e31 (by intro k hk h; first | (have q1 := hF k hk; (try dsimp only at h); omega) | (have q1 := hF2 k hk; (try dsimp only at h); omega) | (have q1 := hFb k hk; (try dsimp only at h); omega) | ((try dsimp only at hk); (try dsimp only at h); omega)))).weak (by intro j hj; (try dsimp only at hj); (try dsimp only); omega), ⟨by have := hnv15.1; show xv15.1.length ≤ 1000000; omega, by have := hnv15.2; show xv15.2.length ≤ 1000000; omega, by show its.length ≤ 1000000; omega, hB⟩, .inl ⟨rfl, ⟨hcv15, hR.2.1⟩, (Cn.Rd.cart hrv15 hcv15 hdn).yes c71⟩, (Ext.new (Ext.trans e_1 e30) e31 (by rintro i hi rfl; omega))⟩
              | exact ⟨_, _, _, Cn.nil0, 0, false, rfl, Sl.nil _ _ _, Sl.nil _ _ _, Sl.nil _ _ _, Cn.big_nil0, .inr ⟨rfl, rfl, rfl, (Cn.Rd.cart hrv15 hcv15 hdn).no c71⟩, (Ext.new (Ext.trans e_1 e30) e31 (by rintro i hi rfl; omega))⟩
            ·
              refine D.stepU rfl rfl ?_
              refine O.storeA (vs := [slv p15, slv q15, o]) Tryz.sizeOf28 rfl s2_1 rfl (by first | (have q9 := ho1; intro u hu; simp only [List.mem_cons, List.not_mem_nil, or_false] at hu; rcases hu with rfl | rfl | rfl <;> first | rfl | exact q9) | simp [Value.oneCell']) (r1_1.keep e30) (Nat.le_of_ble_eq_true rfl) (fun w32 hs32 e32 z32 => ?_)
              refine O.nil ⟨(Ext.bare (Ext.new (Ext.new (Ext.refl (fun _ => True) _) e30 (fun _ _ _ => trivial)) e32 (fun _ _ _ => trivial))), ?_⟩
              refine D.one (i := 4) rfl rfl (by kernel_rfl) ?_
              refine O.loadO Tryz.isAgg3 rfl ((r0_1.keep e30).keepM e32 (by intro h; (try dsimp only at h); omega)) rfl ?_
              refine O.nil ⟨(Ext.bare (Ext.new (Ext.new (Ext.refl (fun _ => True) _) e30 (fun _ _ _ => trivial)) e32 (fun _ _ _ => trivial))), ?_⟩
              refine D.take (i := 6) rfl rfl rfl rfl (by kernel_rfl) (Ext.bare (Ext.new (Ext.new (Ext.refl (fun _ => True) _) e30 (fun _ _ _ => trivial)) e32 (fun _ _ _ => trivial))) ⟨pure _, rfl⟩ (fun w_ hw_ N_ hN => (O.asg (O.nil hN))) ?_
              refine D.take (i := 7) rfl rfl rfl rfl (by kernel_rfl) (Ext.bare (Ext.new (Ext.new (Ext.refl (fun _ => True) _) e30 (fun _ _ _ => trivial)) e32 (fun _ _ _ => trivial))) ⟨pure _, rfl⟩ (fun w_ hw_ N_ hN => (O.asg (O.nil hN))) ?_
              refine D.done (by kernel_rfl) ?_
              refine hK25 _ _ ?_
              refine C.ret ?_
              refine Outs.cellA3 rfl Tryz.isAgg28 Tryz.sizeOf28 s2_1 rfl rfl hs32 rfl ?_
              first
              | exact ⟨slv p15, slv q15, o, (xv15, its), kc, true, rfl, (((r5_1.keep e30).keepM e32 (by intro k hk h; first | (have q1 := hF k hk; (try dsimp only at h); omega) | (have q1 := hF2 k hk; (try dsimp only at h); omega) | (have q1 := hFb k hk; (try dsimp only at h); omega) | ((try dsimp only at hk); (try dsimp only at h); omega)))).weak (by intro j hj; (try dsimp only at hj); (try dsimp only); omega), (((r6_1.keep e30).keepM e32 (by intro k hk h; first | (have q1 := hF k hk; (try dsimp only at h); omega) | (have q1 := hF2 k hk; (try dsimp only at h); omega) | (have q1 := hFb k hk; (try dsimp only at h); omega) | ((try dsimp only at hk); (try dsimp only at h); omega)))).weak (by intro j hj; (try dsimp only at hj); (try dsimp only); omega), (((hsi.keep e30).keepM e32 (by intro k hk h; first | (have q1 := hF k hk; (try dsimp only at h); omega) | (have q1 := hF2 k hk; (try dsimp only at h); omega) | (have q1 := hFb k hk; (try dsimp only at h); omega) | ((try dsimp only at hk); (try dsimp only at h); omega)))).weak (by intro j hj; (try dsimp only at hj); (try dsimp only); omega), ⟨by have := hnv15.1; show xv15.1.length ≤ 1000000; omega, by have := hnv15.2; show xv15.2.length ≤ 1000000; omega, by show its.length ≤ 1000000; omega, hB⟩, .inl ⟨rfl, ⟨hcv15, hR.2.1⟩, (Cn.Rd.cart hrv15 hcv15 hdn).yes c71⟩, (Ext.new (Ext.trans e_1 e30) e32 (by rintro i hi rfl; omega))⟩
              | exact ⟨_, _, _, Cn.nil0, 0, false, rfl, Sl.nil _ _ _, Sl.nil _ _ _, Sl.nil _ _ _, Cn.big_nil0, .inr ⟨rfl, rfl, rfl, (Cn.Rd.cart hrv15 hcv15 hdn).no c71⟩, (Ext.new (Ext.trans e_1 e30) e32 (by rintro i hi rfl; omega))⟩
          ·
            refine D.stepU rfl rfl ?_
            refine O.loadO Tryz.isAgg3 rfl (r0_1.keep e30) rfl ?_
            refine O.nil ⟨(Ext.bare (Ext.new (Ext.refl (fun _ => True) _) e30 (fun _ _ _ => trivial))), ?_⟩
            refine D.one (i := 0) rfl rfl (by kernel_rfl) ?_
            refine O.loadOA Tryz.isAgg28 Tryz.sizeOf28 s6_1 (r2_1.keep e30) (Nat.le_of_ble_eq_true rfl) ?_
            refine O.nil ⟨(Ext.bare (Ext.new (Ext.refl (fun _ => True) _) e30 (fun _ _ _ => trivial))), ?_⟩
            refine D.one (i := 5) rfl rfl (by kernel_rfl) ?_
            refine O.storeA (vs := [slv p15, slv q15, o]) Tryz.sizeOf28 rfl s2_1 rfl (by first | (have q9 := ho1; intro u hu; simp only [List.mem_cons, List.not_mem_nil, or_false] at hu; rcases hu with rfl | rfl | rfl <;> first | rfl | exact q9) | simp [Value.oneCell']) (r1_1.keep e30) (Nat.le_of_ble_eq_true rfl) (fun w33 hs33 e33 z33 => ?_)
            refine O.nil ⟨(Ext.bare (Ext.new (Ext.new (Ext.refl (fun _ => True) _) e30 (fun _ _ _ => trivial)) e33 (fun _ _ _ => trivial))), ?_⟩
            refine D.take (i := 6) rfl rfl rfl rfl (by kernel_rfl) (Ext.bare (Ext.new (Ext.new (Ext.refl (fun _ => True) _) e30 (fun _ _ _ => trivial)) e33 (fun _ _ _ => trivial))) ⟨pure _, rfl⟩ (fun w_ hw_ N_ hN => (O.asg (O.nil hN))) ?_
            refine D.take (i := 7) rfl rfl rfl rfl (by kernel_rfl) (Ext.bare (Ext.new (Ext.new (Ext.refl (fun _ => True) _) e30 (fun _ _ _ => trivial)) e33 (fun _ _ _ => trivial))) ⟨pure _, rfl⟩ (fun w_ hw_ N_ hN => (O.asg (O.nil hN))) ?_
            refine D.done (by kernel_rfl) ?_
            refine hK25 _ _ ?_
            refine C.ret ?_
            refine Outs.cellA3 rfl Tryz.isAgg28 Tryz.sizeOf28 s2_1 rfl rfl hs33 rfl ?_
            first
            | exact ⟨slv p15, slv q15, o, (xv15, its), kc, true, rfl, (((r5_1.keep e30).keepM e33 (by intro k hk h; first | (have q1 := hF k hk; (try dsimp only at h); omega) | (have q1 := hF2 k hk; (try dsimp only at h); omega) | (have q1 := hFb k hk; (try dsimp only at h); omega) | ((try dsimp only at hk); (try dsimp only at h); omega)))).weak (by intro j hj; (try dsimp only at hj); (try dsimp only); omega), (((r6_1.keep e30).keepM e33 (by intro k hk h; first | (have q1 := hF k hk; (try dsimp only at h); omega) | (have q1 := hF2 k hk; (try dsimp only at h); omega) | (have q1 := hFb k hk; (try dsimp only at h); omega) | ((try dsimp only at hk); (try dsimp only at h); omega)))).weak (by intro j hj; (try dsimp only at hj); (try dsimp only); omega), (((hsi.keep e30).keepM e33 (by intro k hk h; first | (have q1 := hF k hk; (try dsimp only at h); omega) | (have q1 := hF2 k hk; (try dsimp only at h); omega) | (have q1 := hFb k hk; (try dsimp only at h); omega) | ((try dsimp only at hk); (try dsimp only at h); omega)))).weak (by intro j hj; (try dsimp only at hj); (try dsimp only); omega), ⟨by have := hnv15.1; show xv15.1.length ≤ 1000000; omega, by have := hnv15.2; show xv15.2.length ≤ 1000000; omega, by show its.length ≤ 1000000; omega, hB⟩, .inl ⟨rfl, ⟨hcv15, hR.2.1⟩, (Cn.Rd.cart hrv15 hcv15 hdn).yes c71⟩, (Ext.new (Ext.trans e_1 e30) e33 (by rintro i hi rfl; omega))⟩
            | exact ⟨_, _, _, Cn.nil0, 0, false, rfl, Sl.nil _ _ _, Sl.nil _ _ _, Sl.nil _ _ _, Cn.big_nil0, .inr ⟨rfl, rfl, rfl, (Cn.Rd.cart hrv15 hcv15 hdn).no c71⟩, (Ext.new (Ext.trans e_1 e30) e33 (by rintro i hi rfl; omega))⟩
    ·
      have hj3 : its.length = nv18.toNat := by have q := mt (Cn.pos_ofNat (m := nv18.toNat - its.length) (by omega)).2 c21; omega
      have hdn : Cn.Rd (Cn.manyQ Cn.itemR) (Cn.manyB Cn.itemB) l knv15 bv15 its kc bc := Cn.Rds.done hR (by first | (left; omega) | exact .inr hj4)
      have hit := r4_1
      have hob2 := (r3_1).bk_ge
      obtain ⟨wq, hwq⟩ : ∃ x, x = w7 := ⟨_, rfl⟩
      have hzq : wq.heap.size = w7.heap.size := by rw [hwq]
      have hsi : Sl itemE w7 (fun j => b6 < j ∧ j < wq.heap.size) o its := (hit.weak (by intro j hj; have q1 := hj.1; have q := hj.2.1; show b6 < j ∧ j < wq.heap.size; omega)).sl ((r3_1).sl.weak (by intro j hj; have q := hob2 j hj; show b6 < j ∧ j < wq.heap.size; omega))
      refine O.no rfl (noB (isF rfl c21) rfl) ?_
      refine O.no rfl (noB (isF rfl c21) rfl) ?_
      refine O.no rfl (noB (isF rfl c21) rfl) ?_
      refine O.no rfl (noB (isF rfl c21) rfl) ?_
      refine O.no rfl (noB (isF rfl c21) rfl) ?_
      refine O.pickF (isF rfl c21) ?_
      refine O.nil ?_
      refine hK8 _ _ ?_
      refine C.condF rfl ?_
      refine C.exit ?_
      refine hK6 _ _ ?_
      refine hK4 _ _ ?_
      refine C.seqK fun K26 hK26 => ?_
      refine C.seqK fun K27 hK27 => ?_
      refine C.region ?_
      refine O.mv ?_
      refine O.nilChk s5_1 ?_
      refine O.fieldAd Tryz.underlying122 rfl Tryz.sizeOf4 (by decide) rfl ?_
      refine O.loadO Tryz.isAgg4 rfl r0_1 rfl ?_
      refine O.nil ?_
      refine hK27 _ _ ?_
      refine C.cond rfl (fun c71 => ?_) (fun c71 => ?_)
      ·
        refine C.seqK fun K28 hK28 => ?_
        refine C.region ?_
        refine O.build (cells := #[.slice none 0 0, .slice none 0 0, .slice none 0 0]) rfl (by kernel_rfl) ?_
        refine O.storeA (vs := [.slice none 0 0, .slice none 0 0, .slice none 0 0]) Tryz.sizeOf28 rfl s2_1 rfl (by first | (have q9 := ho1; intro u hu; simp only [List.mem_cons, List.not_mem_nil, or_false] at hu; rcases hu with rfl | rfl | rfl <;> first | rfl | exact q9) | simp [Value.oneCell']) r1_1 (Nat.le_of_ble_eq_true rfl) (fun w34 hs34 e34 z34 => ?_)
        refine O.asg ?_
        refine O.asg ?_
        refine O.nil ?_
        refine hK28 _ _ ?_
        refine C.ret ?_
        refine Outs.cellA3 rfl Tryz.isAgg28 Tryz.sizeOf28 s2_1 rfl rfl hs34 rfl ?_
        first
        | exact ⟨slv p15, slv q15, o, (xv15, its), kc, true, rfl, ((r5_1.keepM e34 (by intro k hk h; first | (have q1 := hF k hk; (try dsimp only at h); omega) | (have q1 := hF2 k hk; (try dsimp only at h); omega) | (have q1 := hFb k hk; (try dsimp only at h); omega) | ((try dsimp only at hk); (try dsimp only at h); omega)))).weak (by intro j hj; (try dsimp only at hj); (try dsimp only); omega), ((r6_1.keepM e34 (by intro k hk h; first | (have q1 := hF k hk; (try dsimp only at h); omega) | (have q1 := hF2 k hk; (try dsimp only at h); omega) | (have q1 := hFb k hk; (try dsimp only at h); omega) | ((try dsimp only at hk); (try dsimp only at h); omega)))).weak (by intro j hj; (try dsimp only at hj); (try dsimp only); omega), ((hsi.keepM e34 (by intro k hk h; first | (have q1 := hF k hk; (try dsimp only at h); omega) | (have q1 := hF2 k hk; (try dsimp only at h); omega) | (have q1 := hFb k hk; (try dsimp only at h); omega) | ((try dsimp only at hk); (try dsimp only at h); omega)))).weak (by intro j hj; (try dsimp only at hj); (try dsimp only); omega), ⟨by have := hnv15.1; show xv15.1.length ≤ 1000000; omega, by have := hnv15.2; show xv15.2.length ≤ 1000000; omega, by show its.length ≤ 1000000; omega, hB⟩, .inl ⟨rfl, ⟨hcv15, hR.2.1⟩, (Cn.Rd.cart hrv15 hcv15 hdn).yes c71⟩, (Ext.new e_1 e34 (by rintro i hi rfl; omega))⟩
        | exact ⟨_, _, _, Cn.nil0, 0, false, rfl, Sl.nil _ _ _, Sl.nil _ _ _, Sl.nil _ _ _, Cn.big_nil0, .inr ⟨rfl, rfl, rfl, (Cn.Rd.cart hrv15 hcv15 hdn).no c71⟩, (Ext.new e_1 e34 (by rintro i hi rfl; omega))⟩
      ·
        refine C.skip ?_
        refine hK26 _ _ ?_
        refine C.seqK fun K29 hK29 => ?_
        refine C.drawB (wB := (bare w7)) (by kernel_rfl) fun w35 e35 => ?_
        have z35 := e35.size
        refine D.take (i := 1) rfl rfl rfl rfl (by kernel_rfl) (Ext.bare (Ext.new (Ext.refl (fun _ => True) _) e35 (fun _ _ _ => trivial))) ⟨pure _, rfl⟩ (fun w_ hw_ N_ hN => (O.mv (O.nil hN))) ?_
        refine D.take (i := 2) rfl rfl rfl rfl (by kernel_rfl) (Ext.bare (Ext.new (Ext.refl (fun _ => True) _) e35 (fun _ _ _ => trivial))) (nil_form s5_1) (fun w_ hw_ N_ hN => (O.nilChk s5_1 (O.nil hN))) ?_
        refine D.take (i := 3) rfl rfl rfl rfl (by kernel_rfl) (Ext.bare (Ext.new (Ext.refl (fun _ => True) _) e35 (fun _ _ _ => trivial))) ⟨_, rfl⟩ (fun w_ hw_ N_ hN => (O.fieldAd Tryz.underlying122 rfl Tryz.sizeOf3 (by decide) rfl (O.nil hN))) ?_
        refine D.many [0, 4] (by kernel_rfl) (by decide) ⟨?_, ?_, trivial⟩
        ·
          refine D.stepU rfl rfl ?_
          refine O.loadOA Tryz.isAgg28 Tryz.sizeOf28 s6_1 (r2_1.keep e35) (Nat.le_of_ble_eq_true rfl) ?_
          refine O.nil ⟨(Ext.bare (Ext.new (Ext.refl (fun _ => True) _) e35 (fun _ _ _ => trivial))), ?_⟩
          refine D.many [4, 5] (by kernel_rfl) (by decide) ⟨?_, ?_, trivial⟩
          ·
            refine D.stepU rfl rfl ?_
            refine O.loadO Tryz.isAgg3 rfl (r0_1.keep e35) rfl ?_
            refine O.nil ⟨(Ext.bare (Ext.new (Ext.refl (fun _ => True) _) e35 (fun _ _ _ => trivial))), ?_⟩
            refine D.one (i := 5) rfl rfl (by kernel_rfl) ?_
            refine O.storeA (vs := [slv p15, slv q15, o]) Tryz.sizeOf28 rfl s2_1 rfl (by first | (have q9 := ho1; intro u hu; simp only [List.mem_cons, List.not_mem_nil, or_false] at hu; rcases hu with rfl | rfl | rfl <;> first | rfl | exact q9) | simp [Value.oneCell']) (r1_1.keep e35) (Nat.le_of_ble_eq_true rfl) (fun w36 hs36 e36 z36 => ?_)
            refine O.nil ⟨(Ext.bare (Ext.new (Ext.new (Ext.refl (fun _ => True) _) e35 (fun _ _ _ => trivial)) e36 (fun _ _ _ => trivial))), ?_⟩
            refine D.take (i := 6) rfl rfl rfl rfl (by kernel_rfl) (Ext.bare (Ext.new (Ext.new (Ext.refl (fun _ => True) _) e35 (fun _ _ _ => trivial)) e36 (fun _ _ _ => trivial))) ⟨pure _, rfl⟩ (fun w_ hw_ N_ hN => (O.asg (O.nil hN))) ?_
            refine D.take (i := 7) rfl rfl rfl rfl (by kernel_rfl) (Ext.bare (Ext.new (Ext.new (Ext.refl (fun _ => True) _) e35 (fun _ _ _ => trivial)) e36 (fun _ _ _ => trivial))) ⟨pure _, rfl⟩ (fun w_ hw_ N_ hN => (O.asg (O.nil hN))) ?_
            refine D.done (by kernel_rfl) ?_
            refine hK29 _ _ ?_
            refine C.ret ?_
            refine Outs.cellA3 rfl Tryz.isAgg28 Tryz.sizeOf28 s2_1 rfl rfl hs36 rfl ?_
            first
            | exact ⟨slv p15, slv q15, o, (xv15, its), kc, true, rfl, (((r5_1.keep e35).keepM e36 (by intro k hk h; first | (have q1 := hF k hk; (try dsimp only at h); omega) | (have q1 := hF2 k hk; (try dsimp only at h); omega) | (have q1 := hFb k hk; (try dsimp only at h); omega) | ((try dsimp only at hk); (try dsimp only at h); omega)))).weak (by intro j hj; (try dsimp only at hj); (try dsimp only); omega), (((r6_1.keep e35).keepM e36 (by intro k hk h; first | (have q1 := hF k hk; (try dsimp only at h); omega) | (have q1 := hF2 k hk; (try dsimp only at h); omega) | (have q1 := hFb k hk; (try dsimp only at h); omega) | ((try dsimp only at hk); (try dsimp only at h); omega)))).weak (by intro j hj; (try dsimp only at hj); (try dsimp only); omega), (((hsi.keep e35).keepM e36 (by intro k hk h; first | (have q1 := hF k hk; (try dsimp only at h); omega) | (have q1 := hF2 k hk; (try dsimp only at h); omega) | (have q1 := hFb k hk; (try dsimp only at h); omega) | ((try dsimp only at hk); (try dsimp only at h); omega)))).weak (by intro j hj; (try dsimp only at hj); (try dsimp only); omega), ⟨by have := hnv15.1; show xv15.1.length ≤ 1000000; omega, by have := hnv15.2; show xv15.2.length ≤ 1000000; omega, by show its.length ≤ 1000000; omega, hB⟩, .inl ⟨rfl, ⟨hcv15, hR.2.1⟩, (Cn.Rd.cart hrv15 hcv15 hdn).yes c71⟩, (Ext.new (Ext.trans e_1 e35) e36 (by rintro i hi rfl; omega))⟩
            | exact ⟨_, _, _, Cn.nil0, 0, false, rfl, Sl.nil _ _ _, Sl.nil _ _ _, Sl.nil _ _ _, Cn.big_nil0, .inr ⟨rfl, rfl, rfl, (Cn.Rd.cart hrv15 hcv15 hdn).no c71⟩, (Ext.new (Ext.trans e_1 e35) e36 (by rintro i hi rfl; omega))⟩
          ·
            refine D.stepU rfl rfl ?_
            refine O.storeA (vs := [slv p15, slv q15, o]) Tryz.sizeOf28 rfl s2_1 rfl (by first | (have q9 := ho1; intro u hu; simp only [List.mem_cons, List.not_mem_nil, or_false] at hu; rcases hu with rfl | rfl | rfl <;> first | rfl | exact q9) | simp [Value.oneCell']) (r1_1.keep e35) (Nat.le_of_ble_eq_true rfl) (fun w37 hs37 e37 z37 => ?_)
            refine O.nil ⟨(Ext.bare (Ext.new (Ext.new (Ext.refl (fun _ => True) _) e35 (fun _ _ _ => trivial)) e37 (fun _ _ _ => trivial))), ?_⟩
            refine D.one (i := 4) rfl rfl (by kernel_rfl) ?_
            refine O.loadO Tryz.isAgg3 rfl ((r0_1.keep e35).keepM e37 (by intro h; (try dsimp only at h); omega)) rfl ?_
            refine O.nil ⟨(Ext.bare (Ext.new (Ext.new (Ext.refl (fun _ => True) _) e35 (fun _ _ _ => trivial)) e37 (fun _ _ _ => trivial))), ?_⟩
            refine D.take (i := 6) rfl rfl rfl rfl (by kernel_rfl) (Ext.bare (Ext.new (Ext.new (Ext.refl (fun _ => True) _) e35 (fun _ _ _ => trivial)) e37 (fun _ _ _ => trivial))) ⟨pure _, rfl⟩ (fun w_ hw_ N_ hN => (O.asg (O.nil hN))) ?_
            refine D.take (i := 7) rfl rfl rfl rfl (by kernel_rfl) (Ext.bare (Ext.new (Ext.new (Ext.refl (fun _ => True) _) e35 (fun _ _ _ => trivial)) e37 (fun _ _ _ => trivial))) ⟨pure _, rfl⟩ (fun w_ hw_ N_ hN => (O.asg (O.nil hN))) ?_
            refine D.done (by kernel_rfl) ?_
            refine hK29 _ _ ?_
            refine C.ret ?_
            refine Outs.cellA3 rfl Tryz.isAgg28 Tryz.sizeOf28 s2_1 rfl rfl hs37 rfl ?_
            first
            | exact ⟨slv p15, slv q15, o, (xv15, its), kc, true, rfl, (((r5_1.keep e35).keepM e37 (by intro k hk h; first | (have q1 := hF k hk; (try dsimp only at h); omega) | (have q1 := hF2 k hk; (try dsimp only at h); omega) | (have q1 := hFb k hk; (try dsimp only at h); omega) | ((try dsimp only at hk); (try dsimp only at h); omega)))).weak (by intro j hj; (try dsimp only at hj); (try dsimp only); omega), (((r6_1.keep e35).keepM e37 (by intro k hk h; first | (have q1 := hF k hk; (try dsimp only at h); omega) | (have q1 := hF2 k hk; (try dsimp only at h); omega) | (have q1 := hFb k hk; (try dsimp only at h); omega) | ((try dsimp only at hk); (try dsimp only at h); omega)))).weak (by intro j hj; (try dsimp only at hj); (try dsimp only); omega), (((hsi.keep e35).keepM e37 (by intro k hk h; first | (have q1 := hF k hk; (try dsimp only at h); omega) | (have q1 := hF2 k hk; (try dsimp only at h); omega) | (have q1 := hFb k hk; (try dsimp only at h); omega) | ((try dsimp only at hk); (try dsimp only at h); omega)))).weak (by intro j hj; (try dsimp only at hj); (try dsimp only); omega), ⟨by have := hnv15.1; show xv15.1.length ≤ 1000000; omega, by have := hnv15.2; show xv15.2.length ≤ 1000000; omega, by show its.length ≤ 1000000; omega, hB⟩, .inl ⟨rfl, ⟨hcv15, hR.2.1⟩, (Cn.Rd.cart hrv15 hcv15 hdn).yes c71⟩, (Ext.new (Ext.trans e_1 e35) e37 (by rintro i hi rfl; omega))⟩
            | exact ⟨_, _, _, Cn.nil0, 0, false, rfl, Sl.nil _ _ _, Sl.nil _ _ _, Sl.nil _ _ _, Cn.big_nil0, .inr ⟨rfl, rfl, rfl, (Cn.Rd.cart hrv15 hcv15 hdn).no c71⟩, (Ext.new (Ext.trans e_1 e35) e37 (by rintro i hi rfl; omega))⟩
        ·
          refine D.stepU rfl rfl ?_
          refine O.loadO Tryz.isAgg3 rfl (r0_1.keep e35) rfl ?_
          refine O.nil ⟨(Ext.bare (Ext.new (Ext.refl (fun _ => True) _) e35 (fun _ _ _ => trivial))), ?_⟩
          refine D.one (i := 0) rfl rfl (by kernel_rfl) ?_
          refine O.loadOA Tryz.isAgg28 Tryz.sizeOf28 s6_1 (r2_1.keep e35) (Nat.le_of_ble_eq_true rfl) ?_
          refine O.nil ⟨(Ext.bare (Ext.new (Ext.refl (fun _ => True) _) e35 (fun _ _ _ => trivial))), ?_⟩
          refine D.one (i := 5) rfl rfl (by kernel_rfl) ?_
          refine O.storeA (vs := [slv p15, slv q15, o]) Tryz.sizeOf28 rfl s2_1 rfl (by first | (have q9 := ho1; intro u hu; simp only [List.mem_cons, List.not_mem_nil, or_false] at hu; rcases hu with rfl | rfl | rfl <;> first | rfl | exact q9) | simp [Value.oneCell']) (r1_1.keep e35) (Nat.le_of_ble_eq_true rfl) (fun w38 hs38 e38 z38 => ?_)
          refine O.nil ⟨(Ext.bare (Ext.new (Ext.new (Ext.refl (fun _ => True) _) e35 (fun _ _ _ => trivial)) e38 (fun _ _ _ => trivial))), ?_⟩
          refine D.take (i := 6) rfl rfl rfl rfl (by kernel_rfl) (Ext.bare (Ext.new (Ext.new (Ext.refl (fun _ => True) _) e35 (fun _ _ _ => trivial)) e38 (fun _ _ _ => trivial))) ⟨pure _, rfl⟩ (fun w_ hw_ N_ hN => (O.asg (O.nil hN))) ?_
          refine D.take (i := 7) rfl rfl rfl rfl (by kernel_rfl) (Ext.bare (Ext.new (Ext.new (Ext.refl (fun _ => True) _) e35 (fun _ _ _ => trivial)) e38 (fun _ _ _ => trivial))) ⟨pure _, rfl⟩ (fun w_ hw_ N_ hN => (O.asg (O.nil hN))) ?_
          refine D.done (by kernel_rfl) ?_
          refine hK29 _ _ ?_
          refine C.ret ?_
          refine Outs.cellA3 rfl Tryz.isAgg28 Tryz.sizeOf28 s2_1 rfl rfl hs38 rfl ?_
          first
          | exact ⟨slv p15, slv q15, o, (xv15, its), kc, true, rfl, (((r5_1.keep e35).keepM e38 (by intro k hk h; first | (have q1 := hF k hk; (try dsimp only at h); omega) | (have q1 := hF2 k hk; (try dsimp only at h); omega) | (have q1 := hFb k hk; (try dsimp only at h); omega) | ((try dsimp only at hk); (try dsimp only at h); omega)))).weak (by intro j hj; (try dsimp only at hj); (try dsimp only); omega), (((r6_1.keep e35).keepM e38 (by intro k hk h; first | (have q1 := hF k hk; (try dsimp only at h); omega) | (have q1 := hF2 k hk; (try dsimp only at h); omega) | (have q1 := hFb k hk; (try dsimp only at h); omega) | ((try dsimp only at hk); (try dsimp only at h); omega)))).weak (by intro j hj; (try dsimp only at hj); (try dsimp only); omega), (((hsi.keep e35).keepM e38 (by intro k hk h; first | (have q1 := hF k hk; (try dsimp only at h); omega) | (have q1 := hF2 k hk; (try dsimp only at h); omega) | (have q1 := hFb k hk; (try dsimp only at h); omega) | ((try dsimp only at hk); (try dsimp only at h); omega)))).weak (by intro j hj; (try dsimp only at hj); (try dsimp only); omega), ⟨by have := hnv15.1; show xv15.1.length ≤ 1000000; omega, by have := hnv15.2; show xv15.2.length ≤ 1000000; omega, by show its.length ≤ 1000000; omega, hB⟩, .inl ⟨rfl, ⟨hcv15, hR.2.1⟩, (Cn.Rd.cart hrv15 hcv15 hdn).yes c71⟩, (Ext.new (Ext.trans e_1 e35) e38 (by rintro i hi rfl; omega))⟩
          | exact ⟨_, _, _, Cn.nil0, 0, false, rfl, Sl.nil _ _ _, Sl.nil _ _ _, Sl.nil _ _ _, Cn.big_nil0, .inr ⟨rfl, rfl, rfl, (Cn.Rd.cart hrv15 hcv15 hdn).no c71⟩, (Ext.new (Ext.trans e_1 e35) e38 (by rintro i hi rfl; omega))⟩

end Go.Proofs.YtnkcmaoaagnopaaGreatDoor
end
section
/-
  The walks of the laws' helpers: carts counted, answers held against what they must be. Conditions: slices as they lie in memory.
-/
namespace Go.Proofs.YtnkcmaoaagnopaaGreatDoor
open Go.Pn Go.RowKit Go.Proofs
attribute [local irreducible] O C D

set_option maxHeartbeats 1000000 in
theorem isY_spec (v0 : Value) (l : List UInt8) (F : Nat → Prop) (vb1 vb2 vb3 : Value) (b : Cn.Cart) (Fb : Nat → Prop) (w : World) (hl : Sl byteE w F v0 l) (hL : l.length ≤ 1000000) (hF : ∀ j, F j → j < w.heap.size) (mx : Mx w) (hbv : Sl Dt.dotF.enc w Fb vb1 b.1.1) (hbc : Sl Dt.dotF.enc w Fb vb2 b.1.2) (hbi : Sl itemE w Fb vb3 b.2) (hFb : ∀ k, Fb k → k < w.heap.size) (hr : Cn.CartRes l b 0) :
    Ret Tryz.prog 35 #[v0, .agg #[vb1, vb2, vb3], .bool (true)] w (fun v w' => v = .bool true ∧ Le w w') := by
  have hll := hl.le
  have hgl := mx.lt
  refine enter (args := [v0, .agg #[vb1, vb2, vb3], .bool (true)]) (n := 30) Tryz.func35 rfl rfl (Nat.le_of_ble_eq_true rfl) ?_
  refine C.seqK fun K1 hK1 => ?_
  refine C.region ?_
  refine O.box (v := .agg #[vb1, vb2, vb3]) rfl (fun b4 w1 hb4 hz4 e1 => ?_)
  have z1 := e1.size
  have h4 := hz4.own
  have hl4 := h4.lt
  refine O.asg ?_
  refine O.nil ?_
  refine hK1 _ _ ?_
  refine C.seqK fun K2 hK2 => ?_
  refine C.region ?_
  refine O.mv ?_
  refine O.call Tryz.call34 (args1 rfl) (dcart_spec v0 l F _ (hl.keep e1) hL (fun j hj => by have q1 := hF j hj; omega) (mx.keep e1)) ?_
  rintro v_11 w2 ⟨vav11, vbv11, vcv11, cv11, env11, rfl, hxv11, hyv11, hzv11, hgv11, hpv11, e2⟩
  have z2 := e2.size
  replace hxv11 := hxv11.sl
  replace hyv11 := hyv11.sl
  replace hzv11 := hzv11.sl
  obtain ⟨p1, rfl⟩ := hxv11.slv
  obtain ⟨p2, rfl⟩ := hyv11.slv
  obtain ⟨p3, rfl⟩ := hzv11.slv
  obtain ⟨hcb, he0⟩ := hpv11.uniq hr
  refine O.mv ?_
  refine O.extract rfl rfl ?_
  refine O.extract rfl rfl ?_
  refine O.alloc Tryz.zeroValue28 (fun b7 w3 hb7 hz7 e3 => ?_)
  have z3 := e3.size
  have h7 := hz7.own
  have hl7 := h7.lt
  refine O.storeA (vs := [slv p1, slv p2, slv p3]) Tryz.sizeOf28 rfl rfl rfl (by simp [slv, Value.oneCell']) h7 (Nat.le_of_ble_eq_true rfl) (fun w4 hs4 e4 z4 => ?_)
  refine O.asg ?_
  refine O.nil ?_
  refine hK2 _ _ ?_
  refine C.seqK fun K3 hK3 => ?_
  refine C.seqK fun K4 hK4 => ?_
  refine C.region ?_
  refine O.mv ?_
  refine O.not rfl ?_
  refine O.cast (v' := .bool false) rfl ?_
  refine O.nil ?_
  refine hK4 _ _ ?_
  refine C.condF rfl ?_
  refine C.skip ?_
  refine hK3 _ _ ?_
  refine C.seqK fun K5 hK5 => ?_
  refine C.region ?_
  refine O.loadOA Tryz.isAgg28 Tryz.sizeOf28 rfl hs4 (Nat.le_of_ble_eq_true rfl) ?_
  refine O.loadOA Tryz.isAgg28 Tryz.sizeOf28 rfl (((h4.keep e2).keep e3).keepM e4 (by intro h; (try dsimp only at h); omega)) (Nat.le_of_ble_eq_true rfl) ?_
  refine O.call Tryz.call21 (args2 rfl rfl) (same_spec (slv p1) (slv p2) (slv p3) cv11 _ vb1 vb2 vb3 b Fb _ ((hxv11.keep e3).keepM e4 (by intro k hk h; first | (have q1 := hF k hk; (try dsimp only at h); omega) | (have q1 := hF2 k hk; (try dsimp only at h); omega) | (have q1 := hFb k hk; (try dsimp only at h); omega) | ((try dsimp only at hk); (try dsimp only at h); omega))) ((hyv11.keep e3).keepM e4 (by intro k hk h; first | (have q1 := hF k hk; (try dsimp only at h); omega) | (have q1 := hF2 k hk; (try dsimp only at h); omega) | (have q1 := hFb k hk; (try dsimp only at h); omega) | ((try dsimp only at hk); (try dsimp only at h); omega))) ((hzv11.keep e3).keepM e4 (by intro k hk h; first | (have q1 := hF k hk; (try dsimp only at h); omega) | (have q1 := hF2 k hk; (try dsimp only at h); omega) | (have q1 := hFb k hk; (try dsimp only at h); omega) | ((try dsimp only at hk); (try dsimp only at h); omega))) (hbv.keep (Ext.new (Ext.trans (Ext.trans e1 e2) e3) e4 (by rintro i hi rfl; omega))) (hbc.keep (Ext.new (Ext.trans (Ext.trans e1 e2) e3) e4 (by rintro i hi rfl; omega))) (hbi.keep (Ext.new (Ext.trans (Ext.trans e1 e2) e3) e4 (by rintro i hi rfl; omega))) (fun j hj => by have q1 := hj.2; omega) (fun j hj => by have q1 := hFb j hj; omega)) ?_
  rintro v_25 w5 ⟨rfl, e5⟩
  have z5 := e5.size
  refine O.cast (v' := .bool true) (congrArg Value.bool (by exact decide_eq_true hcb)) ?_
  refine O.mv ?_
  refine O.yes rfl rfl ?_
  refine O.mv ?_
  refine O.yes rfl rfl ?_
  refine O.eqlI rfl rfl ?_
  refine O.cast (v' := .bool true) (congrArg Value.bool (by exact decide_eq_true he0)) ?_
  refine O.pickT rfl ?_
  refine O.asg ?_
  refine O.nil ?_
  refine hK5 _ _ ?_
  refine C.ret ?_
  refine Outs.one rfl rfl ?_
  exact ⟨rfl, (Ext.trans (Ext.new (Ext.trans (Ext.trans e1 e2) e3) e4 (by rintro i hi rfl; omega)) e5)⟩

set_option maxHeartbeats 1000000 in
theorem isN_spec (v0 : Value) (l : List UInt8) (F : Nat → Prop) (vb1 vb2 vb3 : Value) (b : Cn.Cart) (Fb : Nat → Prop) (w : World) (hl : Sl byteE w F v0 l) (hL : l.length ≤ 1000000) (hF : ∀ j, F j → j < w.heap.size) (mx : Mx w) (hbv : Sl Dt.dotF.enc w Fb vb1 b.1.1) (hbc : Sl Dt.dotF.enc w Fb vb2 b.1.2) (hbi : Sl itemE w Fb vb3 b.2) (hFb : ∀ k, Fb k → k < w.heap.size) (hr : Cn.CartRes l Cn.nil0 12) :
    Ret Tryz.prog 35 #[v0, .agg #[vb1, vb2, vb3], .bool (false)] w (fun v w' => v = .bool true ∧ Le w w') := by
  have hll := hl.le
  have hgl := mx.lt
  have _hb := hFb
  refine enter (args := [v0, .agg #[vb1, vb2, vb3], .bool (false)]) (n := 30) Tryz.func35 rfl rfl (Nat.le_of_ble_eq_true rfl) ?_
  refine C.seqK fun K1 hK1 => ?_
  refine C.region ?_
  refine O.box (v := .agg #[vb1, vb2, vb3]) rfl (fun b4 w1 hb4 hz4 e1 => ?_)
  have z1 := e1.size
  have h4 := hz4.own
  have hl4 := h4.lt
  refine O.asg ?_
  refine O.nil ?_
  refine hK1 _ _ ?_
  refine C.seqK fun K2 hK2 => ?_
  refine C.region ?_
  refine O.mv ?_
  refine O.call Tryz.call34 (args1 rfl) (dcart_spec v0 l F _ (hl.keep e1) hL (fun j hj => by have q1 := hF j hj; omega) (mx.keep e1)) ?_
  rintro v_11 w2 ⟨vav11, vbv11, vcv11, cv11, env11, rfl, hxv11, hyv11, hzv11, hgv11, hpv11, e2⟩
  have z2 := e2.size
  replace hxv11 := hxv11.sl
  replace hyv11 := hyv11.sl
  replace hzv11 := hzv11.sl
  obtain ⟨p1, rfl⟩ := hxv11.slv
  obtain ⟨p2, rfl⟩ := hyv11.slv
  obtain ⟨p3, rfl⟩ := hzv11.slv
  obtain ⟨hcb, he0⟩ := hpv11.uniq hr
  refine O.mv ?_
  refine O.extract rfl rfl ?_
  refine O.extract rfl rfl ?_
  refine O.alloc Tryz.zeroValue28 (fun b7 w3 hb7 hz7 e3 => ?_)
  have z3 := e3.size
  have h7 := hz7.own
  have hl7 := h7.lt
  refine O.storeA (vs := [slv p1, slv p2, slv p3]) Tryz.sizeOf28 rfl rfl rfl (by simp [slv, Value.oneCell']) h7 (Nat.le_of_ble_eq_true rfl) (fun w4 hs4 e4 z4 => ?_)
  refine O.asg ?_
  refine O.nil ?_
  refine hK2 _ _ ?_
  refine C.seqK fun K3 hK3 => ?_
  refine C.seqK fun K4 hK4 => ?_
  refine C.region ?_
  refine O.mv ?_
  refine O.not rfl ?_
  refine O.cast (v' := .bool true) rfl ?_
  refine O.nil ?_
  refine hK4 _ _ ?_
  refine C.condT rfl ?_
  refine C.seqK fun K5 hK5 => ?_
  refine C.region ?_
  refine O.loadOA Tryz.isAgg28 Tryz.sizeOf28 rfl hs4 (Nat.le_of_ble_eq_true rfl) ?_
  refine O.build (cells := #[.slice none 0 0, .slice none 0 0, .slice none 0 0]) rfl (by kernel_rfl) ?_
  refine O.call Tryz.call21 (args2 rfl rfl) (same_spec (slv p1) (slv p2) (slv p3) cv11 _ (.slice none 0 0) (.slice none 0 0) (.slice none 0 0) Cn.nil0 (fun _ => False) _ ((hxv11.keep e3).keepM e4 (by intro k hk h; first | (have q1 := hF k hk; (try dsimp only at h); omega) | (have q1 := hF2 k hk; (try dsimp only at h); omega) | (have q1 := hFb k hk; (try dsimp only at h); omega) | ((try dsimp only at hk); (try dsimp only at h); omega))) ((hyv11.keep e3).keepM e4 (by intro k hk h; first | (have q1 := hF k hk; (try dsimp only at h); omega) | (have q1 := hF2 k hk; (try dsimp only at h); omega) | (have q1 := hFb k hk; (try dsimp only at h); omega) | ((try dsimp only at hk); (try dsimp only at h); omega))) ((hzv11.keep e3).keepM e4 (by intro k hk h; first | (have q1 := hF k hk; (try dsimp only at h); omega) | (have q1 := hF2 k hk; (try dsimp only at h); omega) | (have q1 := hFb k hk; (try dsimp only at h); omega) | ((try dsimp only at hk); (try dsimp only at h); omega))) (Sl.nil _ _ _) (Sl.nil _ _ _) (Sl.nil _ _ _) (fun j hj => by have q1 := hj.2; omega) (fun _ h => h.elim)) ?_
  rintro v_18 w5 ⟨rfl, e5⟩
  have z5 := e5.size
  refine O.cast (v' := .bool true) (congrArg Value.bool (by exact decide_eq_true hcb)) ?_
  refine O.mv ?_
  refine O.yes rfl rfl ?_
  refine O.mv ?_
  refine O.yes rfl rfl ?_
  refine O.eqlI rfl rfl ?_
  refine O.cast (v' := .bool true) (congrArg Value.bool (by exact decide_eq_true he0)) ?_
  refine O.pickT rfl ?_
  refine O.asg ?_
  refine O.nil ?_
  refine hK5 _ _ ?_
  refine C.ret ?_
  refine Outs.one rfl rfl ?_
  exact ⟨rfl, (Ext.trans (Ext.new (Ext.trans (Ext.trans e1 e2) e3) e4 (by rintro i hi rfl; omega)) e5)⟩

set_option maxHeartbeats 1000000 in
theorem begins_spec (v0 : Value) (l : List UInt8) (F : Nat → Prop) (vb1 vb2 vb3 : Value) (b : Cn.Cart) (Fb : Nat → Prop) (k : Nat) (e : Int) (w : World) (hl : Sl byteE w F v0 l) (hL : l.length ≤ 1000000) (hF : ∀ j, F j → j < w.heap.size) (mx : Mx w) (hbv : Sl Dt.dotF.enc w Fb vb1 b.1.1) (hbc : Sl Dt.dotF.enc w Fb vb2 b.1.2) (hbi : Sl itemE w Fb vb3 b.2) (hFb : ∀ k, Fb k → k < w.heap.size) (hr : Cn.Pref l b k e) :
    Ret Tryz.prog 36 #[v0, .agg #[vb1, vb2, vb3], .int .i64 ((k : Int)), .int .i64 (e)] w (fun v w' => v = .bool true ∧ Le w w') := by
  have hll := hl.le
  have hgl := mx.lt
  refine enter (args := [v0, .agg #[vb1, vb2, vb3], .int .i64 ((k : Int)), .int .i64 (e)]) (n := 31) Tryz.func36 rfl rfl (Nat.le_of_ble_eq_true rfl) ?_
  refine C.seqK fun K1 hK1 => ?_
  refine C.region ?_
  refine O.box (v := .agg #[vb1, vb2, vb3]) rfl (fun b5 w1 hb5 hz5 e1 => ?_)
  have z1 := e1.size
  have h5 := hz5.own
  have hl5 := h5.lt
  refine O.asg ?_
  refine O.nil ?_
  refine hK1 _ _ ?_
  refine C.seqK fun K2 hK2 => ?_
  refine C.region ?_
  refine O.mv ?_
  refine O.call Tryz.call58 (args1 rfl) (prefix_spec v0 l F _ (hl.keep e1) hL (fun j hj => by have q1 := hF j hj; omega) (mx.keep e1)) ?_
  rintro v_14 w2 ⟨vav14, vbv14, vcv14, cv14, knv14, env14, rfl, hxv14, hyv14, hzv14, hgv14, hpv14, e2⟩
  have z2 := e2.size
  replace hxv14 := hxv14.sl
  replace hyv14 := hyv14.sl
  replace hzv14 := hzv14.sl
  obtain ⟨p1, rfl⟩ := hxv14.slv
  obtain ⟨p2, rfl⟩ := hyv14.slv
  obtain ⟨p3, rfl⟩ := hzv14.slv
  obtain ⟨hcb, hkb, he0⟩ := hpv14.uniq hr
  refine O.mv ?_
  refine O.extract rfl rfl ?_
  refine O.extract rfl rfl ?_
  refine O.extract rfl rfl ?_
  refine O.alloc Tryz.zeroValue28 (fun b9 w3 hb9 hz9 e3 => ?_)
  have z3 := e3.size
  have h9 := hz9.own
  have hl9 := h9.lt
  refine O.storeA (vs := [slv p1, slv p2, slv p3]) Tryz.sizeOf28 rfl rfl rfl (by simp [slv, Value.oneCell']) h9 (Nat.le_of_ble_eq_true rfl) (fun w4 hs4 e4 z4 => ?_)
  refine O.asg ?_
  refine O.asg ?_
  refine O.nil ?_
  refine hK2 _ _ ?_
  refine C.seqK fun K3 hK3 => ?_
  refine C.region ?_
  refine O.loadOA Tryz.isAgg28 Tryz.sizeOf28 rfl hs4 (Nat.le_of_ble_eq_true rfl) ?_
  refine O.loadOA Tryz.isAgg28 Tryz.sizeOf28 rfl (((h5.keep e2).keep e3).keepM e4 (by intro h; (try dsimp only at h); omega)) (Nat.le_of_ble_eq_true rfl) ?_
  refine O.call Tryz.call21 (args2 rfl rfl) (same_spec (slv p1) (slv p2) (slv p3) cv14 _ vb1 vb2 vb3 b Fb _ ((hxv14.keep e3).keepM e4 (by intro k hk h; first | (have q1 := hF k hk; (try dsimp only at h); omega) | (have q1 := hF2 k hk; (try dsimp only at h); omega) | (have q1 := hFb k hk; (try dsimp only at h); omega) | ((try dsimp only at hk); (try dsimp only at h); omega))) ((hyv14.keep e3).keepM e4 (by intro k hk h; first | (have q1 := hF k hk; (try dsimp only at h); omega) | (have q1 := hF2 k hk; (try dsimp only at h); omega) | (have q1 := hFb k hk; (try dsimp only at h); omega) | ((try dsimp only at hk); (try dsimp only at h); omega))) ((hzv14.keep e3).keepM e4 (by intro k hk h; first | (have q1 := hF k hk; (try dsimp only at h); omega) | (have q1 := hF2 k hk; (try dsimp only at h); omega) | (have q1 := hFb k hk; (try dsimp only at h); omega) | ((try dsimp only at hk); (try dsimp only at h); omega))) (hbv.keep (Ext.new (Ext.trans (Ext.trans e1 e2) e3) e4 (by rintro i hi rfl; omega))) (hbc.keep (Ext.new (Ext.trans (Ext.trans e1 e2) e3) e4 (by rintro i hi rfl; omega))) (hbi.keep (Ext.new (Ext.trans (Ext.trans e1 e2) e3) e4 (by rintro i hi rfl; omega))) (fun j hj => by have q1 := hj.2; omega) (fun j hj => by have q1 := hFb j hj; omega)) ?_
  rintro v_20 w5 ⟨rfl, e5⟩
  have z5 := e5.size
  refine O.cast (v' := .bool true) (congrArg Value.bool (by exact decide_eq_true hcb)) ?_
  refine O.mv ?_
  refine O.yes rfl rfl ?_
  refine O.mv ?_
  refine O.yes rfl rfl ?_
  refine O.mv ?_
  refine O.yes rfl rfl ?_
  refine O.eqlI rfl rfl ?_
  refine O.cast (v' := .bool true) (congrArg Value.bool (by exact decide_eq_true (by rw [hkb]))) ?_
  refine O.pickT rfl ?_
  refine O.mv ?_
  refine O.yes rfl rfl ?_
  refine O.mv ?_
  refine O.yes rfl rfl ?_
  refine O.mv ?_
  refine O.yes rfl rfl ?_
  refine O.eqlI rfl rfl ?_
  refine O.cast (v' := .bool true) (congrArg Value.bool (by exact decide_eq_true he0)) ?_
  refine O.pickT rfl ?_
  refine O.asg ?_
  refine O.nil ?_
  refine hK3 _ _ ?_
  refine C.ret ?_
  refine Outs.one rfl rfl ?_
  exact ⟨rfl, (Ext.trans (Ext.new (Ext.trans (Ext.trans e1 e2) e3) e4 (by rintro i hi rfl; omega)) e5)⟩

set_option maxHeartbeats 1000000 in
theorem wseen_spec (v0 : Value) (l : List UInt8) (F : Nat → Prop) (vb1 vb2 : Value) (x : Cn.Ctx) (Fb : Nat → Prop) (e : Int) (w : World) (hl : Sl byteE w F v0 l) (hL : l.length ≤ 1000000) (hF : ∀ j, F j → j < w.heap.size) (mx : Mx w) (hbv : Sl Dt.dotF.enc w Fb vb1 x.1) (hbc : Sl Dt.dotF.enc w Fb vb2 x.2) (hFb : ∀ k, Fb k → k < w.heap.size) (hr : Cn.CtxRes l x e) :
    Ret Tryz.prog 53 #[v0, .agg #[vb1, vb2], .int .i64 (e)] w (fun v w' => v = .bool true ∧ Le w w') := by
  have hll := hl.le
  have hgl := mx.lt
  obtain ⟨r1, hr1⟩ := hbv.slv
  obtain ⟨r2, hr2⟩ := hbc.slv
  refine enter (args := [v0, .agg #[vb1, vb2], .int .i64 (e)]) (n := 24) Tryz.func53 rfl rfl (Nat.le_of_ble_eq_true rfl) ?_
  refine C.seqK fun K1 hK1 => ?_
  refine C.region ?_
  refine O.box (v := .agg #[vb1, vb2]) rfl (fun b4 w1 hb4 hz4 e1 => ?_)
  have z1 := e1.size
  have h4 := hz4.own
  have hl4 := h4.lt
  refine O.asg ?_
  refine O.nil ?_
  refine hK1 _ _ ?_
  refine C.seqK fun K2 hK2 => ?_
  refine C.region ?_
  refine O.mv ?_
  refine O.call Tryz.call77 (args1 rfl) (dcontext_spec v0 l F _ (hl.keep e1) hL (fun j hj => by have q1 := hF j hj; omega) (mx.keep e1)) ?_
  rintro v_11 w2 ⟨vav11, vbv11, xv11, env11, rfl, hxv11, hyv11, hnv11, hpv11, e2⟩
  have z2 := e2.size
  obtain ⟨p1, rfl⟩ := hxv11.slv
  obtain ⟨p2, rfl⟩ := hyv11.slv
  obtain ⟨hcb, he0⟩ := hpv11.uniq hr
  refine O.mv ?_
  refine O.extract rfl rfl ?_
  refine O.extract rfl rfl ?_
  refine O.alloc Tryz.zeroValue25 (fun b7 w3 hb7 hz7 e3 => ?_)
  have z3 := e3.size
  have h7 := hz7.own
  have hl7 := h7.lt
  refine O.storeA (vs := [slv p1, slv p2]) Tryz.sizeOf25 rfl rfl rfl (by simp [slv, Value.oneCell']) h7 (Nat.le_of_ble_eq_true rfl) (fun w4 hs4 e4 z4 => ?_)
  refine O.asg ?_
  refine O.nil ?_
  refine hK2 _ _ ?_
  refine C.seqK fun K3 hK3 => ?_
  refine C.region ?_
  refine O.loadOA Tryz.isAgg25 Tryz.sizeOf25 rfl hs4 (Nat.le_of_ble_eq_true rfl) ?_
  refine O.build (cells := #[slv p1, slv p2, .slice none 0 0]) rfl (by kernel_rfl) ?_
  refine O.loadOA Tryz.isAgg25 Tryz.sizeOf25 rfl (((h4.keep e2).keep e3).keepM e4 (by intro h; (try dsimp only at h); omega)) (Nat.le_of_ble_eq_true rfl) ?_
  refine O.cast (v' := .agg #[slv r1, slv r2]) (by rw [← hr1, ← hr2]; rfl) ?_
  refine O.build (cells := #[slv r1, slv r2, .slice none 0 0]) rfl (by kernel_rfl) ?_
  refine O.call Tryz.call21 (args2 rfl rfl) (same_spec (slv p1) (slv p2) (.slice none 0 0) (xv11, []) _ (slv r1) (slv r2) (.slice none 0 0) (x, []) Fb _ ((hxv11.keep e3).keepM e4 (by intro k hk h; first | (have q1 := hF k hk; (try dsimp only at h); omega) | (have q1 := hF2 k hk; (try dsimp only at h); omega) | (have q1 := hFb k hk; (try dsimp only at h); omega) | ((try dsimp only at hk); (try dsimp only at h); omega))) ((hyv11.keep e3).keepM e4 (by intro k hk h; first | (have q1 := hF k hk; (try dsimp only at h); omega) | (have q1 := hF2 k hk; (try dsimp only at h); omega) | (have q1 := hFb k hk; (try dsimp only at h); omega) | ((try dsimp only at hk); (try dsimp only at h); omega))) (Sl.nil _ _ _) (hr1 ▸ (hbv.keep (Ext.new (Ext.trans (Ext.trans e1 e2) e3) e4 (by rintro i hi rfl; omega)))) (hr2 ▸ (hbc.keep (Ext.new (Ext.trans (Ext.trans e1 e2) e3) e4 (by rintro i hi rfl; omega)))) (Sl.nil _ _ _) (fun j hj => by have q1 := hj.2; omega) (fun j hj => by have q1 := hFb j hj; omega)) ?_
  rintro v_18 w5 ⟨rfl, e5⟩
  have z5 := e5.size
  refine O.cast (v' := .bool true) (congrArg Value.bool (by exact decide_eq_true (by rw [hcb]))) ?_
  refine O.mv ?_
  refine O.yes rfl rfl ?_
  refine O.mv ?_
  refine O.yes rfl rfl ?_
  refine O.mv ?_
  refine O.yes rfl rfl ?_
  refine O.eqlI rfl rfl ?_
  refine O.cast (v' := .bool true) (congrArg Value.bool (by exact decide_eq_true he0)) ?_
  refine O.pickT rfl ?_
  refine O.asg ?_
  refine O.nil ?_
  refine hK3 _ _ ?_
  refine C.ret ?_
  refine Outs.one rfl rfl ?_
  exact ⟨rfl, (Ext.trans (Ext.new (Ext.trans (Ext.trans e1 e2) e3) e4 (by rintro i hi rfl; omega)) e5)⟩

set_option maxHeartbeats 2000000 in
theorem dcount_spec (v0 : Value) (l : List UInt8) (F : Nat → Prop) (w : World) (hl : Sl byteE w F v0 l) (hL : l.length ≤ 1000000) (hF : ∀ j, F j → j < w.heap.size) (mx : Mx w) :
    Ret Tryz.prog 57 #[v0] w (fun v w' => ∃ (n : Nat) (e : Int), v = .tuple #[.int .i64 (n : Int), .int .i64 e] ∧ Cn.CountRes l n e ∧ Le w w') := by
  have hll := hl.le
  have hgl := mx.lt
  refine enter (args := [v0]) (n := 33) Tryz.func57 rfl rfl (Nat.le_of_ble_eq_true rfl) ?_
  refine C.seqK fun K1 hK1 => ?_
  refine C.region ?_
  refine O.asg ?_
  refine O.asg ?_
  refine O.nil ?_
  refine hK1 _ _ ?_
  refine C.seqK fun K2 hK2 => ?_
  refine C.region ?_
  refine O.asg ?_
  refine O.nil ?_
  refine hK2 _ _ ?_
  refine C.seqK fun K3 hK3 => ?_
  refine C.block fun K4 hK4 => ?_
  refine C.loop0 (σ := List Cn.Cart × Value × Nat) (fun f0 w0 ⟨cs, pv, k⟩ f wz => f 0 = pv ∧ f 4 = .int .i64 ((cs.length : Int)) ∧ Le w wz ∧ Sl byteE wz F pv (l.drop k) ∧ k ≤ l.length ∧ Cn.manyQ Cn.val cs ∧ Cn.Seg (cs.flatMap Cn.bytes) l 0 k) (fun ⟨cs, pv, k⟩ => l.length - k) ([], v0, 0) ?_ ?_
  ·
    refine ⟨rfl, rfl, (Le.refl _), hl, ?_⟩
    exact ⟨Nat.zero_le _, Cn.manyQ_nil, Cn.Seg.nil (Nat.zero_le _)⟩
  ·
    rintro ⟨cs, pv, k⟩ f_1 w1 ⟨s0_1, s4_1, e_1, r0_1, ⟨hk, hQ, hS⟩⟩
    have z_1 := e_1.size
    have hcl := Cn.len_flat (f := Cn.bytes) (fun c => by have := Cn.bytes_len c; omega) cs
    have hcl2 := hS.2.1
    have hcl3 := hS.2.2
    refine C.seqK fun K5 hK5 => ?_
    refine C.seqK fun K6 hK6 => ?_
    refine C.region ?_
    refine O.mv ?_
    refine O.len Tryz.underlying32 s0_1 r0_1 ?_
    refine O.gtrI rfl rfl ?_
    refine O.nil ?_
    refine hK6 _ _ ?_
    refine C.condD rfl (fun c12 => ?_) (fun c12 => ?_)
    ·
      have hk2 : k < l.length := by rw [List.length_drop] at c12; omega
      refine C.skip ?_
      refine hK5 _ _ ?_
      refine C.block fun K7 hK7 => ?_
      refine C.seqK fun K8 hK8 => ?_
      refine C.region ?_
      refine O.mv ?_
      refine O.call Tryz.call58 (args1 s0_1) (prefix_spec pv (l.drop k) F _ r0_1 (by rw [List.length_drop]; omega) (fun j hj => by have q1 := hF j hj; omega) (mx.keep e_1)) ?_
      rintro v_15 w2 ⟨vav15, vbv15, vcv15, cv15, knv15, env15, rfl, hxv15, hyv15, hzv15, hgv15, hpv15, e2⟩
      have z2 := e2.size
      replace hxv15 := hxv15.sl
      replace hyv15 := hyv15.sl
      replace hzv15 := hzv15.sl
      obtain ⟨p1, rfl⟩ := hxv15.slv
      obtain ⟨p2, rfl⟩ := hyv15.slv
      obtain ⟨p3, rfl⟩ := hzv15.slv
      obtain ⟨hg1, hg2, hg3, hg4⟩ := hgv15
      refine O.mv ?_
      refine O.extract rfl rfl ?_
      refine O.extract rfl rfl ?_
      refine O.extract rfl rfl ?_
      refine O.alloc Tryz.zeroValue28 (fun b5 w3 hb5 hz5 e3 => ?_)
      have z3 := e3.size
      have h5 := hz5.own
      have hl5 := h5.lt
      refine O.storeA (vs := [slv p1, slv p2, slv p3]) Tryz.sizeOf28 rfl rfl rfl (by simp [slv, Value.oneCell']) h5 (Nat.le_of_ble_eq_true rfl) (fun w4 hs4 e4 z4 => ?_)
      refine O.asg ?_
      refine O.asg ?_
      refine O.nil ?_
      refine hK8 _ _ ?_
      refine C.seqK fun K9 hK9 => ?_
      refine C.seqK fun K10 hK10 => ?_
      refine C.region ?_
      refine O.mv ?_
      refine O.neqI rfl rfl ?_
      refine O.nil ?_
      refine hK10 _ _ ?_
      refine C.condD rfl (fun c20 => ?_) (fun c20 => ?_)
      ·
        refine C.seqK fun K11 hK11 => ?_
        refine C.region ?_
        refine O.mv ?_
        refine O.asg ?_
        refine O.asg ?_
        refine O.nil ?_
        refine hK11 _ _ ?_
        refine C.ret ?_
        refine Outs.two rfl rfl rfl ?_
        first
        | exact ⟨cs.length, 0, rfl, Cn.count_yes hS hQ (by rw [List.length_drop] at c12; omega), (Ext.new (Ext.trans (Ext.trans e_1 e2) e3) e4 (by rintro i hi rfl; omega))⟩
        | (rcases hpv15 with ⟨q1, _⟩ | ⟨q1, q2, q3, q4⟩
           · exact absurd q1 c20
           · exact ⟨0, env15, rfl, by rw [q1]; exact Cn.count_no hS hQ hk2 q4, (Ext.new (Ext.trans (Ext.trans e_1 e2) e3) e4 (by rintro i hi rfl; omega))⟩)
      ·
        obtain ⟨hva, hsg⟩ : Cn.valid cv15 = true ∧ Cn.Seg (Cn.bytes cv15) (l.drop k) 0 knv15 := by
          rcases hpv15 with ⟨_, q1, q2⟩ | ⟨q1, _⟩
          · exact ⟨q1, q2⟩
          · exfalso; omega
        have hst := Cn.count_step hS hsg
        have hsg2 := hsg.2.2
        refine C.skip ?_
        refine hK9 _ _ ?_
        refine C.seqK fun K12 hK12 => ?_
        refine C.region ?_
        refine O.loadOA Tryz.isAgg28 Tryz.sizeOf28 rfl hs4 (Nat.le_of_ble_eq_true rfl) ?_
        refine O.call Tryz.call24 (args1 rfl) (size_spec (slv p1) (slv p2) (slv p3) cv15 _ _ ((hxv15.keep e3).keepM e4 (by intro k hk h; first | (have q1 := hF k hk; (try dsimp only at h); omega) | (have q1 := hF2 k hk; (try dsimp only at h); omega) | (have q1 := hFb k hk; (try dsimp only at h); omega) | ((try dsimp only at hk); (try dsimp only at h); omega))) ((hyv15.keep e3).keepM e4 (by intro k hk h; first | (have q1 := hF k hk; (try dsimp only at h); omega) | (have q1 := hF2 k hk; (try dsimp only at h); omega) | (have q1 := hFb k hk; (try dsimp only at h); omega) | ((try dsimp only at hk); (try dsimp only at h); omega))) ((hzv15.keep e3).keepM e4 (by intro k hk h; first | (have q1 := hF k hk; (try dsimp only at h); omega) | (have q1 := hF2 k hk; (try dsimp only at h); omega) | (have q1 := hFb k hk; (try dsimp only at h); omega) | ((try dsimp only at hk); (try dsimp only at h); omega))) (fun j hj => by have q1 := hj.2; omega) hg3 hg4 hg1 hg2 (mx.keep (Ext.new (Ext.trans (Ext.trans e_1 e2) e3) e4 (by rintro i hi rfl; omega)))) ?_
        rintro v_24 w5 ⟨rfl, e5⟩
        have z5 := e5.size
        refine O.mv ?_
        refine O.extract rfl rfl ?_
        refine O.cast (v' := .int .i64 (knv15 : Int)) (congrArg (Value.int .i64) (by rw [hva, if_pos rfl, hsg.2.1, Nat.zero_add])) ?_
        refine O.extract rfl rfl ?_
        refine O.asg ?_
        refine O.asg ?_
        refine O.nil ?_
        refine hK12 _ _ ?_
        refine C.draw (by kernel_rfl) fun w6 e6 => ?_
        have z6 := e6.size
        refine D.take (i := 0) rfl rfl rfl rfl (by kernel_rfl) (Le.refl _) ⟨pure _, rfl⟩ (fun w_ hw_ N_ hN => (O.mv (O.nil hN))) ?_
        refine D.take (i := 1) rfl rfl rfl rfl (by kernel_rfl) (Le.refl _) ⟨_, rfl⟩ (fun w_ hw_ N_ hN => (O.addI s4_1 rfl (by unfold InI; omega) (O.nil hN))) ?_
        refine D.take (i := 2) rfl rfl rfl rfl (by kernel_rfl) (Le.refl _) ⟨pure _, rfl⟩ (fun w_ hw_ N_ hN => (O.mv (O.nil hN))) ?_
        refine D.take (i := 3) rfl rfl rfl rfl (by kernel_rfl) (Le.refl _) ⟨pure _, rfl⟩ (fun w_ hw_ N_ hN => (O.mv (O.nil hN))) ?_
        have hb31 := Sl.sub (P := Tryz.prog) (knv15) ((l.drop k).length) Tryz.underlying32 Tryz.sizeOf5 (by rfl) (((((r0_1.keep e2).keep e3).keepM e4 (by intro k hk h; first | (have q1 := hF k hk; (try dsimp only at h); omega) | (have q1 := hF2 k hk; (try dsimp only at h); omega) | (have q1 := hFb k hk; (try dsimp only at h); omega) | ((try dsimp only at hk); (try dsimp only at h); omega))).keep e5).keep e6) (by omega) (Nat.le_refl _)
        obtain ⟨v31, hs31, hr31⟩ := hb31
        refine D.take (i := 4) rfl rfl rfl rfl (by kernel_rfl) (Le.refl _) ⟨_, rfl⟩ (fun w_ hw_ N_ hN => (O.subR s0_1 hr31 (.inr ⟨_, _, rfl, rfl⟩) (.inl ⟨rfl, rfl⟩) (O.nil hN))) ?_
        refine D.take (i := 5) rfl rfl rfl rfl (by kernel_rfl) (Le.refl _) ⟨pure _, rfl⟩ (fun w_ hw_ N_ hN => (O.asg (O.nil hN))) ?_
        refine D.take (i := 6) rfl rfl rfl rfl (by kernel_rfl) (Le.refl _) ⟨pure _, rfl⟩ (fun w_ hw_ N_ hN => (O.asg (O.nil hN))) ?_
        refine D.done (by kernel_rfl) ?_
        refine hK7 _ _ ?_
        refine ⟨(cs ++ [cv15], v31, k + knv15), ⟨rfl, (Eq.trans rfl (congrArg (Value.int .i64) (by rw [List.length_append]; simp))), (Ext.trans (Ext.trans (Ext.new (Ext.trans (Ext.trans e_1 e2) e3) e4 (by rintro i hi rfl; omega)) e5) e6), (by have q := hs31; rw [List.take_length, List.drop_drop] at q; exact q), ?_⟩, by show l.length - (k + knv15) < l.length - k; have := hst.2; omega⟩
        exact ⟨hst.1.2.2, Cn.manyQ_snoc hQ hva, hst.1⟩
    ·
      refine C.exit ?_
      refine hK4 _ _ ?_
      refine hK3 _ _ ?_
      refine C.seqK fun K13 hK13 => ?_
      refine C.region ?_
      refine O.mv ?_
      refine O.asg ?_
      refine O.asg ?_
      refine O.nil ?_
      refine hK13 _ _ ?_
      refine C.ret ?_
      refine Outs.two rfl s4_1 rfl ?_
      first
      | exact ⟨cs.length, 0, rfl, Cn.count_yes hS hQ (by rw [List.length_drop] at c12; omega), e_1⟩
      | (rcases hpv15 with ⟨q1, _⟩ | ⟨q1, q2, q3, q4⟩
         · exact absurd q1 c20
         · exact ⟨0, env15, rfl, by rw [q1]; exact Cn.count_no hS hQ hk2 q4, e_1⟩)

theorem counts_spec (v0 : Value) (l : List UInt8) (F : Nat → Prop) (n : Nat) (e : Int) (w : World) (hl : Sl byteE w F v0 l) (hL : l.length ≤ 1000000) (hF : ∀ j, F j → j < w.heap.size) (mx : Mx w) (hr : Cn.CountRes l n e) :
    Ret Tryz.prog 32 #[v0, .int .i64 ((n : Int)), .int .i64 (e)] w (fun v w' => v = .bool true ∧ Le w w') := by
  refine enter (args := [v0, .int .i64 ((n : Int)), .int .i64 (e)]) (n := 22) Tryz.func32 rfl rfl (Nat.le_of_ble_eq_true rfl) ?_
  refine C.seqK fun K1 hK1 => ?_
  refine C.region ?_
  refine O.asg ?_
  refine O.nil ?_
  refine hK1 _ _ ?_
  refine C.seqK fun K2 hK2 => ?_
  refine C.region ?_
  refine O.mv ?_
  refine O.call Tryz.call57 (args1 rfl) (dcount_spec v0 l F _ hl hL hF mx) ?_
  rintro v_11 w1 ⟨nv11, env11, rfl, hpv11, e1⟩
  have z1 := e1.size
  obtain ⟨hkb, he0⟩ := hpv11.uniq hr
  refine O.mv ?_
  refine O.extract rfl rfl ?_
  refine O.extract rfl rfl ?_
  refine O.asg ?_
  refine O.asg ?_
  refine O.nil ?_
  refine hK2 _ _ ?_
  refine C.seqK fun K3 hK3 => ?_
  refine C.region ?_
  refine O.mv ?_
  refine O.mv ?_
  refine O.eqlI rfl rfl ?_
  refine O.cast (v' := .bool true) (congrArg Value.bool (by exact decide_eq_true (by rw [hkb]))) ?_
  refine O.mv ?_
  refine O.yes rfl rfl ?_
  refine O.mv ?_
  refine O.yes rfl rfl ?_
  refine O.mv ?_
  refine O.yes rfl rfl ?_
  refine O.eqlI rfl rfl ?_
  refine O.cast (v' := .bool true) (congrArg Value.bool (by exact decide_eq_true he0)) ?_
  refine O.pickT rfl ?_
  refine O.asg ?_
  refine O.nil ?_
  refine hK3 _ _ ?_
  refine C.ret ?_
  refine Outs.one rfl rfl ?_
  exact ⟨rfl, e1⟩

end Go.Proofs.YtnkcmaoaagnopaaGreatDoor
end
section
/-
  The walk of the chapter's examples. Conditions: slices as they lie in memory.
-/
namespace Go.Proofs.YtnkcmaoaagnopaaGreatDoor
open Go.Pn Go.RowKit Go.Proofs
attribute [local irreducible] O C D

set_option maxHeartbeats 16000000 in
theorem wknown_spec (w : World) (mx : Mx w) :
    Ret Tryz.prog 29 #[] w (fun v w' => v = .bool true ∧ Le w w') := by
  obtain ⟨ie51, ti51, ts51, tb51, tz51⟩ := inf51
  obtain ⟨ie53, ti53, ts53, tb53, tz53⟩ := inf53
  obtain ⟨ie56, ti56, ts56, tb56, tz56⟩ := inf56
  obtain ⟨ie5, ti5, ts5, tb5, tz5⟩ := inf5
  obtain ⟨ie32, ti32, ts32, tb32, tz32⟩ := inf32
  refine enter (args := []) (n := 70) Tryz.func29 rfl rfl (Nat.le_of_ble_eq_true rfl) ?_
  refine C.seqK fun K1 hK1 => ?_
  refine C.region ?_
  refine O.asg ?_
  refine O.nil ?_
  refine hK1 _ _ ?_
  refine C.seqK fun K2 hK2 => ?_
  refine C.region ?_
  refine O.build (cells := #[.int .i64 2, .int .i64 3]) rfl (by kernel_rfl) ?_
  refine O.litG (G := Dt.dotF) [(2, 3)] Tryz.underlying23 ti51 ts51 tz51 rfl (by decide) (by decide) rfl (fun b5 w1 hb5 hz5 e1 => ?_)
  have z1 := e1.size
  have h5 := hz5.own
  have hq5 := Sl.litG (n := 1) h5 rfl (by unfold maxLen; omega)
  have hl5 := h5.lt
  refine O.build (cells := #[.int .i64 5, .int .i64 9]) rfl (by kernel_rfl) ?_
  refine O.litG (G := Dt.dotF) [(5, 9)] Tryz.underlying22 ti51 ts51 tz51 rfl (by decide) (by decide) rfl (fun b7 w2 hb7 hz7 e2 => ?_)
  have z2 := e2.size
  have h7 := hz7.own
  have hq7 := Sl.litG (n := 1) h7 rfl (by unfold maxLen; omega)
  have hl7 := h7.lt
  refine O.build (cells := #[.slice (some ⟨b5, 0, none⟩) 1 1, .slice (some ⟨b7, 0, none⟩) 1 1]) rfl (by kernel_rfl) ?_
  refine O.build (cells := #[.int .i64 2, .int .i64 3]) rfl (by kernel_rfl) ?_
  refine O.build (cells := #[.int .i64 2, .int .i64 3, .int .i64 200, .int .u64 1]) rfl (by kernel_rfl) ?_
  refine O.litG (G := markF) [((2, 3), 200, 1#64)] Tryz.underlying54 ti53 ts53 tz53 rfl (by decide) (by decide) rfl (fun b11 w3 hb11 hz11 e3 => ?_)
  have z3 := e3.size
  have h11 := hz11.own
  have hq11 := Sl.litG (n := 1) h11 rfl (by unfold maxLen; omega)
  have hl11 := h11.lt
  refine O.build (cells := #[str [116, 101, 97], .slice (some ⟨b11, 0, none⟩) 1 1]) rfl (by kernel_rfl) ?_
  refine O.litG (G := itemF) [([116, 101, 97], (some ⟨b11, 0, none⟩, 1, 1))] Tryz.underlying26 ti56 ts56 tz56 rfl (by decide) (by decide) rfl (fun b13 w4 hb13 hz13 e4 => ?_)
  have z4 := e4.size
  have h13 := hz13.own
  have hq13 := Sl.litG (n := 1) h13 rfl (by unfold maxLen; omega)
  have hl13 := h13.lt
  refine O.build (cells := #[.slice (some ⟨b5, 0, none⟩) 1 1, .slice (some ⟨b7, 0, none⟩) 1 1, .slice (some ⟨b13, 0, none⟩) 1 1]) rfl (by kernel_rfl) ?_
  refine O.alloc Tryz.zeroValue28 (fun b1 w5 hb1 hz1 e5 => ?_)
  have z5 := e5.size
  have h1 := hz1.own
  have hl1 := h1.lt
  refine O.storeA (vs := [.slice (some ⟨b5, 0, none⟩) 1 1, .slice (some ⟨b7, 0, none⟩) 1 1, .slice (some ⟨b13, 0, none⟩) 1 1]) Tryz.sizeOf28 rfl rfl rfl (ones3c rfl rfl rfl) h1 (Nat.le_of_ble_eq_true rfl) (fun w6 hs6 e6 z6 => ?_)
  have l5 := (((((h5.keep e2).keep e3).keep e4).keep e5).keepM e6 (by intro h; (try dsimp only at h); omega)).lt
  have l7 := ((((h7.keep e3).keep e4).keep e5).keepM e6 (by intro h; (try dsimp only at h); omega)).lt
  have l11 := (((h11.keep e4).keep e5).keepM e6 (by intro h; (try dsimp only at h); omega)).lt
  have l13 := ((h13.keep e5).keepM e6 (by intro h; (try dsimp only at h); omega)).lt
  obtain ⟨wk, hwk⟩ : ∃ x, x = w6 := ⟨_, rfl⟩
  have hzk : wk.heap.size = w6.heap.size := by rw [hwk]
  have he1 : Sl Dt.dotF.enc w6 (fun j => j < wk.heap.size) (.slice (some ⟨b5, 0, none⟩) 1 1) Cn.exam.1.1 := ((((((hq5.keep e2).keep e3).keep e4).keep e5).keepM e6 (by intro k hk h; (try dsimp only at hk); (try dsimp only at h); omega))).weak (by intro j hj; have hj : j = b5 := hj; show j < wk.heap.size; omega)
  have he2 : Sl Dt.dotF.enc w6 (fun j => j < wk.heap.size) (.slice (some ⟨b7, 0, none⟩) 1 1) Cn.exam.1.2 := (((((hq7.keep e3).keep e4).keep e5).keepM e6 (by intro k hk h; (try dsimp only at hk); (try dsimp only at h); omega))).weak (by intro j hj; have hj : j = b7 := hj; show j < wk.heap.size; omega)
  have he3 : Sl itemE w6 (fun j => j < wk.heap.size) (.slice (some ⟨b13, 0, none⟩) 1 1) Cn.exam.2 := Items.sl (Items.snoc Items.nil rfl (((((hq11.keep e4).keep e5).keepM e6 (by intro k hk h; (try dsimp only at hk); (try dsimp only at h); omega))).weak (by intro j hj; have hj : j = b11 := hj; show j < wk.heap.size; omega))) ((((hq13.keep e5).keepM e6 (by intro k hk h; (try dsimp only at hk); (try dsimp only at h); omega))).weak (by intro j hj; have hj : j = b13 := hj; show j < wk.heap.size; omega))
  refine O.nil ?_
  refine hK2 _ _ ?_
  refine C.seqK fun K3 hK3 => ?_
  refine C.seqK fun K4 hK4 => ?_
  refine C.region ?_
  refine O.litn [.int .u8 0, .int .u8 0, .int .u8 0] Tryz.underlying32 ti5 ts5 tz5 rfl (by decide) (by decide) rfl (by simp [Value.oneCell']) (fun b15 w7 hb15 hz15 e7 => ?_)
  have z7 := e7.size
  have h15 := hz15.own
  have hl15 := h15.lt
  have h15s : Sl byteE w7 (fun k => k = b15) (.slice (some ⟨b15, 0, none⟩) 3 3) [0, 0, 0] := Sl.of_own (G := byteF) h15 rfl (Nat.le_refl _) (by unfold maxLen; omega) (by simp [byteF])
  refine O.build (cells := #[.slice none 0 0, .slice none 0 0, .slice none 0 0]) rfl (by kernel_rfl) ?_
  refine O.call Tryz.call35 (args3 rfl rfl rfl) (isY_spec (.slice (some ⟨b15, 0, none⟩) 3 3) [0, 0, 0] _ (.slice none 0 0) (.slice none 0 0) (.slice none 0 0) Cn.nil0 (fun _ => False) _ h15s (by decide) (fun j hj => by have hj : j = b15 := hj; have := h15.lt; omega) (mx.keep (Ext.trans (Ext.new (Ext.trans (Ext.trans (Ext.trans (Ext.trans e1 e2) e3) e4) e5) e6 (by rintro i hi rfl; omega)) e7)) (Sl.nil _ _ _) (Sl.nil _ _ _) (Sl.nil _ _ _) (fun _ h => h.elim) Cn.is_nil0) ?_
  rintro v_17 w8 ⟨rfl, e8⟩
  have z8 := e8.size
  refine O.not rfl ?_
  refine O.cast (v' := .bool false) rfl ?_
  refine O.mv ?_
  refine O.yes rfl rfl ?_
  refine O.litn [.int .u8 1, .int .u8 2, .int .u8 3, .int .u8 1, .int .u8 5, .int .u8 9, .int .u8 1, .int .u8 3, .int .u8 116, .int .u8 101, .int .u8 97, .int .u8 1, .int .u8 2, .int .u8 3, .int .u8 200, .int .u8 1, .int .u8 1] Tryz.underlying32 ti5 ts5 tz5 rfl (by decide) (by decide) rfl (by simp [Value.oneCell']) (fun b20 w9 hb20 hz20 e9 => ?_)
  have z9 := e9.size
  have h20 := hz20.own
  have hl20 := h20.lt
  have h20s : Sl byteE w9 (fun k => k = b20) (.slice (some ⟨b20, 0, none⟩) 17 17) [1, 2, 3, 1, 5, 9, 1, 3, 116, 101, 97, 1, 2, 3, 200, 1, 1] := Sl.of_own (G := byteF) h20 rfl (Nat.le_refl _) (by unfold maxLen; omega) (by simp [byteF])
  refine O.yes rfl rfl ?_
  refine O.loadOA Tryz.isAgg28 Tryz.sizeOf28 rfl (((hs6.keep e7).keep e8).keep e9) (Nat.le_of_ble_eq_true rfl) ?_
  refine O.yes rfl rfl ?_
  refine O.call Tryz.call35 (args3 rfl rfl rfl) (isY_spec (.slice (some ⟨b20, 0, none⟩) 17 17) [1, 2, 3, 1, 5, 9, 1, 3, 116, 101, 97, 1, 2, 3, 200, 1, 1] _ (.slice (some ⟨b5, 0, none⟩) 1 1) (.slice (some ⟨b7, 0, none⟩) 1 1) (.slice (some ⟨b13, 0, none⟩) 1 1) Cn.exam (fun j => j < wk.heap.size) _ h20s (by decide) (fun j hj => by have hj : j = b20 := hj; have := h20.lt; omega) (mx.keep (Ext.trans (Ext.trans (Ext.trans (Ext.new (Ext.trans (Ext.trans (Ext.trans (Ext.trans e1 e2) e3) e4) e5) e6 (by rintro i hi rfl; omega)) e7) e8) e9)) (((he1.keep e7).keep e8).keep e9) (((he2.keep e7).keep e8).keep e9) (((he3.keep e7).keep e8).keep e9) (fun j hj => by have hj : j < wk.heap.size := hj; omega) Cn.is_exam) ?_
  rintro v_22 w10 ⟨rfl, e10⟩
  have z10 := e10.size
  refine O.yes rfl rfl ?_
  refine O.not rfl ?_
  refine O.cast (v' := .bool false) rfl ?_
  refine O.pickF rfl ?_
  refine O.nil ?_
  refine hK4 _ _ ?_
  refine C.condF rfl ?_
  refine C.skip ?_
  refine hK3 _ _ ?_
  refine C.seqK fun K5 hK5 => ?_
  refine C.seqK fun K6 hK6 => ?_
  refine C.region ?_
  refine O.litn [.int .u8 0, .int .u8 0] Tryz.underlying32 ti5 ts5 tz5 rfl (by decide) (by decide) rfl (by simp [Value.oneCell']) (fun b25 w11 hb25 hz25 e11 => ?_)
  have z11 := e11.size
  have h25 := hz25.own
  have hl25 := h25.lt
  have h25s : Sl byteE w11 (fun k => k = b25) (.slice (some ⟨b25, 0, none⟩) 2 2) [0, 0] := Sl.of_own (G := byteF) h25 rfl (Nat.le_refl _) (by unfold maxLen; omega) (by simp [byteF])
  refine O.litn [.int .u8 0, .int .u8 0, .int .u8 0, .int .u8 0] Tryz.underlying32 ti5 ts5 tz5 rfl (by decide) (by decide) rfl (by simp [Value.oneCell']) (fun b26 w12 hb26 hz26 e12 => ?_)
  have z12 := e12.size
  have h26 := hz26.own
  have hl26 := h26.lt
  have h26s : Sl byteE w12 (fun k => k = b26) (.slice (some ⟨b26, 0, none⟩) 4 4) [0, 0, 0, 0] := Sl.of_own (G := byteF) h26 rfl (Nat.le_refl _) (by unfold maxLen; omega) (by simp [byteF])
  refine O.litn [.int .u8 0, .int .u8 0, .int .u8 128, .int .u8 0] Tryz.underlying32 ti5 ts5 tz5 rfl (by decide) (by decide) rfl (by simp [Value.oneCell']) (fun b27 w13 hb27 hz27 e13 => ?_)
  have z13 := e13.size
  have h27 := hz27.own
  have hl27 := h27.lt
  have h27s : Sl byteE w13 (fun k => k = b27) (.slice (some ⟨b27, 0, none⟩) 4 4) [0, 0, 128, 0] := Sl.of_own (G := byteF) h27 rfl (Nat.le_refl _) (by unfold maxLen; omega) (by simp [byteF])
  refine O.litn [.int .u8 0, .int .u8 1, .int .u8 5, .int .u8 1, .int .u8 0] Tryz.underlying32 ti5 ts5 tz5 rfl (by decide) (by decide) rfl (by simp [Value.oneCell']) (fun b28 w14 hb28 hz28 e14 => ?_)
  have z14 := e14.size
  have h28 := hz28.own
  have hl28 := h28.lt
  have h28s : Sl byteE w14 (fun k => k = b28) (.slice (some ⟨b28, 0, none⟩) 5 5) [0, 1, 5, 1, 0] := Sl.of_own (G := byteF) h28 rfl (Nat.le_refl _) (by unfold maxLen; omega) (by simp [byteF])
  refine O.litn [.slice (some ⟨b25, 0, none⟩) 2 2, .slice (some ⟨b26, 0, none⟩) 4 4, .slice (some ⟨b27, 0, none⟩) 4 4, .slice none 0 0, .slice (some ⟨b28, 0, none⟩) 5 5] Tryz.underlying67 ti32 ts32 tz32 rfl (by decide) (by decide) rfl (by simp [Value.oneCell']) (fun b29 w15 hb29 hz29 e15 => ?_)
  have z15 := e15.size
  have h29 := hz29.own
  have hl29 := h29.lt
  have l25 := ((((h25.keep e12).keep e13).keep e14).keep e15).lt
  have l26 := (((h26.keep e13).keep e14).keep e15).lt
  have l27 := ((h27.keep e14).keep e15).lt
  have l28 := (h28.keep e15).lt
  have l29 := h29.lt
  obtain ⟨wb, hwb⟩ : ∃ x, x = w15 := ⟨_, rfl⟩
  have hzb : wb.heap.size = w15.heap.size := by rw [hwb]
  have hbads : Sl (sliE byteE) w15 (fun j => j = b29 ∨ j < wb.heap.size) (.slice (some ⟨b29, 0, none⟩) 5 5) Cn.bads := Sl.lits (F := fun j => j < wb.heap.size) h29 rfl (by decide) fun i h1 h2 => by
    match i, h1, h2 with
    | 0, _, _ => exact (((((h25s.keep e12).keep e13).keep e14).keep e15)).weak (by intro j hj; have hj : j = b25 := hj; show j < wb.heap.size; omega)
    | 1, _, _ => exact ((((h26s.keep e13).keep e14).keep e15)).weak (by intro j hj; have hj : j = b26 := hj; show j < wb.heap.size; omega)
    | 2, _, _ => exact (((h27s.keep e14).keep e15)).weak (by intro j hj; have hj : j = b27 := hj; show j < wb.heap.size; omega)
    | 3, _, _ => exact Sl.nil _ _ _
    | 4, _, _ => exact ((h28s.keep e15)).weak (by intro j hj; have hj : j = b28 := hj; show j < wb.heap.size; omega)
  refine O.len Tryz.underlying67 rfl hbads ?_
  refine O.mv ?_
  refine O.nil ?_
  refine hK6 _ _ ?_
  refine C.block fun K7 hK7 => ?_
  refine C.loop0 (σ := Nat) (fun f0 w0 i f w => f 31 = .int .i64 ((i : Int)) ∧ f 1 = f0 1 ∧ f 29 = f0 29 ∧ f 30 = f0 30 ∧ Le w0 w ∧ i ≤ 5) (fun i => 5 - i) 0 ?_ ?_
  ·
    refine ⟨rfl, rfl, rfl, rfl, Le.refl _, ?_⟩
    exact Nat.zero_le _
  ·
    rintro i f_1 w16 ⟨s31_1, s1_1, s29_1, s30_1, e_1, hi⟩
    have z_1 := e_1.size
    refine C.seqK fun K8 hK8 => ?_
    refine C.region ?_
    refine O.lssI s31_1 s30_1 ?_
    refine O.nil ?_
    refine hK8 _ _ ?_
    refine C.seqK fun K9 hK9 => ?_
    refine C.condD rfl (fun c32 => ?_) (fun c32 => ?_)
    ·
      have hi2 : i < Cn.bads.length := by omega
      have hi3 : Cn.bads.length = 5 := rfl
      have hlb29 := h29.lt
      refine C.skip ?_
      refine hK9 _ _ ?_
      refine C.seqK fun K10 hK10 => ?_
      refine C.block fun K11 hK11 => ?_
      refine C.seqK fun K12 hK12 => ?_
      refine C.region ?_
      refine O.idx Tryz.underlying67 Tryz.sizeOf32 rfl s29_1 (hbads.keep e_1) s31_1 (by omega) (fun a33 h33 => ?_)
      refine O.loadSl Tryz.isAgg32 rfl h33 (fun v34 h34 => ?_)
      refine O.asg ?_
      refine O.nil ?_
      refine hK12 _ _ ?_
      refine C.seqK fun K13 hK13 => ?_
      refine C.region ?_
      refine O.mv ?_
      refine O.build (cells := #[.slice none 0 0, .slice none 0 0, .slice none 0 0]) rfl (by kernel_rfl) ?_
      refine O.call Tryz.call35 (args3 rfl rfl rfl) (isN_spec v34 Cn.bads[i] _ (.slice none 0 0) (.slice none 0 0) (.slice none 0 0) Cn.nil0 (fun _ => False) _ h34 (Nat.le_trans (Cn.bads_len i hi2) (by decide)) (fun j hj => by have hj : j = b29 ∨ j < wb.heap.size := hj; omega) (mx.keep (Ext.trans (Ext.trans (Ext.trans (Ext.trans (Ext.trans (Ext.trans (Ext.trans (Ext.trans (Ext.trans (Ext.trans (Ext.new (Ext.trans (Ext.trans (Ext.trans (Ext.trans e1 e2) e3) e4) e5) e6 (by rintro i hi rfl; omega)) e7) e8) e9) e10) e11) e12) e13) e14) e15) e_1)) (Sl.nil _ _ _) (Sl.nil _ _ _) (Sl.nil _ _ _) (fun _ h => h.elim) (Cn.bads_no i hi2)) ?_
      rintro v_37 w17 ⟨rfl, e17⟩
      have z17 := e17.size
      refine O.not rfl ?_
      refine O.cast (v' := .bool false) rfl ?_
      refine O.nil ?_
      refine hK13 _ _ ?_
      refine C.condF rfl ?_
      refine C.skip ?_
      refine hK11 _ _ ?_
      refine hK10 _ _ ?_
      refine C.region ?_
      refine O.addI s31_1 rfl (by unfold InI; omega) ?_
      refine O.mv ?_
      refine O.nil ?_
      refine ⟨(i + 1), ⟨rfl, s1_1, s29_1, s30_1, (Ext.trans e_1 e17), ?_⟩, by first | omega | (simp only []; omega)⟩
      omega
    ·
      refine C.exit ?_
      refine hK7 _ _ ?_
      refine hK5 _ _ ?_
      refine C.seqK fun K14 hK14 => ?_
      refine C.region ?_
      refine O.litn [.int .u8 0, .int .u8 0, .int .u8 0, .int .u8 7, .int .u8 7] Tryz.underlying32 ti5 ts5 tz5 rfl (by decide) (by decide) rfl (by simp [Value.oneCell']) (fun b40 w18 hb40 hz40 e18 => ?_)
      have z18 := e18.size
      have h40 := hz40.own
      have hl40 := h40.lt
      have h40s : Sl byteE w18 (fun k => k = b40) (.slice (some ⟨b40, 0, none⟩) 5 5) [0, 0, 0, 7, 7] := Sl.of_own (G := byteF) h40 rfl (Nat.le_refl _) (by unfold maxLen; omega) (by simp [byteF])
      refine O.build (cells := #[.slice none 0 0, .slice none 0 0, .slice none 0 0]) rfl (by kernel_rfl) ?_
      refine O.call Tryz.call36 (args4 rfl rfl rfl rfl) (begins_spec (.slice (some ⟨b40, 0, none⟩) 5 5) [0, 0, 0, 7, 7] _ (.slice none 0 0) (.slice none 0 0) (.slice none 0 0) Cn.nil0 (fun _ => False) 3 0 _ h40s (by decide) (fun j hj => by have hj : j = b40 := hj; have := h40.lt; omega) (mx.keep (Ext.trans (Ext.trans (Ext.trans (Ext.trans (Ext.trans (Ext.trans (Ext.trans (Ext.trans (Ext.trans (Ext.trans (Ext.trans (Ext.new (Ext.trans (Ext.trans (Ext.trans (Ext.trans e1 e2) e3) e4) e5) e6 (by rintro i hi rfl; omega)) e7) e8) e9) e10) e11) e12) e13) e14) e15) e_1) e18)) (Sl.nil _ _ _) (Sl.nil _ _ _) (Sl.nil _ _ _) (fun _ h => h.elim) Cn.pref_front) ?_
      rintro v_42 w19 ⟨rfl, e19⟩
      have z19 := e19.size
      refine O.mv ?_
      refine O.yes rfl rfl ?_
      refine O.litn [.int .u8 7, .int .u8 7] Tryz.underlying32 ti5 ts5 tz5 rfl (by decide) (by decide) rfl (by simp [Value.oneCell']) (fun b44 w20 hb44 hz44 e20 => ?_)
      have z20 := e20.size
      have h44 := hz44.own
      have hl44 := h44.lt
      have h44s : Sl byteE w20 (fun k => k = b44) (.slice (some ⟨b44, 0, none⟩) 2 2) [7, 7] := Sl.of_own (G := byteF) h44 rfl (Nat.le_refl _) (by unfold maxLen; omega) (by simp [byteF])
      refine O.yes rfl rfl ?_
      refine O.build (cells := #[.slice none 0 0, .slice none 0 0, .slice none 0 0]) rfl (by kernel_rfl) ?_
      refine O.yes rfl rfl ?_
      refine O.call Tryz.call36 (args4 rfl rfl rfl rfl) (begins_spec (.slice (some ⟨b44, 0, none⟩) 2 2) [7, 7] _ (.slice none 0 0) (.slice none 0 0) (.slice none 0 0) Cn.nil0 (fun _ => False) 0 12 _ h44s (by decide) (fun j hj => by have hj : j = b44 := hj; have := h44.lt; omega) (mx.keep (Ext.trans (Ext.trans (Ext.trans (Ext.trans (Ext.trans (Ext.trans (Ext.trans (Ext.trans (Ext.trans (Ext.trans (Ext.trans (Ext.trans (Ext.trans (Ext.new (Ext.trans (Ext.trans (Ext.trans (Ext.trans e1 e2) e3) e4) e5) e6 (by rintro i hi rfl; omega)) e7) e8) e9) e10) e11) e12) e13) e14) e15) e_1) e18) e19) e20)) (Sl.nil _ _ _) (Sl.nil _ _ _) (Sl.nil _ _ _) (fun _ h => h.elim) (Cn.pref_short (by decide))) ?_
      rintro v_46 w21 ⟨rfl, e21⟩
      have z21 := e21.size
      refine O.pickT rfl ?_
      refine O.mv ?_
      refine O.yes rfl rfl ?_
      refine O.litn [.int .u8 0, .int .u8 0, .int .u8 0, .int .u8 1, .int .u8 2, .int .u8 3, .int .u8 0, .int .u8 0] Tryz.underlying32 ti5 ts5 tz5 rfl (by decide) (by decide) rfl (by simp [Value.oneCell']) (fun b49 w22 hb49 hz49 e22 => ?_)
      have z22 := e22.size
      have h49 := hz49.own
      have hl49 := h49.lt
      have h49s : Sl byteE w22 (fun k => k = b49) (.slice (some ⟨b49, 0, none⟩) 8 8) [0, 0, 0, 1, 2, 3, 0, 0] := Sl.of_own (G := byteF) h49 rfl (Nat.le_refl _) (by unfold maxLen; omega) (by simp [byteF])
      refine O.yes rfl rfl ?_
      refine O.call Tryz.call32 (args3 rfl rfl rfl) (counts_spec (.slice (some ⟨b49, 0, none⟩) 8 8) [0, 0, 0, 1, 2, 3, 0, 0] _ 2 0 _ h49s (by decide) (fun j hj => by have hj : j = b49 := hj; have := h49.lt; omega) (mx.keep (Ext.trans (Ext.trans (Ext.trans (Ext.trans (Ext.trans (Ext.trans (Ext.trans (Ext.trans (Ext.trans (Ext.trans (Ext.trans (Ext.trans (Ext.trans (Ext.trans (Ext.trans (Ext.new (Ext.trans (Ext.trans (Ext.trans (Ext.trans e1 e2) e3) e4) e5) e6 (by rintro i hi rfl; omega)) e7) e8) e9) e10) e11) e12) e13) e14) e15) e_1) e18) e19) e20) e21) e22)) Cn.count_two) ?_
      rintro v_50 w23 ⟨rfl, e23⟩
      have z23 := e23.size
      refine O.pickT rfl ?_
      refine O.mv ?_
      refine O.yes rfl rfl ?_
      refine O.call Tryz.call32 (args3 rfl rfl rfl) (counts_spec (.slice none 0 0) [] (fun _ => False) 0 0 _ (Sl.nil _ _ _) (by decide) (fun _ h => h.elim) (mx.keep (Ext.trans (Ext.trans (Ext.trans (Ext.trans (Ext.trans (Ext.trans (Ext.trans (Ext.trans (Ext.trans (Ext.trans (Ext.trans (Ext.trans (Ext.trans (Ext.trans (Ext.trans (Ext.trans (Ext.new (Ext.trans (Ext.trans (Ext.trans (Ext.trans e1 e2) e3) e4) e5) e6 (by rintro i hi rfl; omega)) e7) e8) e9) e10) e11) e12) e13) e14) e15) e_1) e18) e19) e20) e21) e22) e23)) Cn.count_nil) ?_
      rintro v_53 w24 ⟨rfl, e24⟩
      have z24 := e24.size
      refine O.pickT rfl ?_
      refine O.mv ?_
      refine O.yes rfl rfl ?_
      refine O.litn [.int .u8 0, .int .u8 0, .int .u8 0, .int .u8 0] Tryz.underlying32 ti5 ts5 tz5 rfl (by decide) (by decide) rfl (by simp [Value.oneCell']) (fun b56 w25 hb56 hz56 e25 => ?_)
      have z25 := e25.size
      have h56 := hz56.own
      have hl56 := h56.lt
      have h56s : Sl byteE w25 (fun k => k = b56) (.slice (some ⟨b56, 0, none⟩) 4 4) [0, 0, 0, 0] := Sl.of_own (G := byteF) h56 rfl (Nat.le_refl _) (by unfold maxLen; omega) (by simp [byteF])
      refine O.yes rfl rfl ?_
      refine O.call Tryz.call32 (args3 rfl rfl rfl) (counts_spec (.slice (some ⟨b56, 0, none⟩) 4 4) [0, 0, 0, 0] _ 0 12 _ h56s (by decide) (fun j hj => by have hj : j = b56 := hj; have := h56.lt; omega) (mx.keep (Ext.trans (Ext.trans (Ext.trans (Ext.trans (Ext.trans (Ext.trans (Ext.trans (Ext.trans (Ext.trans (Ext.trans (Ext.trans (Ext.trans (Ext.trans (Ext.trans (Ext.trans (Ext.trans (Ext.trans (Ext.trans (Ext.new (Ext.trans (Ext.trans (Ext.trans (Ext.trans e1 e2) e3) e4) e5) e6 (by rintro i hi rfl; omega)) e7) e8) e9) e10) e11) e12) e13) e14) e15) e_1) e18) e19) e20) e21) e22) e23) e24) e25)) Cn.count_four) ?_
      rintro v_57 w26 ⟨rfl, e26⟩
      have z26 := e26.size
      refine O.pickT rfl ?_
      refine O.mv ?_
      refine O.yes rfl rfl ?_
      refine O.litn [.int .u8 1, .int .u8 2, .int .u8 3, .int .u8 1, .int .u8 5, .int .u8 9] Tryz.underlying32 ti5 ts5 tz5 rfl (by decide) (by decide) rfl (by simp [Value.oneCell']) (fun b60 w27 hb60 hz60 e27 => ?_)
      have z27 := e27.size
      have h60 := hz60.own
      have hl60 := h60.lt
      have h60s : Sl byteE w27 (fun k => k = b60) (.slice (some ⟨b60, 0, none⟩) 6 6) [1, 2, 3, 1, 5, 9] := Sl.of_own (G := byteF) h60 rfl (Nat.le_refl _) (by unfold maxLen; omega) (by simp [byteF])
      refine O.yes rfl rfl ?_
      refine O.fieldAd Tryz.underlying28 rfl Tryz.sizeOf25 (by decide) s1_1 ?_
      refine O.yes rfl rfl ?_
      refine O.loadOA Tryz.isAgg25 Tryz.sizeOf25 rfl ((((((((((((((((((((hs6.keep e7).keep e8).keep e9).keep e10).keep e11).keep e12).keep e13).keep e14).keep e15).keep e_1).keep e18).keep e19).keep e20).keep e21).keep e22).keep e23).keep e24).keep e25).keep e26).keep e27) (Nat.le_of_ble_eq_true rfl) ?_
      refine O.yes rfl rfl ?_
      refine O.call Tryz.call53 (args3 rfl rfl rfl) (wseen_spec (.slice (some ⟨b60, 0, none⟩) 6 6) [1, 2, 3, 1, 5, 9] _ (.slice (some ⟨b5, 0, none⟩) 1 1) (.slice (some ⟨b7, 0, none⟩) 1 1) Cn.exam.1 (fun j => j < wk.heap.size) 0 _ h60s (by decide) (fun j hj => by have hj : j = b60 := hj; have := h60.lt; omega) (mx.keep (Ext.trans (Ext.trans (Ext.trans (Ext.trans (Ext.trans (Ext.trans (Ext.trans (Ext.trans (Ext.trans (Ext.trans (Ext.trans (Ext.trans (Ext.trans (Ext.trans (Ext.trans (Ext.trans (Ext.trans (Ext.trans (Ext.trans (Ext.trans (Ext.new (Ext.trans (Ext.trans (Ext.trans (Ext.trans e1 e2) e3) e4) e5) e6 (by rintro i hi rfl; omega)) e7) e8) e9) e10) e11) e12) e13) e14) e15) e_1) e18) e19) e20) e21) e22) e23) e24) e25) e26) e27)) ((((((((((((((((((((he1.keep e7).keep e8).keep e9).keep e10).keep e11).keep e12).keep e13).keep e14).keep e15).keep e_1).keep e18).keep e19).keep e20).keep e21).keep e22).keep e23).keep e24).keep e25).keep e26).keep e27) ((((((((((((((((((((he2.keep e7).keep e8).keep e9).keep e10).keep e11).keep e12).keep e13).keep e14).keep e15).keep e_1).keep e18).keep e19).keep e20).keep e21).keep e22).keep e23).keep e24).keep e25).keep e26).keep e27) (fun j hj => by have hj : j < wk.heap.size := hj; omega) Cn.ctx_yes) ?_
      rintro v_63 w28 ⟨rfl, e28⟩
      have z28 := e28.size
      refine O.pickT rfl ?_
      refine O.mv ?_
      refine O.yes rfl rfl ?_
      refine O.litn [.int .u8 1, .int .u8 2, .int .u8 3] Tryz.underlying32 ti5 ts5 tz5 rfl (by decide) (by decide) rfl (by simp [Value.oneCell']) (fun b66 w29 hb66 hz66 e29 => ?_)
      have z29 := e29.size
      have h66 := hz66.own
      have hl66 := h66.lt
      have h66s : Sl byteE w29 (fun k => k = b66) (.slice (some ⟨b66, 0, none⟩) 3 3) [1, 2, 3] := Sl.of_own (G := byteF) h66 rfl (Nat.le_refl _) (by unfold maxLen; omega) (by simp [byteF])
      refine O.yes rfl rfl ?_
      refine O.build (cells := #[.slice none 0 0, .slice none 0 0]) rfl (by kernel_rfl) ?_
      refine O.yes rfl rfl ?_
      refine O.call Tryz.call53 (args3 rfl rfl rfl) (wseen_spec (.slice (some ⟨b66, 0, none⟩) 3 3) [1, 2, 3] _ (.slice none 0 0) (.slice none 0 0) ([], []) (fun _ => False) 12 _ h66s (by decide) (fun j hj => by have hj : j = b66 := hj; have := h66.lt; omega) (mx.keep (Ext.trans (Ext.trans (Ext.trans (Ext.trans (Ext.trans (Ext.trans (Ext.trans (Ext.trans (Ext.trans (Ext.trans (Ext.trans (Ext.trans (Ext.trans (Ext.trans (Ext.trans (Ext.trans (Ext.trans (Ext.trans (Ext.trans (Ext.trans (Ext.trans (Ext.trans (Ext.new (Ext.trans (Ext.trans (Ext.trans (Ext.trans e1 e2) e3) e4) e5) e6 (by rintro i hi rfl; omega)) e7) e8) e9) e10) e11) e12) e13) e14) e15) e_1) e18) e19) e20) e21) e22) e23) e24) e25) e26) e27) e28) e29)) (Sl.nil _ _ _) (Sl.nil _ _ _) (fun _ h => h.elim) Cn.ctx_no) ?_
      rintro v_68 w30 ⟨rfl, e30⟩
      have z30 := e30.size
      refine O.pickT rfl ?_
      refine O.asg ?_
      refine O.nil ?_
      refine hK14 _ _ ?_
      refine C.ret ?_
      refine Outs.one rfl rfl ?_
      exact ⟨rfl, (Ext.trans (Ext.trans (Ext.trans (Ext.trans (Ext.trans (Ext.trans (Ext.trans (Ext.trans (Ext.trans (Ext.trans (Ext.trans (Ext.trans (Ext.trans (Ext.trans (Ext.trans (Ext.trans (Ext.trans (Ext.trans (Ext.trans (Ext.trans (Ext.trans (Ext.trans (Ext.trans (Ext.new (Ext.trans (Ext.trans (Ext.trans (Ext.trans e1 e2) e3) e4) e5) e6 (by rintro i hi rfl; omega)) e7) e8) e9) e10) e11) e12) e13) e14) e15) e_1) e18) e19) e20) e21) e22) e23) e24) e25) e26) e27) e28) e29) e30)⟩

end Go.Proofs.YtnkcmaoaagnopaaGreatDoor
end
section
/-
  The walks of two laws of reading. Conditions: slices as they lie in memory.
-/
namespace Go.Proofs.YtnkcmaoaagnopaaGreatDoor
open Go.Pn Go.RowKit Go.Proofs
attribute [local irreducible] O C D

end Go.Proofs.YtnkcmaoaagnopaaGreatDoor
end
section
/-
  The walk that writes over what was read. Conditions: what is written may be written.
-/
namespace Go.Proofs.YtnkcmaoaagnopaaGreatDoor
open Go.Pn Go.RowKit Go.Proofs
attribute [local irreducible] O C D

theorem inf22 : ∃ ie, Tryz.prog.info? 22 = some ie ∧ ie.size = 1 ∧ ie.bytes = 24 ∧ ie.zero = some (.slice none 0 0) := by
  have h : (Tryz.prog.info? 22).isSome = true := by kernel_rfl
  exact ⟨(Tryz.prog.info? 22).get h, (Option.some_get h).symm, by kernel_rfl, by kernel_rfl, by kernel_rfl⟩
set_option maxHeartbeats 4000000 in
theorem stain_spec (p1 p2 p3 : Raw) (ps : List Raw) (F : Nat → Prop) (B0 : Nat) (w : World) (hst : Stn 51 56 53 w F p1 p2 p3 ps 1000000) (hF : ∀ j, F j → B0 ≤ j ∧ j < w.heap.size) (hp3 : p3.2.1 ≤ 1000000) :
    Ret Tryz.prog 56 #[.agg #[slv p1, slv p2, slv p3]] w (fun v w' => v = .tuple #[] ∧ Ext (fun j => B0 ≤ j) w w') := by
  obtain ⟨ie22, ti22, ts22, tb22, tz22⟩ := inf22
  obtain ⟨K, hKe⟩ : ∃ K, K = 1000000 := ⟨_, rfl⟩
  rw [← hKe] at hst
  have hmx : maxLen = 9223372036854775807 := rfl
  refine enter (args := [.agg #[slv p1, slv p2, slv p3]]) (n := 77) Tryz.func56 rfl rfl (Nat.le_of_ble_eq_true rfl) ?_
  refine C.seqK fun K1 hK1 => ?_
  refine C.region ?_
  refine O.box (v := .agg #[slv p1, slv p2, slv p3]) rfl (fun b1 w1 hb1 hz1 e1 => ?_)
  have z1 := e1.size
  have h1 := hz1.own
  have hl1 := h1.lt
  refine O.nil ?_
  refine hK1 _ _ ?_
  refine C.seqK fun K2 hK2 => ?_
  refine C.seqK fun K3 hK3 => ?_
  refine C.region ?_
  refine O.fieldAd Tryz.underlying28 rfl Tryz.sizeOf25 (by decide) rfl ?_
  refine O.fieldAd Tryz.underlying25 rfl Tryz.sizeOf23 (by decide) rfl ?_
  refine O.loadO Tryz.isAgg23 rfl h1 rfl ?_
  refine O.fieldAd Tryz.underlying28 rfl Tryz.sizeOf25 (by decide) rfl ?_
  refine O.fieldAd Tryz.underlying25 rfl Tryz.sizeOf22 (by decide) rfl ?_
  refine O.loadO Tryz.isAgg22 rfl h1 rfl ?_
  refine O.litn [slv p1, slv p2] Tryz.underlying127 ti22 ts22 tz22 rfl (by decide) (by decide) rfl (by intro u hu; simp only [List.mem_cons, List.not_mem_nil, or_false] at hu; rcases hu with rfl | rfl <;> rfl) (fun b13 w2 hb13 hz13 e2 => ?_)
  have z2 := e2.size
  have h13 := hz13.own
  have hl13 := h13.lt
  refine O.lenL Tryz.underlying127 rfl ?_
  refine O.mv ?_
  refine O.nil ?_
  refine hK3 _ _ ?_
  refine C.block fun K4 hK4 => ?_
  refine C.loop0 (σ := Nat) (fun f0 w0 i f wz => f 15 = .int .i64 ((i : Int)) ∧ f 1 = f0 1 ∧ f 13 = f0 13 ∧ f 14 = f0 14 ∧ Ext (fun j => B0 ≤ j) w wz ∧ Own wz b1 28 [slv p1, slv p2, slv p3] ∧ Stn 51 56 53 wz F p1 p2 p3 ps (K) ∧ Own wz b13 22 [slv p1, slv p2] ∧ i ≤ 2) (fun i => 2 - i) 0 ?_ ?_
  ·
    refine ⟨rfl, rfl, rfl, rfl, (Ext.new (Ext.new (Ext.refl _ _) e1 (by intro i hi hk; first | exact hk.elim | ((try dsimp only at hk); (try dsimp only); omega))) e2 (by intro i hi hk; first | exact hk.elim | ((try dsimp only at hk); (try dsimp only); omega))), (h1.keep e2), ((hst.keep e1).keep e2), h13, ?_⟩
    exact Nat.zero_le _
  ·
    rintro i f_1 w3 ⟨s15_1, s1_1, s13_1, s14_1, e_1, r0_1, r1_1, r2_1, hi⟩
    have z_1 := e_1.size
    refine C.seqK fun K5 hK5 => ?_
    refine C.region ?_
    refine O.lssI s15_1 s14_1 ?_
    refine O.nil ?_
    refine hK5 _ _ ?_
    refine C.seqK fun K6 hK6 => ?_
    refine C.condD rfl (fun c16 => ?_) (fun c16 => ?_)
    ·
      obtain ⟨q, hqv, hq⟩ : ∃ q, [slv p1, slv p2][i]? = some (slv q) ∧ (q = p1 ∨ q = p2) := by
        match i, (show i < 2 by omega) with
        | 0, _ => exact ⟨p1, rfl, .inl rfl⟩
        | 1, _ => exact ⟨p2, rfl, .inr rfl⟩
      refine C.skip ?_
      refine hK6 _ _ ?_
      refine C.seqK fun K7 hK7 => ?_
      refine C.block fun K8 hK8 => ?_
      refine C.seqK fun K9 hK9 => ?_
      refine C.region ?_
      refine O.idxO Tryz.underlying127 Tryz.sizeOf22 s13_1 s15_1 (by omega) ?_
      refine O.loadO Tryz.isAgg22 rfl r2_1 (show [slv p1, slv p2][0 + Int.toNat (i : Int) * 1]? = some (slv q) by simpa using hqv) ?_
      refine O.asg ?_
      refine O.nil ?_
      refine hK9 _ _ ?_
      refine C.seqK fun K10 hK10 => ?_
      refine C.region ?_
      refine O.asg ?_
      refine O.nil ?_
      refine hK10 _ _ ?_
      refine C.block fun K11 hK11 => ?_
      refine C.loop0 (σ := Nat) (fun f0 w0 j f wz => f 4 = .int .i64 ((j : Int)) ∧ f 1 = f0 1 ∧ f 3 = f0 3 ∧ f 13 = f0 13 ∧ f 14 = f0 14 ∧ f 15 = f0 15 ∧ Ext (fun j => B0 ≤ j) w wz ∧ Own wz b1 28 [slv p1, slv p2, slv p3] ∧ Stn 51 56 53 wz F p1 p2 p3 ps (K) ∧ Own wz b13 22 [slv p1, slv p2] ∧ j ≤ maxLen) (fun j => q.2.1 - j) 0 ?_ ?_
      ·
        refine ⟨rfl, rfl, rfl, rfl, rfl, rfl, (Ext.new (Ext.refl _ _) e_1 (by intro i hi hk; first | exact hk.elim | ((try dsimp only at hk); (try dsimp only); omega))), r0_1, r1_1, r2_1, ?_⟩
        exact Nat.zero_le _
      ·
        rintro j f_2 w4 ⟨s4_2, s1_2, s3_2, s13_2, s14_2, s15_2, e_2, r0_2, r1_2, r2_2, hj⟩
        have z_2 := e_2.size
        refine C.seqK fun K12 hK12 => ?_
        refine C.seqK fun K13 hK13 => ?_
        refine C.region ?_
        refine O.mv ?_
        refine O.mv ?_
        refine O.lenL Tryz.underlying22 s3_2 ?_
        refine O.lssI s4_2 rfl ?_
        refine O.nil ?_
        refine hK13 _ _ ?_
        refine C.condD rfl (fun c22 => ?_) (fun c22 => ?_)
        ·
          obtain ⟨xs, hx⟩ := (r1_2).dots hq
          have hxl := hx.len
          have hxm := hx.1.2
          have hxw := hx.1
          refine C.skip ?_
          refine hK12 _ _ ?_
          refine C.seqK fun K14 hK14 => ?_
          refine C.block fun K15 hK15 => ?_
          refine C.region ?_
          refine O.mv ?_
          refine O.mv ?_
          obtain ⟨g27, cap27, hv27⟩ := OwnF.ptr hxw (by omega)
          have ho27 := hxw
          rw [hv27] at ho27
          refine O.idxO Tryz.underlying22 Tryz.sizeOf51 (Eq.trans s3_2 hv27) s4_2 (by omega) ?_
          refine O.fieldAd Tryz.underlying51 rfl Tryz.sizeOf3 (by decide) rfl ?_
          refine O.loadC (G := Dt.dotF) (i := j) (off := 1) (by simp [Dt.dotF]) Tryz.isAgg3 rfl ho27 (by omega) rfl ?_
          refine O.addW rfl rfl ?_
          obtain ⟨g31, cap31, hv31⟩ := OwnF.ptr hxw (by omega)
          have ho31 := hxw
          rw [hv31] at ho31
          refine O.idxO Tryz.underlying22 Tryz.sizeOf51 (Eq.trans s3_2 hv31) s4_2 (by omega) ?_
          refine O.fieldAd Tryz.underlying51 rfl Tryz.sizeOf3 (by decide) rfl ?_
          refine O.storeS (G := Dt.dotF) (i := j) (off := 1) (by simp [Dt.dotF]) Tryz.sizeOf3 rfl rfl rfl ho31 (by omega) (by decide) (fun w5 cr5 hg5 hw5 e5 z5 => ?_)
          obtain ⟨hB31, hC31⟩ := hF g31 (hx.2 g31 (by rw [hv31]; rfl))
          replace e5 : Ext (fun j => B0 ≤ j ∧ j < w.heap.size) w4 w5 := e5.mono (fun k _ hk => by have h0 : k = g31 := hk; subst h0; exact ⟨hB31, hC31⟩)
          have hste5 : Stn 51 56 53 w5 F p1 p2 p3 ps (K) := by rw [hw5]; exact (r1_2).setD (by decide) (by decide) hg5
          refine O.nil ?_
          refine hK15 _ _ ?_
          refine hK14 _ _ ?_
          refine C.region ?_
          refine O.mv ?_
          refine O.addI s4_2 rfl (by unfold InI; omega) ?_
          refine O.asg ?_
          refine O.nil ?_
          refine ⟨(j + 1), ⟨rfl, s1_2, s3_2, s13_2, s14_2, s15_2, (Ext.new (Ext.new (Ext.refl _ _) e_2 (by intro i hi hk; first | exact hk.elim | ((try dsimp only at hk); (try dsimp only); omega))) e5 (by intro i hi hk; first | exact hk.elim | ((try dsimp only at hk); (try dsimp only); omega))), (r0_2.keepM e5 (by intro h; (try dsimp only at h); omega)), hste5, (r2_2.keepM e5 (by intro h; (try dsimp only at h); omega)), ?_⟩, by first | omega | (simp only []; omega)⟩
          omega
        ·
          refine C.exit ?_
          refine hK11 _ _ ?_
          refine hK8 _ _ ?_
          refine hK7 _ _ ?_
          refine C.region ?_
          refine O.addI (Eq.trans s15_2 s15_1) rfl (by unfold InI; omega) ?_
          refine O.mv ?_
          refine O.nil ?_
          refine ⟨(i + 1), ⟨rfl, (Eq.trans s1_2 s1_1), (Eq.trans s13_2 s13_1), (Eq.trans s14_2 s14_1), (Ext.new (Ext.refl _ _) e_2 (by intro i hi hk; first | exact hk.elim | ((try dsimp only at hk); (try dsimp only); omega))), r0_2, r1_2, r2_2, ?_⟩, by first | omega | (simp only []; omega)⟩
          omega
    ·
      refine C.exit ?_
      refine hK4 _ _ ?_
      refine hK2 _ _ ?_
      refine C.seqK fun K16 hK16 => ?_
      refine C.region ?_
      refine O.asg ?_
      refine O.nil ?_
      refine hK16 _ _ ?_
      refine C.block fun K17 hK17 => ?_
      refine C.loop0 (σ := Nat) (fun f0 w0 i f wz => f 5 = .int .i64 ((i : Int)) ∧ f 1 = f0 1 ∧ Ext (fun j => B0 ≤ j) w wz ∧ Own wz b1 28 [slv p1, slv p2, slv p3] ∧ Stn 51 56 53 wz F p1 p2 p3 ps (K + i) ∧ i ≤ p3.2.1) (fun i => p3.2.1 - i) 0 ?_ ?_
      ·
        refine ⟨rfl, rfl, (Ext.new (Ext.refl _ _) e_1 (by intro i hi hk; first | exact hk.elim | ((try dsimp only at hk); (try dsimp only); omega))), r0_1, r1_1, ?_⟩
        exact Nat.zero_le _
      ·
        rintro i f_3 w6 ⟨s5_3, s1_3, e_3, r0_3, r1_3, hi⟩
        have z_3 := e_3.size
        refine C.seqK fun K18 hK18 => ?_
        refine C.seqK fun K19 hK19 => ?_
        refine C.region ?_
        refine O.mv ?_
        refine O.fieldAd Tryz.underlying28 rfl Tryz.sizeOf26 (by decide) (Eq.trans s1_3 s1_1) ?_
        refine O.loadO Tryz.isAgg26 rfl r0_3 rfl ?_
        refine O.lenL Tryz.underlying26 rfl ?_
        refine O.lssI s5_3 rfl ?_
        refine O.nil ?_
        refine hK19 _ _ ?_
        refine C.condD rfl (fun c38 => ?_) (fun c38 => ?_)
        ·
          refine C.skip ?_
          refine hK18 _ _ ?_
          refine C.seqK fun K20 hK20 => ?_
          refine C.block fun K21 hK21 => ?_
          refine C.seqK fun K22 hK22 => ?_
          refine C.seqK fun K23 hK23 => ?_
          refine C.region ?_
          refine O.asg ?_
          refine O.nil ?_
          refine hK23 _ _ ?_
          refine C.block fun K24 hK24 => ?_
          refine C.loop0 (σ := Nat) (fun f0 w0 j f wz => f 6 = .int .i64 ((j : Int)) ∧ f 1 = f0 1 ∧ f 5 = f0 5 ∧ Ext (fun j => B0 ≤ j) w wz ∧ Own wz b1 28 [slv p1, slv p2, slv p3] ∧ Stn 51 56 53 wz F p1 p2 p3 ps (K + i) ∧ j ≤ maxLen) (fun j => maxLen - j) 0 ?_ ?_
          ·
            refine ⟨rfl, rfl, rfl, (Ext.new (Ext.refl _ _) e_3 (by intro i hi hk; first | exact hk.elim | ((try dsimp only at hk); (try dsimp only); omega))), r0_3, r1_3, ?_⟩
            exact Nat.zero_le _
          ·
            rintro j f_4 w7 ⟨s6_4, s1_4, s5_4, e_4, r0_4, r1_4, hj⟩
            have z_4 := e_4.size
            obtain ⟨raw, hraw, hps, hK⟩ := (r1_4).d3
            have hrl := hraw.len
            have hi2 : i < raw.length := by omega
            have hrw := hraw.1
            obtain ⟨ms, hms⟩ := (r1_4).m raw[i].2 (by rw [← hps]; exact List.mem_map.2 ⟨_, List.getElem_mem hi2, rfl⟩)
            have hml := hms.len
            have hmw := hms.1
            have hmm := hms.1.2
            refine C.seqK fun K25 hK25 => ?_
            refine C.seqK fun K26 hK26 => ?_
            refine C.region ?_
            refine O.mv ?_
            refine O.fieldAd Tryz.underlying28 rfl Tryz.sizeOf26 (by decide) (Eq.trans s1_4 (Eq.trans s1_3 s1_1)) ?_
            refine O.loadO Tryz.isAgg26 rfl r0_4 rfl ?_
            refine O.mv ?_
            obtain ⟨g45, cap45, hv45⟩ := OwnF.ptr hrw (by omega)
            have ho45 := hrw
            rw [hv45] at ho45
            refine O.idxO Tryz.underlying26 Tryz.sizeOf56 (Eq.trans rfl hv45) (Eq.trans s5_4 s5_3) (by omega) ?_
            refine O.fieldAd Tryz.underlying56 rfl Tryz.sizeOf54 (by decide) rfl ?_
            refine O.loadC (G := itemF) (i := i) (off := 1) (by simp [itemF]) Tryz.isAgg54 rfl ho45 (by omega) rfl ?_
            refine O.lenL Tryz.underlying54 rfl ?_
            refine O.lssI s6_4 rfl ?_
            refine O.nil ?_
            refine hK26 _ _ ?_
            refine C.condD rfl (fun c49 => ?_) (fun c49 => ?_)
            ·
              refine C.skip ?_
              refine hK25 _ _ ?_
              refine C.seqK fun K27 hK27 => ?_
              refine C.block fun K28 hK28 => ?_
              refine C.region ?_
              refine O.fieldAd Tryz.underlying28 rfl Tryz.sizeOf26 (by decide) (Eq.trans s1_4 (Eq.trans s1_3 s1_1)) ?_
              refine O.loadO Tryz.isAgg26 rfl r0_4 rfl ?_
              refine O.mv ?_
              obtain ⟨g55, cap55, hv55⟩ := OwnF.ptr hrw (by omega)
              have ho55 := hrw
              rw [hv55] at ho55
              refine O.idxO Tryz.underlying26 Tryz.sizeOf56 (Eq.trans rfl hv55) (Eq.trans s5_4 s5_3) (by omega) ?_
              refine O.fieldAd Tryz.underlying56 rfl Tryz.sizeOf54 (by decide) rfl ?_
              refine O.loadC (G := itemF) (i := i) (off := 1) (by simp [itemF]) Tryz.isAgg54 rfl ho55 (by omega) rfl ?_
              refine O.mv ?_
              obtain ⟨g59, cap59, hv59⟩ := OwnF.ptr hmw (by omega)
              have ho59 := hmw
              rw [hv59] at ho59
              refine O.idxO Tryz.underlying54 Tryz.sizeOf53 (Eq.trans rfl hv59) s6_4 (by omega) ?_
              refine O.fieldAd Tryz.underlying53 rfl Tryz.sizeOf3 (by decide) rfl ?_
              refine O.loadC (G := markF) (i := j) (off := 2) (by simp [markF]) Tryz.isAgg3 rfl ho59 (by omega) rfl ?_
              refine O.addW rfl rfl ?_
              obtain ⟨g63, cap63, hv63⟩ := OwnF.ptr hmw (by omega)
              have ho63 := hmw
              rw [hv63] at ho63
              refine O.idxO Tryz.underlying54 Tryz.sizeOf53 (Eq.trans rfl hv63) s6_4 (by omega) ?_
              refine O.fieldAd Tryz.underlying53 rfl Tryz.sizeOf3 (by decide) rfl ?_
              refine O.storeS (G := markF) (i := j) (off := 2) (by simp [markF]) Tryz.sizeOf3 rfl rfl rfl ho63 (by omega) (by decide) (fun w8 cr8 hg8 hw8 e8 z8 => ?_)
              obtain ⟨hB63, hC63⟩ := hF g63 (hms.2 g63 (by rw [hv63]; rfl))
              replace e8 : Ext (fun j => B0 ≤ j ∧ j < w.heap.size) w7 w8 := e8.mono (fun k _ hk => by have h0 : k = g63 := hk; subst h0; exact ⟨hB63, hC63⟩)
              have hste8 : Stn 51 56 53 w8 F p1 p2 p3 ps (K + i) := by rw [hw8]; exact (r1_4).setM (by decide) (by decide) hg8
              refine O.nil ?_
              refine hK28 _ _ ?_
              refine hK27 _ _ ?_
              refine C.region ?_
              refine O.mv ?_
              refine O.addI s6_4 rfl (by unfold InI; omega) ?_
              refine O.asg ?_
              refine O.nil ?_
              refine ⟨(j + 1), ⟨rfl, s1_4, s5_4, (Ext.new (Ext.new (Ext.refl _ _) e_4 (by intro i hi hk; first | exact hk.elim | ((try dsimp only at hk); (try dsimp only); omega))) e8 (by intro i hi hk; first | exact hk.elim | ((try dsimp only at hk); (try dsimp only); omega))), (r0_4.keepM e8 (by intro h; (try dsimp only at h); omega)), hste8, ?_⟩, by first | omega | (simp only []; omega)⟩
              omega
            ·
              refine C.exit ?_
              refine hK24 _ _ ?_
              refine hK22 _ _ ?_
              refine C.drawB (wB := (bare w7)) (by kernel_rfl) fun w9 e9 => ?_
              have z9 := e9.size
              refine D.take (i := 0) rfl rfl rfl rfl (by kernel_rfl) (Ext.bare (Ext.new (Ext.refl (fun _ => True) _) e9 (fun _ _ _ => trivial))) ⟨_, rfl⟩ (fun w_ hw_ N_ hN => (O.fieldAd Tryz.underlying28 rfl Tryz.sizeOf26 (by decide) (Eq.trans s1_4 (Eq.trans s1_3 s1_1)) (O.nil hN))) ?_
              refine D.take (i := 2) rfl rfl rfl rfl (by kernel_rfl) (Ext.bare (Ext.new (Ext.refl (fun _ => True) _) e9 (fun _ _ _ => trivial))) ⟨pure _, rfl⟩ (fun w_ hw_ N_ hN => (O.mv (O.nil hN))) ?_
              refine D.take (i := 3) rfl rfl rfl rfl (by kernel_rfl) (Ext.bare (Ext.new (Ext.refl (fun _ => True) _) e9 (fun _ _ _ => trivial))) ⟨_, rfl⟩ (fun w_ hw_ N_ hN => (O.fieldAd Tryz.underlying28 rfl Tryz.sizeOf26 (by decide) (Eq.trans s1_4 (Eq.trans s1_3 s1_1)) (O.nil hN))) ?_
              refine D.take (i := 5) rfl rfl rfl rfl (by kernel_rfl) (Ext.bare (Ext.new (Ext.refl (fun _ => True) _) e9 (fun _ _ _ => trivial))) ⟨pure _, rfl⟩ (fun w_ hw_ N_ hN => (O.mv (O.nil hN))) ?_
              refine D.many [1, 4] (by kernel_rfl) (by decide) ⟨?_, ?_, trivial⟩
              ·
                refine D.stepU rfl rfl ?_
                refine O.loadO Tryz.isAgg26 rfl (r0_4.keep e9) rfl ?_
                refine O.nil ⟨(Ext.bare (Ext.new (Ext.refl (fun _ => True) _) e9 (fun _ _ _ => trivial))), ?_⟩
                refine D.one (i := 4) rfl rfl (by kernel_rfl) ?_
                refine O.loadO Tryz.isAgg26 rfl (r0_4.keep e9) rfl ?_
                refine O.nil ⟨(Ext.bare (Ext.new (Ext.refl (fun _ => True) _) e9 (fun _ _ _ => trivial))), ?_⟩
                obtain ⟨g71, cap71, hv71⟩ := OwnF.ptr (hrw.keep e9) (by omega)
                have ho71 := (hrw.keep e9)
                rw [hv71] at ho71
                refine D.take (i := 6) rfl rfl rfl rfl (by kernel_rfl) (Ext.bare (Ext.new (Ext.refl (fun _ => True) _) e9 (fun _ _ _ => trivial))) ⟨_, rfl⟩ (fun w_ hw_ N_ hN => (O.idxO Tryz.underlying26 Tryz.sizeOf56 (Eq.trans rfl hv71) (Eq.trans s5_4 s5_3) (by omega) (O.nil hN))) ?_
                refine D.take (i := 7) rfl rfl rfl rfl (by kernel_rfl) (Ext.bare (Ext.new (Ext.refl (fun _ => True) _) e9 (fun _ _ _ => trivial))) ⟨_, rfl⟩ (fun w_ hw_ N_ hN => (O.fieldAd Tryz.underlying56 rfl Tryz.sizeOf9 (by decide) rfl (O.nil hN))) ?_
                refine D.one (i := 8) rfl rfl (by kernel_rfl) ?_
                refine O.loadC (G := itemF) (i := i) (off := 0) (by simp [itemF]) Tryz.isAgg9 rfl ho71 (by omega) rfl ?_
                refine O.nil ⟨(Ext.bare (Ext.new (Ext.refl (fun _ => True) _) e9 (fun _ _ _ => trivial))), ?_⟩
                refine D.take (i := 9) rfl rfl rfl rfl (by kernel_rfl) (Ext.bare (Ext.new (Ext.refl (fun _ => True) _) e9 (fun _ _ _ => trivial))) ⟨_, rfl⟩ (fun w_ hw_ N_ hN => (O.addS rfl rfl (by have q9 := hK raw[i] (List.getElem_mem hi2); show raw[i].1.length + 1 ≤ _; omega) (O.nil hN))) ?_
                obtain ⟨g75, cap75, hv75⟩ := OwnF.ptr (hrw.keep e9) (by omega)
                have ho75 := (hrw.keep e9)
                rw [hv75] at ho75
                refine D.take (i := 10) rfl rfl rfl rfl (by kernel_rfl) (Ext.bare (Ext.new (Ext.refl (fun _ => True) _) e9 (fun _ _ _ => trivial))) ⟨_, rfl⟩ (fun w_ hw_ N_ hN => (O.idxO Tryz.underlying26 Tryz.sizeOf56 (Eq.trans rfl hv75) (Eq.trans s5_4 s5_3) (by omega) (O.nil hN))) ?_
                refine D.take (i := 11) rfl rfl rfl rfl (by kernel_rfl) (Ext.bare (Ext.new (Ext.refl (fun _ => True) _) e9 (fun _ _ _ => trivial))) ⟨_, rfl⟩ (fun w_ hw_ N_ hN => (O.fieldAd Tryz.underlying56 rfl Tryz.sizeOf9 (by decide) rfl (O.nil hN))) ?_
                refine D.one (i := 12) rfl rfl (by kernel_rfl) ?_
                refine O.storeS (G := itemF) (i := i) (off := 0) (by simp [itemF]) Tryz.sizeOf9 rfl rfl rfl ho75 (by omega) (by decide) (fun w10 cr10 hg10 hw10 e10 z10 => ?_)
                obtain ⟨hB75, hC75⟩ := hF g75 (hraw.2 g75 (by rw [hv75]; rfl))
                replace e10 : Ext (fun j => B0 ≤ j ∧ j < w.heap.size) w9 w10 := e10.mono (fun k _ hk => by have h0 : k = g75 := hk; subst h0; exact ⟨hB75, hC75⟩)
                have hste10 : Stn 51 56 53 w10 F p1 p2 p3 ps (K + i + 1) := by rw [hw10]; exact ((r1_4.keep e9)).setN (by decide) (by decide) (by have q9 := hK raw[i] (List.getElem_mem hi2); rw [List.length_append]; show raw[i].1.length + 1 ≤ _; omega) hg10
                refine O.nil ⟨(Ext.bare (Ext.new (Ext.new (Ext.refl (fun _ => True) _) e9 (fun _ _ _ => trivial)) e10 (fun _ _ _ => trivial))), ?_⟩
                refine D.done (by kernel_rfl) ?_
                refine hK21 _ _ ?_
                refine hK20 _ _ ?_
                refine C.region ?_
                refine O.mv ?_
                refine O.addI (Eq.trans s5_4 s5_3) rfl (by unfold InI; omega) ?_
                refine O.asg ?_
                refine O.nil ?_
                refine ⟨(i + 1), ⟨rfl, (Eq.trans s1_4 s1_3), (Ext.new (Ext.new (Ext.new (Ext.refl _ _) e_4 (by intro i hi hk; first | exact hk.elim | ((try dsimp only at hk); (try dsimp only); omega))) e9 (by intro i hi hk; first | exact hk.elim | ((try dsimp only at hk); (try dsimp only); omega))) e10 (by intro i hi hk; first | exact hk.elim | ((try dsimp only at hk); (try dsimp only); omega))), ((r0_4.keep e9).keepM e10 (by intro h; (try dsimp only at h); omega)), hste10, ?_⟩, by first | omega | (simp only []; omega)⟩
                omega
              ·
                refine D.stepU rfl rfl ?_
                refine O.loadO Tryz.isAgg26 rfl (r0_4.keep e9) rfl ?_
                refine O.nil ⟨(Ext.bare (Ext.new (Ext.refl (fun _ => True) _) e9 (fun _ _ _ => trivial))), ?_⟩
                obtain ⟨g71, cap71, hv71⟩ := OwnF.ptr (hrw.keep e9) (by omega)
                have ho71 := (hrw.keep e9)
                rw [hv71] at ho71
                refine D.take (i := 6) rfl rfl rfl rfl (by kernel_rfl) (Ext.bare (Ext.new (Ext.refl (fun _ => True) _) e9 (fun _ _ _ => trivial))) ⟨_, rfl⟩ (fun w_ hw_ N_ hN => (O.idxO Tryz.underlying26 Tryz.sizeOf56 (Eq.trans rfl hv71) (Eq.trans s5_4 s5_3) (by omega) (O.nil hN))) ?_
                refine D.take (i := 7) rfl rfl rfl rfl (by kernel_rfl) (Ext.bare (Ext.new (Ext.refl (fun _ => True) _) e9 (fun _ _ _ => trivial))) ⟨_, rfl⟩ (fun w_ hw_ N_ hN => (O.fieldAd Tryz.underlying56 rfl Tryz.sizeOf9 (by decide) rfl (O.nil hN))) ?_
                refine D.many [1, 8] (by kernel_rfl) (by decide) ⟨?_, ?_, trivial⟩
                ·
                  refine D.stepU rfl rfl ?_
                  refine O.loadO Tryz.isAgg26 rfl (r0_4.keep e9) rfl ?_
                  refine O.nil ⟨(Ext.bare (Ext.new (Ext.refl (fun _ => True) _) e9 (fun _ _ _ => trivial))), ?_⟩
                  refine D.one (i := 8) rfl rfl (by kernel_rfl) ?_
                  refine O.loadC (G := itemF) (i := i) (off := 0) (by simp [itemF]) Tryz.isAgg9 rfl ho71 (by omega) rfl ?_
                  refine O.nil ⟨(Ext.bare (Ext.new (Ext.refl (fun _ => True) _) e9 (fun _ _ _ => trivial))), ?_⟩
                  refine D.take (i := 9) rfl rfl rfl rfl (by kernel_rfl) (Ext.bare (Ext.new (Ext.refl (fun _ => True) _) e9 (fun _ _ _ => trivial))) ⟨_, rfl⟩ (fun w_ hw_ N_ hN => (O.addS rfl rfl (by have q9 := hK raw[i] (List.getElem_mem hi2); show raw[i].1.length + 1 ≤ _; omega) (O.nil hN))) ?_
                  obtain ⟨g75, cap75, hv75⟩ := OwnF.ptr (hrw.keep e9) (by omega)
                  have ho75 := (hrw.keep e9)
                  rw [hv75] at ho75
                  refine D.take (i := 10) rfl rfl rfl rfl (by kernel_rfl) (Ext.bare (Ext.new (Ext.refl (fun _ => True) _) e9 (fun _ _ _ => trivial))) ⟨_, rfl⟩ (fun w_ hw_ N_ hN => (O.idxO Tryz.underlying26 Tryz.sizeOf56 (Eq.trans rfl hv75) (Eq.trans s5_4 s5_3) (by omega) (O.nil hN))) ?_
                  refine D.take (i := 11) rfl rfl rfl rfl (by kernel_rfl) (Ext.bare (Ext.new (Ext.refl (fun _ => True) _) e9 (fun _ _ _ => trivial))) ⟨_, rfl⟩ (fun w_ hw_ N_ hN => (O.fieldAd Tryz.underlying56 rfl Tryz.sizeOf9 (by decide) rfl (O.nil hN))) ?_
                  refine D.one (i := 12) rfl rfl (by kernel_rfl) ?_
                  refine O.storeS (G := itemF) (i := i) (off := 0) (by simp [itemF]) Tryz.sizeOf9 rfl rfl rfl ho75 (by omega) (by decide) (fun w11 cr11 hg11 hw11 e11 z11 => ?_)
                  obtain ⟨hB75, hC75⟩ := hF g75 (hraw.2 g75 (by rw [hv75]; rfl))
                  replace e11 : Ext (fun j => B0 ≤ j ∧ j < w.heap.size) w9 w11 := e11.mono (fun k _ hk => by have h0 : k = g75 := hk; subst h0; exact ⟨hB75, hC75⟩)
                  have hste11 : Stn 51 56 53 w11 F p1 p2 p3 ps (K + i + 1) := by rw [hw11]; exact ((r1_4.keep e9)).setN (by decide) (by decide) (by have q9 := hK raw[i] (List.getElem_mem hi2); rw [List.length_append]; show raw[i].1.length + 1 ≤ _; omega) hg11
                  refine O.nil ⟨(Ext.bare (Ext.new (Ext.new (Ext.refl (fun _ => True) _) e9 (fun _ _ _ => trivial)) e11 (fun _ _ _ => trivial))), ?_⟩
                  refine D.done (by kernel_rfl) ?_
                  refine hK21 _ _ ?_
                  refine hK20 _ _ ?_
                  refine C.region ?_
                  refine O.mv ?_
                  refine O.addI (Eq.trans s5_4 s5_3) rfl (by unfold InI; omega) ?_
                  refine O.asg ?_
                  refine O.nil ?_
                  refine ⟨(i + 1), ⟨rfl, (Eq.trans s1_4 s1_3), (Ext.new (Ext.new (Ext.new (Ext.refl _ _) e_4 (by intro i hi hk; first | exact hk.elim | ((try dsimp only at hk); (try dsimp only); omega))) e9 (by intro i hi hk; first | exact hk.elim | ((try dsimp only at hk); (try dsimp only); omega))) e11 (by intro i hi hk; first | exact hk.elim | ((try dsimp only at hk); (try dsimp only); omega))), ((r0_4.keep e9).keepM e11 (by intro h; (try dsimp only at h); omega)), hste11, ?_⟩, by first | omega | (simp only []; omega)⟩
                  omega
                ·
                  refine D.stepU rfl rfl ?_
                  refine O.loadC (G := itemF) (i := i) (off := 0) (by simp [itemF]) Tryz.isAgg9 rfl ho71 (by omega) rfl ?_
                  refine O.nil ⟨(Ext.bare (Ext.new (Ext.refl (fun _ => True) _) e9 (fun _ _ _ => trivial))), ?_⟩
                  refine D.take (i := 9) rfl rfl rfl rfl (by kernel_rfl) (Ext.bare (Ext.new (Ext.refl (fun _ => True) _) e9 (fun _ _ _ => trivial))) ⟨_, rfl⟩ (fun w_ hw_ N_ hN => (O.addS rfl rfl (by have q9 := hK raw[i] (List.getElem_mem hi2); show raw[i].1.length + 1 ≤ _; omega) (O.nil hN))) ?_
                  refine D.one (i := 1) rfl rfl (by kernel_rfl) ?_
                  refine O.loadO Tryz.isAgg26 rfl (r0_4.keep e9) rfl ?_
                  refine O.nil ⟨(Ext.bare (Ext.new (Ext.refl (fun _ => True) _) e9 (fun _ _ _ => trivial))), ?_⟩
                  obtain ⟨g75, cap75, hv75⟩ := OwnF.ptr (hrw.keep e9) (by omega)
                  have ho75 := (hrw.keep e9)
                  rw [hv75] at ho75
                  refine D.take (i := 10) rfl rfl rfl rfl (by kernel_rfl) (Ext.bare (Ext.new (Ext.refl (fun _ => True) _) e9 (fun _ _ _ => trivial))) ⟨_, rfl⟩ (fun w_ hw_ N_ hN => (O.idxO Tryz.underlying26 Tryz.sizeOf56 (Eq.trans rfl hv75) (Eq.trans s5_4 s5_3) (by omega) (O.nil hN))) ?_
                  refine D.take (i := 11) rfl rfl rfl rfl (by kernel_rfl) (Ext.bare (Ext.new (Ext.refl (fun _ => True) _) e9 (fun _ _ _ => trivial))) ⟨_, rfl⟩ (fun w_ hw_ N_ hN => (O.fieldAd Tryz.underlying56 rfl Tryz.sizeOf9 (by decide) rfl (O.nil hN))) ?_
                  refine D.one (i := 12) rfl rfl (by kernel_rfl) ?_
                  refine O.storeS (G := itemF) (i := i) (off := 0) (by simp [itemF]) Tryz.sizeOf9 rfl rfl rfl ho75 (by omega) (by decide) (fun w12 cr12 hg12 hw12 e12 z12 => ?_)
                  obtain ⟨hB75, hC75⟩ := hF g75 (hraw.2 g75 (by rw [hv75]; rfl))
                  replace e12 : Ext (fun j => B0 ≤ j ∧ j < w.heap.size) w9 w12 := e12.mono (fun k _ hk => by have h0 : k = g75 := hk; subst h0; exact ⟨hB75, hC75⟩)
                  have hste12 : Stn 51 56 53 w12 F p1 p2 p3 ps (K + i + 1) := by rw [hw12]; exact ((r1_4.keep e9)).setN (by decide) (by decide) (by have q9 := hK raw[i] (List.getElem_mem hi2); rw [List.length_append]; show raw[i].1.length + 1 ≤ _; omega) hg12
                  refine O.nil ⟨(Ext.bare (Ext.new (Ext.new (Ext.refl (fun _ => True) _) e9 (fun _ _ _ => trivial)) e12 (fun _ _ _ => trivial))), ?_⟩
                  refine D.done (by kernel_rfl) ?_
                  refine hK21 _ _ ?_
                  refine hK20 _ _ ?_
                  refine C.region ?_
                  refine O.mv ?_
                  refine O.addI (Eq.trans s5_4 s5_3) rfl (by unfold InI; omega) ?_
                  refine O.asg ?_
                  refine O.nil ?_
                  refine ⟨(i + 1), ⟨rfl, (Eq.trans s1_4 s1_3), (Ext.new (Ext.new (Ext.new (Ext.refl _ _) e_4 (by intro i hi hk; first | exact hk.elim | ((try dsimp only at hk); (try dsimp only); omega))) e9 (by intro i hi hk; first | exact hk.elim | ((try dsimp only at hk); (try dsimp only); omega))) e12 (by intro i hi hk; first | exact hk.elim | ((try dsimp only at hk); (try dsimp only); omega))), ((r0_4.keep e9).keepM e12 (by intro h; (try dsimp only at h); omega)), hste12, ?_⟩, by first | omega | (simp only []; omega)⟩
                  omega
        ·
          refine C.exit ?_
          refine hK17 _ _ ?_
          refine Outs.none rfl ?_
          exact ⟨rfl, (Ext.new (Ext.refl _ _) e_3 (by intro i hi hk; first | exact hk.elim | ((try dsimp only at hk); (try dsimp only); omega)))⟩

end Go.Proofs.YtnkcmaoaagnopaaGreatDoor
end
section
/-
  The walk of the law of reading: both readers agree, and what was read may be written over. Conditions: slices as they lie in memory.
-/
namespace Go.Proofs.YtnkcmaoaagnopaaGreatDoor
open Go.Pn Go.RowKit Go.Proofs
attribute [local irreducible] O C D

theorem is_spec (v0 : Value) (l : List UInt8) (F : Nat → Prop) (vb1 vb2 vb3 : Value) (b : Cn.Cart) (Fb : Nat → Prop) (g : Bool) (w : World) (hl : Sl byteE w F v0 l) (hL : l.length ≤ 1000000) (hF : ∀ j, F j → j < w.heap.size) (mx : Mx w) (hbv : Sl Dt.dotF.enc w Fb vb1 b.1.1) (hbc : Sl Dt.dotF.enc w Fb vb2 b.1.2) (hbi : Sl itemE w Fb vb3 b.2) (hFb : ∀ k, Fb k → k < w.heap.size) (hr : Cn.CartRes l (if g then b else Cn.nil0) (if g then 0 else 12)) :
    Ret Tryz.prog 35 #[v0, .agg #[vb1, vb2, vb3], .bool g] w (fun v w' => v = .bool true ∧ Le w w') := by
  cases g
  · exact isN_spec v0 l F vb1 vb2 vb3 b Fb w hl hL hF mx hbv hbc hbi hFb hr
  · exact isY_spec v0 l F vb1 vb2 vb3 b Fb w hl hL hF mx hbv hbc hbi hFb hr
set_option maxHeartbeats 8000000 in
theorem right_spec (p0 : Option Addr × Nat × Nat) (l : List UInt8) (F : Nat → Prop) (w : World) (hl : Sl byteE w F (slv p0) l) (hL9 : l.length ≤ 900000) (hF : ∀ j, F j → j < w.heap.size) (mx : Mx w) :
    Ret Tryz.prog 30 #[slv p0] w (fun v w' => v = .bool true ∧ Le w w') := by
  obtain ⟨ie5, ti5, ts5, tb5, tz5⟩ := inf5
  have hL : l.length ≤ 1000000 := by omega
  have hll := hl.le
  have hgl := mx.lt
  have _hF9 := hF
  refine enter (args := [slv p0]) (n := 83) Tryz.func30 rfl rfl (Nat.le_of_ble_eq_true rfl) ?_
  refine C.seqK fun K1 hK1 => ?_
  refine C.region ?_
  refine O.asg ?_
  refine O.nil ?_
  refine hK1 _ _ ?_
  refine C.seqK fun K2 hK2 => ?_
  refine C.region ?_
  refine O.mv ?_
  refine O.appF (G := byteF) Tryz.underlying32 ti5 tz5 ts5 rfl rfl rfl (OwnF.nil _ _ _ _) hl (by rw [tb5]; simp; omega) (by unfold maxLen; simp; omega) (Nat.le_refl _) (fun v12 w1 h12 e1 => ?_)
  replace e1 : Le w w1 := e1.mono (fun _ _ h => h)
  have z1 := e1.size
  have h12s := h12.sl
  replace h12 : OwnF byteF 5 w.heap.size w1 v12 l := h12
  have h12b := h12.bk_ge
  replace h12s := h12.sl
  refine O.asg ?_
  refine O.nil ?_
  refine hK2 _ _ ?_
  refine C.seqK fun K3 hK3 => ?_
  refine C.region ?_
  refine O.mv ?_
  refine O.call Tryz.call54 (args1 rfl) (xprefix_spec p0 l F _ (hl.keep e1) hL9 (fun j hj => by have q1 := hF j hj; omega)) ?_
  rintro v_15 w2 ⟨vav15, vbv15, vcv15, cv15, knv15, fv15, rfl, hxv15, hyv15, hzv15, hgv15, hrv15, e2⟩
  have z2 := e2.size
  obtain ⟨p1, rfl⟩ := hxv15.slv
  obtain ⟨p2, rfl⟩ := hyv15.slv
  obtain ⟨p3, rfl⟩ := hzv15.slv
  obtain ⟨hg1, hg2, hg3, hg4⟩ := hgv15
  refine O.mv ?_
  refine O.extract rfl rfl ?_
  refine O.extract rfl rfl ?_
  refine O.extract rfl rfl ?_
  refine O.alloc Tryz.zeroValue28 (fun b4 w3 hb4 hz4 e3 => ?_)
  have z3 := e3.size
  have h4 := hz4.own
  have hl4 := h4.lt
  refine O.storeA (vs := [slv p1, slv p2, slv p3]) Tryz.sizeOf28 rfl rfl rfl (by simp [slv, Value.oneCell']) h4 (Nat.le_of_ble_eq_true rfl) (fun w4 hs4 e4 z4 => ?_)
  refine O.asg ?_
  refine O.asg ?_
  refine O.nil ?_
  refine hK3 _ _ ?_
  refine C.seqK fun K4 hK4 => ?_
  refine C.join (fun f w f' w' => Le w w' ∧ f' 0 = f 0 ∧ f' 2 = f 2 ∧ f' 3 = f 3 ∧ f' 4 = f 4 ∧ f' 5 = f 5 ∧ f' 6 = .bool (decide (fv15 = true ∧ Cn.valid cv15 = true))) ?_ ?_
  ·
    refine C.region ?_
    refine O.mv ?_
    refine O.mv ?_
    refine O.split (x := .tmp 20) rfl (fun c20 => ?_) (fun c20 => ?_)
    ·
      refine O.yes rfl (isT' rfl c20) ?_
      refine O.loadOA Tryz.isAgg28 Tryz.sizeOf28 rfl hs4 (Nat.le_of_ble_eq_true rfl) ?_
      refine O.yes rfl (isT' rfl c20) ?_
      refine O.call Tryz.call19 (args1 rfl) (cartValid_spec (slv p1) (slv p2) (slv p3) cv15 _ _ ((hxv15.keep e3).keepM e4 (by intro k hk h; first | (have q1 := hF k hk; (try dsimp only at h); omega) | (have q1 := hF2 k hk; (try dsimp only at h); omega) | (have q1 := hFb k hk; (try dsimp only at h); omega) | ((try dsimp only at hk); (try dsimp only at h); omega))) ((hyv15.keep e3).keepM e4 (by intro k hk h; first | (have q1 := hF k hk; (try dsimp only at h); omega) | (have q1 := hF2 k hk; (try dsimp only at h); omega) | (have q1 := hFb k hk; (try dsimp only at h); omega) | ((try dsimp only at hk); (try dsimp only at h); omega))) ((hzv15.keep e3).keepM e4 (by intro k hk h; first | (have q1 := hF k hk; (try dsimp only at h); omega) | (have q1 := hF2 k hk; (try dsimp only at h); omega) | (have q1 := hFb k hk; (try dsimp only at h); omega) | ((try dsimp only at hk); (try dsimp only at h); omega))) (fun j hj => by have q1 := hj.2; omega) hg3 hg4 (mx.keep (Ext.new (Ext.trans (Ext.trans e1 e2) e3) e4 (by rintro i hi rfl; omega)))) ?_
      rintro v_22 w5 ⟨rfl, e5⟩
      have z5 := e5.size
      refine O.pickT (isT' rfl c20) ?_
      refine O.asg ?_
      refine O.nil ?_
      exact ⟨e5, rfl, rfl, rfl, rfl, rfl, (Eq.trans rfl (congrArg Value.bool (by first | (have q9 : fv15 = _ := ‹_›; simp [q9]) | simp_all)))⟩
    ·
      refine O.no rfl (noB (isF' rfl c20) rfl) ?_
      refine O.no rfl (noB (isF' rfl c20) rfl) ?_
      refine O.pickF (isF' rfl c20) ?_
      refine O.asg ?_
      refine O.nil ?_
      exact ⟨(Le.refl _), rfl, rfl, rfl, rfl, rfl, (Eq.trans rfl (congrArg Value.bool (by first | (have q9 : fv15 = _ := ‹_›; simp [q9]) | simp_all)))⟩
  ·
    rintro f_1 w6 ⟨e_1, s0_1, s2_1, s3_1, s4_1, s5_1, s6_1⟩
    have z_1 := e_1.size
    refine hK4 _ _ ?_
    refine C.seqK fun K5 hK5 => ?_
    refine C.seqK fun K6 hK6 => ?_
    refine C.region ?_
    refine O.mv ?_
    refine O.loadOA Tryz.isAgg28 Tryz.sizeOf28 s4_1 (hs4.keep e_1) (Nat.le_of_ble_eq_true rfl) ?_
    refine O.mv ?_
    refine O.mv ?_
    refine O.cut 5 (fun f f' => f' 32 = .bool (decide ((fv15 = true ∧ Cn.valid cv15 = true) ∧ (knv15 : Int) = (l.length : Int))) ∧ f' 0 = f 0 ∧ f' 2 = f 2 ∧ f' 3 = f 3 ∧ f' 4 = f 4 ∧ f' 5 = f 5 ∧ f' 6 = f 6 ∧ f' 24 = f 24 ∧ f' 25 = f 25) ?_ ?_
    ·
      refine O.splitD (x := .tmp 27) s6_1 (fun c27 => ?_) (fun c27 => ?_)
      ·
        refine O.yes rfl (isT s6_1 c27) ?_
        refine O.mv ?_
        refine O.yes rfl (isT s6_1 c27) ?_
        refine O.mv ?_
        refine O.yes rfl (isT s6_1 c27) ?_
        refine O.len Tryz.underlying32 s0_1 (hl.keep (Ext.trans (Ext.new (Ext.trans (Ext.trans e1 e2) e3) e4 (by rintro i hi rfl; omega)) e_1)) ?_
        refine O.yes rfl (isT s6_1 c27) ?_
        refine O.eqlI s5_1 rfl ?_
        refine O.pickT (isT s6_1 c27) ?_
        refine O.nil ?_
        refine ⟨⟨?_, rfl, rfl, rfl, rfl, rfl, rfl, rfl, rfl⟩, rfl⟩
        first | exact rfl | exact Eq.trans rfl (congrArg Value.bool (dAnd (by assumption))) | exact Eq.trans rfl (congrArg Value.bool (dAndF (by assumption))) | exact Eq.trans rfl (congrArg Value.bool (dOr (by assumption))) | exact Eq.trans rfl (congrArg Value.bool (dOrT (by assumption)))
      ·
        refine O.no rfl (noB (isF s6_1 c27) rfl) ?_
        refine O.no rfl (noB (isF s6_1 c27) rfl) ?_
        refine O.no rfl (noB (isF s6_1 c27) rfl) ?_
        refine O.no rfl (noB (isF s6_1 c27) rfl) ?_
        refine O.pickF (isF s6_1 c27) ?_
        refine O.nil ?_
        refine ⟨⟨?_, rfl, rfl, rfl, rfl, rfl, rfl, rfl, rfl⟩, rfl⟩
        first | exact rfl | exact Eq.trans rfl (congrArg Value.bool (dAnd (by assumption))) | exact Eq.trans rfl (congrArg Value.bool (dAndF (by assumption))) | exact Eq.trans rfl (congrArg Value.bool (dOr (by assumption))) | exact Eq.trans rfl (congrArg Value.bool (dOrT (by assumption)))
    ·
      rintro f_2 ⟨s32_2, s0_2, s2_2, s3_2, s4_2, s5_2, s6_2, s24_2, s25_2⟩
      refine O.call Tryz.call35 (args3 (Eq.trans s24_2 s3_1) s25_2 s32_2) (is_spec v12 l (bk v12) (slv p1) (slv p2) (slv p3) cv15 _ _ _ ((((h12s.keep e2).keep e3).keepM e4 (fun k hk h => by have := h12.bk_ge k hk; (try dsimp only at h); omega)).keep e_1) hL (fun j hj => by have q1 := h12b j hj; omega) (mx.keep (Ext.trans (Ext.new (Ext.trans (Ext.trans e1 e2) e3) e4 (by rintro i hi rfl; omega)) e_1)) (((hxv15.keep e3).keepM e4 (by intro k hk h; first | (have q1 := hF k hk; (try dsimp only at h); omega) | (have q1 := hF2 k hk; (try dsimp only at h); omega) | (have q1 := hFb k hk; (try dsimp only at h); omega) | ((try dsimp only at hk); (try dsimp only at h); omega))).keep e_1) (((hyv15.keep e3).keepM e4 (by intro k hk h; first | (have q1 := hF k hk; (try dsimp only at h); omega) | (have q1 := hF2 k hk; (try dsimp only at h); omega) | (have q1 := hFb k hk; (try dsimp only at h); omega) | ((try dsimp only at hk); (try dsimp only at h); omega))).keep e_1) (((hzv15.keep e3).keepM e4 (by intro k hk h; first | (have q1 := hF k hk; (try dsimp only at h); omega) | (have q1 := hF2 k hk; (try dsimp only at h); omega) | (have q1 := hFb k hk; (try dsimp only at h); omega) | ((try dsimp only at hk); (try dsimp only at h); omega))).keep e_1) (fun j hj => by have q1 := hj.2; omega) (hrv15.res rfl)) ?_
      rintro v_33 w7 ⟨rfl, e7⟩
      have z7 := e7.size
      refine O.not rfl ?_
      refine O.cast (v' := .bool false) rfl ?_
      refine O.nil ?_
      refine hK6 _ _ ?_
      refine C.condF rfl ?_
      refine C.skip ?_
      refine hK5 _ _ ?_
      refine C.seqK fun K7 hK7 => ?_
      refine C.seqK fun K8 hK8 => ?_
      refine C.join (fun f w f' w' => Le w w' ∧ f' 0 = f 0 ∧ f' 2 = f 2 ∧ f' 3 = f 3 ∧ f' 52 = .bool false) ?_ ?_
      ·
        refine C.region ?_
        refine O.mv ?_
        refine O.mv ?_
        refine O.splitD (x := .tmp 36) (Eq.trans s6_2 s6_1) (fun c36 => ?_) (fun c36 => ?_)
        ·
          refine O.yes rfl (isT (Eq.trans s6_2 s6_1) c36) ?_
          refine O.mv ?_
          refine O.yes rfl (isT (Eq.trans s6_2 s6_1) c36) ?_
          refine O.loadOA Tryz.isAgg28 Tryz.sizeOf28 (Eq.trans s4_2 s4_1) ((hs4.keep e_1).keep e7) (Nat.le_of_ble_eq_true rfl) ?_
          refine O.yes rfl (isT (Eq.trans s6_2 s6_1) c36) ?_
          refine O.mv ?_
          refine O.yes rfl (isT (Eq.trans s6_2 s6_1) c36) ?_
          refine O.call Tryz.call36 (args4 (Eq.trans s3_2 s3_1) rfl (Eq.trans s5_2 s5_1) rfl) (begins_spec v12 l (bk v12) (slv p1) (slv p2) (slv p3) cv15 _ knv15 0 _ (((((h12s.keep e2).keep e3).keepM e4 (fun k hk h => by have := h12.bk_ge k hk; (try dsimp only at h); omega)).keep e_1).keep e7) hL (fun j hj => by have q1 := h12b j hj; omega) (mx.keep (Ext.trans (Ext.trans (Ext.new (Ext.trans (Ext.trans e1 e2) e3) e4 (by rintro i hi rfl; omega)) e_1) e7)) ((((hxv15.keep e3).keepM e4 (by intro k hk h; first | (have q1 := hF k hk; (try dsimp only at h); omega) | (have q1 := hF2 k hk; (try dsimp only at h); omega) | (have q1 := hFb k hk; (try dsimp only at h); omega) | ((try dsimp only at hk); (try dsimp only at h); omega))).keep e_1).keep e7) ((((hyv15.keep e3).keepM e4 (by intro k hk h; first | (have q1 := hF k hk; (try dsimp only at h); omega) | (have q1 := hF2 k hk; (try dsimp only at h); omega) | (have q1 := hFb k hk; (try dsimp only at h); omega) | ((try dsimp only at hk); (try dsimp only at h); omega))).keep e_1).keep e7) ((((hzv15.keep e3).keepM e4 (by intro k hk h; first | (have q1 := hF k hk; (try dsimp only at h); omega) | (have q1 := hF2 k hk; (try dsimp only at h); omega) | (have q1 := hFb k hk; (try dsimp only at h); omega) | ((try dsimp only at hk); (try dsimp only at h); omega))).keep e_1).keep e7) (fun j hj => by have q1 := hj.2; omega) (hrv15.pref c36)) ?_
          rintro v_40 w8 ⟨rfl, e8⟩
          have z8 := e8.size
          refine O.yes rfl (isT (Eq.trans s6_2 s6_1) c36) ?_
          refine O.not rfl ?_
          refine O.cast (v' := .bool false) rfl ?_
          refine O.pickT (isT (Eq.trans s6_2 s6_1) c36) ?_
          refine O.mv ?_
          refine O.yes rfl rfl ?_
          refine O.mv ?_
          refine O.yes rfl rfl ?_
          refine O.not (Eq.trans s6_2 s6_1) ?_
          refine O.yes rfl rfl ?_
          refine O.mv ?_
          refine O.split (x := .tmp 46) rfl (fun c46 => ?_) (fun c46 => ?_)
          ·
            exfalso; simp [c36] at c46
          ·
            refine O.no rfl (noB (isF' rfl c46) rfl) ?_
            refine O.no rfl (noB (isF' rfl c46) rfl) ?_
            refine O.no rfl (noB (isF' rfl c46) rfl) ?_
            refine O.no rfl (noB (isF' rfl c46) rfl) ?_
            refine O.yes rfl rfl ?_
            refine O.pickF (isF' rfl c46) ?_
            refine O.pickF rfl ?_
            refine O.nil ?_
            exact ⟨e8, rfl, rfl, rfl, rfl⟩
        ·
          refine O.no rfl (noB (isF (Eq.trans s6_2 s6_1) c36) rfl) ?_
          refine O.no rfl (noB (isF (Eq.trans s6_2 s6_1) c36) rfl) ?_
          refine O.no rfl (noB (isF (Eq.trans s6_2 s6_1) c36) rfl) ?_
          refine O.no rfl (noB (isF (Eq.trans s6_2 s6_1) c36) rfl) ?_
          refine O.no rfl (noB (isF (Eq.trans s6_2 s6_1) c36) rfl) ?_
          refine O.pickF (isF (Eq.trans s6_2 s6_1) c36) ?_
          refine O.mv ?_
          refine O.yes rfl rfl ?_
          refine O.mv ?_
          refine O.yes rfl rfl ?_
          refine O.not (Eq.trans s6_2 s6_1) ?_
          refine O.yes rfl rfl ?_
          refine O.mv ?_
          refine O.split (x := .tmp 46) rfl (fun c46 => ?_) (fun c46 => ?_)
          ·
            refine O.yes rfl (isT' rfl c46) ?_
            refine O.mv ?_
            refine O.yes rfl (isT' rfl c46) ?_
            refine O.build (cells := #[.slice none 0 0, .slice none 0 0, .slice none 0 0]) rfl (by kernel_rfl) ?_
            refine O.yes rfl (isT' rfl c46) ?_
            refine O.call Tryz.call36 (args4 (Eq.trans s3_2 s3_1) rfl rfl rfl) (begins_spec v12 l (bk v12) (.slice none 0 0) (.slice none 0 0) (.slice none 0 0) Cn.nil0 (fun _ => False) 0 12 _ (((((h12s.keep e2).keep e3).keepM e4 (fun k hk h => by have := h12.bk_ge k hk; (try dsimp only at h); omega)).keep e_1).keep e7) hL (fun j hj => by have q1 := h12b j hj; omega) (mx.keep (Ext.trans (Ext.trans (Ext.new (Ext.trans (Ext.trans e1 e2) e3) e4 (by rintro i hi rfl; omega)) e_1) e7)) (Sl.nil _ _ _) (Sl.nil _ _ _) (Sl.nil _ _ _) (fun _ h => h.elim) (.inr ⟨rfl, rfl, rfl, hrv15.none c36⟩)) ?_
            rintro v_49 w9 ⟨rfl, e9⟩
            have z9 := e9.size
            refine O.yes rfl (isT' rfl c46) ?_
            refine O.not rfl ?_
            refine O.cast (v' := .bool false) rfl ?_
            refine O.yes rfl rfl ?_
            refine O.pickT (isT' rfl c46) ?_
            refine O.pickF rfl ?_
            refine O.nil ?_
            exact ⟨e9, rfl, rfl, rfl, rfl⟩
          ·
            exfalso; simp [c36] at c46
      ·
        rintro f_3 w10 ⟨e_3, s0_3, s2_3, s3_3, s52_3⟩
        have z_3 := e_3.size
        refine hK8 _ _ ?_
        refine C.condF s52_3 ?_
        refine C.skip ?_
        refine hK7 _ _ ?_
        refine C.seqK fun K9 hK9 => ?_
        refine C.region ?_
        refine O.mv ?_
        refine O.call Tryz.call55 (args1 (Eq.trans s0_3 (Eq.trans s0_2 s0_1))) (xcontext_spec p0 l F _ (hl.keep (Ext.trans (Ext.trans (Ext.trans (Ext.new (Ext.trans (Ext.trans e1 e2) e3) e4 (by rintro i hi rfl; omega)) e_1) e7) e_3)) hL9 (fun j hj => by have q1 := hF j hj; omega)) ?_
        rintro v_55 w11 ⟨vav55, vbv55, xv55, fv55, rfl, hxv55, hyv55, hnv55, hrv55, e11⟩
        have z11 := e11.size
        obtain ⟨q1, rfl⟩ := hxv55.slv
        obtain ⟨q2, rfl⟩ := hyv55.slv
        refine O.mv ?_
        refine O.extract rfl rfl ?_
        refine O.extract rfl rfl ?_
        refine O.alloc Tryz.zeroValue25 (fun b7 w12 hb7 hz7 e12 => ?_)
        have z12 := e12.size
        have h7 := hz7.own
        have hl7 := h7.lt
        refine O.storeA (vs := [slv q1, slv q2]) Tryz.sizeOf25 rfl rfl rfl (by simp [slv, Value.oneCell']) h7 (Nat.le_of_ble_eq_true rfl) (fun w13 hs13 e13 z13 => ?_)
        refine O.asg ?_
        refine O.nil ?_
        refine hK9 _ _ ?_
        refine C.seqK fun K10 hK10 => ?_
        refine C.seqK fun K11 hK11 => ?_
        refine C.join (fun f w f' w' => Le w w' ∧ f' 0 = f 0 ∧ f' 2 = f 2 ∧ f' 3 = f 3 ∧ f' 7 = f 7 ∧ f' 62 = .bool (decide (fv55 = true ∧ Cn.isCompact xv55 = true))) ?_ ?_
        ·
          refine C.region ?_
          refine O.mv ?_
          refine O.mv ?_
          refine O.split (x := .tmp 59) rfl (fun c59 => ?_) (fun c59 => ?_)
          ·
            refine O.yes rfl (isT' rfl c59) ?_
            refine O.loadOA Tryz.isAgg25 Tryz.sizeOf25 rfl hs13 (Nat.le_of_ble_eq_true rfl) ?_
            refine O.yes rfl (isT' rfl c59) ?_
            refine O.call Tryz.call17 (args1 rfl) (isCompact_spec (slv q1) (slv q2) xv55 _ _ ((hxv55.keep e12).keepM e13 (by intro k hk h; first | (have q1 := hF k hk; (try dsimp only at h); omega) | (have q1 := hF2 k hk; (try dsimp only at h); omega) | (have q1 := hFb k hk; (try dsimp only at h); omega) | ((try dsimp only at hk); (try dsimp only at h); omega))) ((hyv55.keep e12).keepM e13 (by intro k hk h; first | (have q1 := hF k hk; (try dsimp only at h); omega) | (have q1 := hF2 k hk; (try dsimp only at h); omega) | (have q1 := hFb k hk; (try dsimp only at h); omega) | ((try dsimp only at hk); (try dsimp only at h); omega)))) ?_
            rintro v_61 w14 ⟨rfl, e14⟩
            have z14 := e14.size
            refine O.pickT (isT' rfl c59) ?_
            refine O.nil ?_
            exact ⟨e14, rfl, rfl, rfl, rfl, (Eq.trans rfl (congrArg Value.bool (by first | (have q9 : fv55 = _ := ‹_›; simp [q9]) | simp_all)))⟩
          ·
            refine O.no rfl (noB (isF' rfl c59) rfl) ?_
            refine O.no rfl (noB (isF' rfl c59) rfl) ?_
            refine O.pickF (isF' rfl c59) ?_
            refine O.nil ?_
            exact ⟨(Le.refl _), rfl, rfl, rfl, rfl, (Eq.trans rfl (congrArg Value.bool (by first | (have q9 : fv55 = _ := ‹_›; simp [q9]) | simp_all)))⟩
        ·
          rintro f_4 w15 ⟨e_4, s0_4, s2_4, s3_4, s7_4, s62_4⟩
          have z_4 := e_4.size
          refine hK11 _ _ ?_
          refine C.condD s62_4 (fun c62 => ?_) (fun c62 => ?_)
          ·
            refine C.seqK fun K12 hK12 => ?_
            refine C.region ?_
            refine O.mv ?_
            refine O.loadOA Tryz.isAgg25 Tryz.sizeOf25 s7_4 (hs13.keep e_4) (Nat.le_of_ble_eq_true rfl) ?_
            refine O.call Tryz.call53 (args3 (Eq.trans s3_4 (Eq.trans s3_3 (Eq.trans s3_2 s3_1))) rfl rfl) (wseen_spec v12 l (bk v12) (slv q1) (slv q2) xv55 _ 0 _ ((((((((((h12s.keep e2).keep e3).keepM e4 (fun k hk h => by have := h12.bk_ge k hk; (try dsimp only at h); omega)).keep e_1).keep e7).keep e_3).keep e11).keep e12).keepM e13 (fun k hk h => by have := h12.bk_ge k hk; (try dsimp only at h); omega)).keep e_4) hL (fun j hj => by have q1 := h12b j hj; omega) (mx.keep (Ext.trans (Ext.new (Ext.trans (Ext.trans (Ext.trans (Ext.trans (Ext.trans (Ext.new (Ext.trans (Ext.trans e1 e2) e3) e4 (by rintro i hi rfl; omega)) e_1) e7) e_3) e11) e12) e13 (by rintro i hi rfl; omega)) e_4)) (((hxv55.keep e12).keepM e13 (by intro k hk h; first | (have q1 := hF k hk; (try dsimp only at h); omega) | (have q1 := hF2 k hk; (try dsimp only at h); omega) | (have q1 := hFb k hk; (try dsimp only at h); omega) | ((try dsimp only at hk); (try dsimp only at h); omega))).keep e_4) (((hyv55.keep e12).keepM e13 (by intro k hk h; first | (have q1 := hF k hk; (try dsimp only at h); omega) | (have q1 := hF2 k hk; (try dsimp only at h); omega) | (have q1 := hFb k hk; (try dsimp only at h); omega) | ((try dsimp only at hk); (try dsimp only at h); omega))).keep e_4) (fun j hj => by have q1 := hj.2; omega) (hrv55.yes c62)) ?_
            rintro v_65 w16 ⟨rfl, e16⟩
            have z16 := e16.size
            refine O.not rfl ?_
            refine O.cast (v' := .bool false) rfl ?_
            refine O.nil ?_
            refine hK12 _ _ ?_
            refine C.condF rfl ?_
            refine C.skip ?_
            refine hK10 _ _ ?_
            refine C.seqK fun K13 hK13 => ?_
            refine C.region ?_
            refine O.mv ?_
            refine O.call Tryz.call34 (args1 (Eq.trans s3_4 (Eq.trans s3_3 (Eq.trans s3_2 s3_1)))) (dcart_spec v12 l (bk v12) _ (((((((((((h12s.keep e2).keep e3).keepM e4 (fun k hk h => by have := h12.bk_ge k hk; (try dsimp only at h); omega)).keep e_1).keep e7).keep e_3).keep e11).keep e12).keepM e13 (fun k hk h => by have := h12.bk_ge k hk; (try dsimp only at h); omega)).keep e_4).keep e16) hL (fun j hj => by have q1 := h12b j hj; omega) (mx.keep (Ext.trans (Ext.trans (Ext.new (Ext.trans (Ext.trans (Ext.trans (Ext.trans (Ext.trans (Ext.new (Ext.trans (Ext.trans e1 e2) e3) e4 (by rintro i hi rfl; omega)) e_1) e7) e_3) e11) e12) e13 (by rintro i hi rfl; omega)) e_4) e16))) ?_
            rintro v_73 w17 ⟨vav73, vbv73, vcv73, cv73, env73, rfl, hxv73, hyv73, hzv73, hgv73, hpv73, e17⟩
            have z17 := e17.size
            obtain ⟨hg1, hg2, hg3, hg4⟩ := hgv73
            obtain ⟨a1, a2, a3, ps, rfl, rfl, rfl, hst⟩ := Stn.of hxv73 hyv73 hzv73 (fun x hx => (hg4 x hx).1)
            have hal : a3.2.1 ≤ 1000000 := by obtain ⟨raw, hraw, hps, _⟩ := hzv73; rw [hraw.len, hps]; exact hg3
            refine O.mv ?_
            refine O.extract rfl rfl ?_
            refine O.extract rfl rfl ?_
            refine O.alloc Tryz.zeroValue28 (fun b9 w18 hb9 hz9 e18 => ?_)
            have z18 := e18.size
            have h9 := hz9.own
            have hl9 := h9.lt
            refine O.storeA (vs := [slv a1, slv a2, slv a3]) Tryz.sizeOf28 rfl rfl rfl (by simp [slv, Value.oneCell']) h9 (Nat.le_of_ble_eq_true rfl) (fun w19 hs19 e19 z19 => ?_)
            refine O.asg ?_
            refine O.nil ?_
            refine hK13 _ _ ?_
            refine C.seqK fun K14 hK14 => ?_
            refine C.region ?_
            refine O.loadOA Tryz.isAgg28 Tryz.sizeOf28 rfl hs19 (Nat.le_of_ble_eq_true rfl) ?_
            refine O.call Tryz.call56 (args1 rfl) (stain_spec a1 a2 a3 ps _ _ _ ((hst.keep e18).keepM e19 (by intro k hk h; first | (have q1 := hF k hk; (try dsimp only at h); omega) | (have q1 := hF2 k hk; (try dsimp only at h); omega) | (have q1 := hFb k hk; (try dsimp only at h); omega) | ((try dsimp only at hk); (try dsimp only at h); omega))) (fun j hj => ⟨hj.1, by have q1 := hj.2; omega⟩) hal) ?_
            rintro v_77 w20 ⟨rfl, e20⟩
            have z20 := e20.size
            refine O.nil ?_
            refine hK14 _ _ ?_
            refine C.seqK fun K15 hK15 => ?_
            refine C.region ?_
            refine O.mv ?_
            refine O.bytesS Tryz.underlying32 Tryz.underlying5 Tryz.underlying9 (Eq.trans s3_4 (Eq.trans s3_3 (Eq.trans s3_2 s3_1))) (((((((((((((((h12s.keep e2).keep e3).keepM e4 (fun k hk h => by have := h12.bk_ge k hk; (try dsimp only at h); omega)).keep e_1).keep e7).keep e_3).keep e11).keep e12).keepM e13 (fun k hk h => by have := h12.bk_ge k hk; (try dsimp only at h); omega)).keep e_4).keep e16).keep e17).keep e18).keepM e19 (fun k hk h => by have := h12.bk_ge k hk; (try dsimp only at h); omega)).keepM e20 (by intro j hj h; have q1 := h12b j hj; (try dsimp only at h); omega)) ?_
            refine O.mv ?_
            refine O.bytesS Tryz.underlying32 Tryz.underlying5 Tryz.underlying9 (Eq.trans s0_4 (Eq.trans s0_3 (Eq.trans s0_2 s0_1))) (hl.keep (Ext.new (Ext.new (Ext.trans (Ext.trans (Ext.trans (Ext.trans (Ext.new (Ext.trans (Ext.trans (Ext.trans (Ext.trans (Ext.trans (Ext.new (Ext.trans (Ext.trans e1 e2) e3) e4 (by rintro i hi rfl; omega)) e_1) e7) e_3) e11) e12) e13 (by rintro i hi rfl; omega)) e_4) e16) e17) e18) e19 (by rintro i hi rfl; omega)) e20 (by intro i hi h; (try dsimp only at h); omega))) ?_
            refine O.eqlS rfl rfl ?_
            refine O.cast (v' := .bool true) (congrArg Value.bool (by exact decide_eq_true rfl)) ?_
            refine O.asg ?_
            refine O.nil ?_
            refine hK15 _ _ ?_
            refine C.ret ?_
            refine Outs.one rfl rfl ?_
            exact ⟨rfl, (Ext.new (Ext.new (Ext.trans (Ext.trans (Ext.trans (Ext.trans (Ext.new (Ext.trans (Ext.trans (Ext.trans (Ext.trans (Ext.trans (Ext.new (Ext.trans (Ext.trans e1 e2) e3) e4 (by rintro i hi rfl; omega)) e_1) e7) e_3) e11) e12) e13 (by rintro i hi rfl; omega)) e_4) e16) e17) e18) e19 (by rintro i hi rfl; omega)) e20 (by intro i hi h; (try dsimp only at h); omega))⟩
          ·
            refine C.seqK fun K16 hK16 => ?_
            refine C.region ?_
            refine O.mv ?_
            refine O.build (cells := #[.slice none 0 0, .slice none 0 0]) rfl (by kernel_rfl) ?_
            refine O.call Tryz.call53 (args3 (Eq.trans s3_4 (Eq.trans s3_3 (Eq.trans s3_2 s3_1))) rfl rfl) (wseen_spec v12 l (bk v12) (.slice none 0 0) (.slice none 0 0) ([], []) (fun _ => False) 12 _ ((((((((((h12s.keep e2).keep e3).keepM e4 (fun k hk h => by have := h12.bk_ge k hk; (try dsimp only at h); omega)).keep e_1).keep e7).keep e_3).keep e11).keep e12).keepM e13 (fun k hk h => by have := h12.bk_ge k hk; (try dsimp only at h); omega)).keep e_4) hL (fun j hj => by have q1 := h12b j hj; omega) (mx.keep (Ext.trans (Ext.new (Ext.trans (Ext.trans (Ext.trans (Ext.trans (Ext.trans (Ext.new (Ext.trans (Ext.trans e1 e2) e3) e4 (by rintro i hi rfl; omega)) e_1) e7) e_3) e11) e12) e13 (by rintro i hi rfl; omega)) e_4)) (Sl.nil _ _ _) (Sl.nil _ _ _) (fun _ h => h.elim) (hrv55.no c62)) ?_
            rintro v_69 w21 ⟨rfl, e21⟩
            have z21 := e21.size
            refine O.not rfl ?_
            refine O.cast (v' := .bool false) rfl ?_
            refine O.nil ?_
            refine hK16 _ _ ?_
            refine C.condF rfl ?_
            refine C.skip ?_
            refine hK10 _ _ ?_
            refine C.seqK fun K17 hK17 => ?_
            refine C.region ?_
            refine O.mv ?_
            refine O.call Tryz.call34 (args1 (Eq.trans s3_4 (Eq.trans s3_3 (Eq.trans s3_2 s3_1)))) (dcart_spec v12 l (bk v12) _ (((((((((((h12s.keep e2).keep e3).keepM e4 (fun k hk h => by have := h12.bk_ge k hk; (try dsimp only at h); omega)).keep e_1).keep e7).keep e_3).keep e11).keep e12).keepM e13 (fun k hk h => by have := h12.bk_ge k hk; (try dsimp only at h); omega)).keep e_4).keep e21) hL (fun j hj => by have q1 := h12b j hj; omega) (mx.keep (Ext.trans (Ext.trans (Ext.new (Ext.trans (Ext.trans (Ext.trans (Ext.trans (Ext.trans (Ext.new (Ext.trans (Ext.trans e1 e2) e3) e4 (by rintro i hi rfl; omega)) e_1) e7) e_3) e11) e12) e13 (by rintro i hi rfl; omega)) e_4) e21))) ?_
            rintro v_73 w22 ⟨vav73, vbv73, vcv73, cv73, env73, rfl, hxv73, hyv73, hzv73, hgv73, hpv73, e22⟩
            have z22 := e22.size
            obtain ⟨hg1, hg2, hg3, hg4⟩ := hgv73
            obtain ⟨a1, a2, a3, ps, rfl, rfl, rfl, hst⟩ := Stn.of hxv73 hyv73 hzv73 (fun x hx => (hg4 x hx).1)
            have hal : a3.2.1 ≤ 1000000 := by obtain ⟨raw, hraw, hps, _⟩ := hzv73; rw [hraw.len, hps]; exact hg3
            refine O.mv ?_
            refine O.extract rfl rfl ?_
            refine O.extract rfl rfl ?_
            refine O.alloc Tryz.zeroValue28 (fun b9 w23 hb9 hz9 e23 => ?_)
            have z23 := e23.size
            have h9 := hz9.own
            have hl9 := h9.lt
            refine O.storeA (vs := [slv a1, slv a2, slv a3]) Tryz.sizeOf28 rfl rfl rfl (by simp [slv, Value.oneCell']) h9 (Nat.le_of_ble_eq_true rfl) (fun w24 hs24 e24 z24 => ?_)
            refine O.asg ?_
            refine O.nil ?_
            refine hK17 _ _ ?_
            refine C.seqK fun K18 hK18 => ?_
            refine C.region ?_
            refine O.loadOA Tryz.isAgg28 Tryz.sizeOf28 rfl hs24 (Nat.le_of_ble_eq_true rfl) ?_
            refine O.call Tryz.call56 (args1 rfl) (stain_spec a1 a2 a3 ps _ _ _ ((hst.keep e23).keepM e24 (by intro k hk h; first | (have q1 := hF k hk; (try dsimp only at h); omega) | (have q1 := hF2 k hk; (try dsimp only at h); omega) | (have q1 := hFb k hk; (try dsimp only at h); omega) | ((try dsimp only at hk); (try dsimp only at h); omega))) (fun j hj => ⟨hj.1, by have q1 := hj.2; omega⟩) hal) ?_
            rintro v_77 w25 ⟨rfl, e25⟩
            have z25 := e25.size
            refine O.nil ?_
            refine hK18 _ _ ?_
            refine C.seqK fun K19 hK19 => ?_
            refine C.region ?_
            refine O.mv ?_
            refine O.bytesS Tryz.underlying32 Tryz.underlying5 Tryz.underlying9 (Eq.trans s3_4 (Eq.trans s3_3 (Eq.trans s3_2 s3_1))) (((((((((((((((h12s.keep e2).keep e3).keepM e4 (fun k hk h => by have := h12.bk_ge k hk; (try dsimp only at h); omega)).keep e_1).keep e7).keep e_3).keep e11).keep e12).keepM e13 (fun k hk h => by have := h12.bk_ge k hk; (try dsimp only at h); omega)).keep e_4).keep e21).keep e22).keep e23).keepM e24 (fun k hk h => by have := h12.bk_ge k hk; (try dsimp only at h); omega)).keepM e25 (by intro j hj h; have q1 := h12b j hj; (try dsimp only at h); omega)) ?_
            refine O.mv ?_
            refine O.bytesS Tryz.underlying32 Tryz.underlying5 Tryz.underlying9 (Eq.trans s0_4 (Eq.trans s0_3 (Eq.trans s0_2 s0_1))) (hl.keep (Ext.new (Ext.new (Ext.trans (Ext.trans (Ext.trans (Ext.trans (Ext.new (Ext.trans (Ext.trans (Ext.trans (Ext.trans (Ext.trans (Ext.new (Ext.trans (Ext.trans e1 e2) e3) e4 (by rintro i hi rfl; omega)) e_1) e7) e_3) e11) e12) e13 (by rintro i hi rfl; omega)) e_4) e21) e22) e23) e24 (by rintro i hi rfl; omega)) e25 (by intro i hi h; (try dsimp only at h); omega))) ?_
            refine O.eqlS rfl rfl ?_
            refine O.cast (v' := .bool true) (congrArg Value.bool (by exact decide_eq_true rfl)) ?_
            refine O.asg ?_
            refine O.nil ?_
            refine hK19 _ _ ?_
            refine C.ret ?_
            refine Outs.one rfl rfl ?_
            exact ⟨rfl, (Ext.new (Ext.new (Ext.trans (Ext.trans (Ext.trans (Ext.trans (Ext.new (Ext.trans (Ext.trans (Ext.trans (Ext.trans (Ext.trans (Ext.new (Ext.trans (Ext.trans e1 e2) e3) e4 (by rintro i hi rfl; omega)) e_1) e7) e_3) e11) e12) e13 (by rintro i hi rfl; omega)) e_4) e21) e22) e23) e24 (by rintro i hi rfl; omega)) e25 (by intro i hi h; (try dsimp only at h); omega))⟩

end Go.Proofs.YtnkcmaoaagnopaaGreatDoor
end
section
/-
  The walks of three laws of reading. Conditions: slices as they lie in memory.
-/
namespace Go.Proofs.YtnkcmaoaagnopaaGreatDoor
open Go.Pn Go.RowKit Go.Proofs
attribute [local irreducible] O C D

set_option maxHeartbeats 4000000 in
theorem decodeGreats_spec (x0 : BitVec 8) (x1 : BitVec 64) (v0 : Value) (l : List UInt8) (F : Nat → Prop) (w : World) (hl : Sl byteE w F v0 l) (hF : ∀ j, F j → j < w.heap.size) (mx : Mx w) :
    Ret Tryz.prog 11 #[.int .u8 ((x0).toNat : Int), .int .u64 ((x1).toNat : Int), v0] w (fun v w' => v = .bool true ∧ Le w w') := by
  obtain ⟨ie5, ti5, ts5, tb5, tz5⟩ := inf5
  obtain ⟨ie32, ti32, ts32, tb32, tz32⟩ := inf32
  have hll := hl.le
  have hgl := mx.lt
  have hn10 := Cn.num_u x1
  have _hF9 := hF
  refine enter (args := [.int .u8 ((x0).toNat : Int), .int .u64 ((x1).toNat : Int), v0]) (n := 33) Tryz.func11 rfl rfl (Nat.le_of_ble_eq_true rfl) ?_
  refine C.seqK fun K1 hK1 => ?_
  refine C.region ?_
  refine O.asg ?_
  refine O.nil ?_
  refine hK1 _ _ ?_
  refine C.seqK fun K2 hK2 => ?_
  refine C.seqK fun K3 hK3 => ?_
  refine C.region ?_
  refine O.mv ?_
  refine O.len Tryz.underlying32 rfl hl ?_
  refine O.gtrI rfl rfl ?_
  refine O.nil ?_
  refine hK3 _ _ ?_
  refine C.condD rfl (fun c10 => ?_) (fun c10 => ?_)
  ·
    refine C.seqK fun K4 hK4 => ?_
    refine C.region ?_
    refine O.call Tryz.call29 (argsN) (wknown_spec _ mx) ?_
    rintro v_11 w1 ⟨rfl, e1⟩
    have z1 := e1.size
    refine O.asg ?_
    refine O.nil ?_
    refine hK4 _ _ ?_
    refine C.ret ?_
    refine Outs.one rfl rfl ?_
    exact ⟨rfl, e1⟩
  ·
    refine C.skip ?_
    refine hK2 _ _ ?_
    refine C.seqK fun K5 hK5 => ?_
    refine C.region ?_
    refine O.lit0 Tryz.underlying32 ti5 (fun b12 w2 hb12 hz12 e2 => ?_)
    have z2 := e2.size
    have h12 := hz12.own
    have hl12 := h12.lt
    have h12s : Sl byteE w2 (fun k => k = b12) (.slice (some ⟨b12, 0, none⟩) 0 0) [] := Sl.of_own (G := byteF) h12 rfl (Nat.le_refl _) (by unfold maxLen; omega) (by simp [byteF])
    refine O.litn [.int .u8 0] Tryz.underlying32 ti5 ts5 tz5 rfl (by decide) (by decide) rfl (by simp [Value.oneCell']) (fun b13 w3 hb13 hz13 e3 => ?_)
    have z3 := e3.size
    have h13 := hz13.own
    have hl13 := h13.lt
    have h13s : Sl byteE w3 (fun k => k = b13) (.slice (some ⟨b13, 0, none⟩) 1 1) [0] := Sl.of_own (G := byteF) h13 rfl (Nat.le_refl _) (by unfold maxLen; omega) (by simp [byteF])
    refine O.litn [.int .u8 0, .int .u8 0] Tryz.underlying32 ti5 ts5 tz5 rfl (by decide) (by decide) rfl (by simp [Value.oneCell']) (fun b14 w4 hb14 hz14 e4 => ?_)
    have z4 := e4.size
    have h14 := hz14.own
    have hl14 := h14.lt
    have h14s : Sl byteE w4 (fun k => k = b14) (.slice (some ⟨b14, 0, none⟩) 2 2) [0, 0] := Sl.of_own (G := byteF) h14 rfl (Nat.le_refl _) (by unfold maxLen; omega) (by simp [byteF])
    refine O.litn [.int .u8 0, .int .u8 0, .int .u8 1] Tryz.underlying32 ti5 ts5 tz5 rfl (by decide) (by decide) rfl (by simp [Value.oneCell']) (fun b15 w5 hb15 hz15 e5 => ?_)
    have z5 := e5.size
    have h15 := hz15.own
    have hl15 := h15.lt
    have h15s : Sl byteE w5 (fun k => k = b15) (.slice (some ⟨b15, 0, none⟩) 3 3) [0, 0, 1] := Sl.of_own (G := byteF) h15 rfl (Nat.le_refl _) (by unfold maxLen; omega) (by simp [byteF])
    refine O.litn [.int .u8 0, .int .u8 0, .int .u8 1, .int .u8 1, .int .u8 97] Tryz.underlying32 ti5 ts5 tz5 rfl (by decide) (by decide) rfl (by simp [Value.oneCell']) (fun b16 w6 hb16 hz16 e6 => ?_)
    have z6 := e6.size
    have h16 := hz16.own
    have hl16 := h16.lt
    have h16s : Sl byteE w6 (fun k => k = b16) (.slice (some ⟨b16, 0, none⟩) 5 5) [0, 0, 1, 1, 97] := Sl.of_own (G := byteF) h16 rfl (Nat.le_refl _) (by unfold maxLen; omega) (by simp [byteF])
    refine O.litn [.slice (some ⟨b12, 0, none⟩) 0 0, .slice (some ⟨b13, 0, none⟩) 1 1, .slice (some ⟨b14, 0, none⟩) 2 2, .slice (some ⟨b15, 0, none⟩) 3 3, .slice (some ⟨b16, 0, none⟩) 5 5] Tryz.underlying67 ti32 ts32 tz32 rfl (by decide) (by decide) rfl (by simp [Value.oneCell']) (fun b17 w7 hb17 hz17 e7 => ?_)
    have z7 := e7.size
    have h17 := hz17.own
    have hl17 := h17.lt
    have l12 := (((((h12.keep e3).keep e4).keep e5).keep e6).keep e7).lt
    have l13 := ((((h13.keep e4).keep e5).keep e6).keep e7).lt
    have l14 := (((h14.keep e5).keep e6).keep e7).lt
    have l15 := ((h15.keep e6).keep e7).lt
    have l16 := (h16.keep e7).lt
    obtain ⟨wb, hwb⟩ : ∃ x, x = w7 := ⟨_, rfl⟩
    have hzb : wb.heap.size = w7.heap.size := by rw [hwb]
    have hfive : Sl (sliE byteE) w7 (fun j => j = b17 ∨ j < wb.heap.size) (.slice (some ⟨b17, 0, none⟩) 5 5) Cn.five := Sl.lits (F := fun j => j < wb.heap.size) h17 rfl (by decide) fun i h1 h2 => by
      match i, h1, h2 with
      | 0, _, _ => exact ((((((h12s.keep e3).keep e4).keep e5).keep e6).keep e7)).weak (by intro j hj; have hj : j = b12 := hj; show j < wb.heap.size; omega)
      | 1, _, _ => exact (((((h13s.keep e4).keep e5).keep e6).keep e7)).weak (by intro j hj; have hj : j = b13 := hj; show j < wb.heap.size; omega)
      | 2, _, _ => exact ((((h14s.keep e5).keep e6).keep e7)).weak (by intro j hj; have hj : j = b14 := hj; show j < wb.heap.size; omega)
      | 3, _, _ => exact (((h15s.keep e6).keep e7)).weak (by intro j hj; have hj : j = b15 := hj; show j < wb.heap.size; omega)
      | 4, _, _ => exact ((h16s.keep e7)).weak (by intro j hj; have hj : j = b16 := hj; show j < wb.heap.size; omega)
    refine O.mv ?_
    refine O.remU (m := 8) (b := 5#8) rfl rfl rfl rfl (by decide) ?_
    refine O.idxK (i := (x0 % 5#8).toNat) Tryz.underlying67 Tryz.sizeOf32 rfl rfl hfive rfl (Cn.five_ix x0) (fun a20 h20 => ?_)
    refine O.loadSl Tryz.isAgg32 rfl h20 (fun v21 h21 => ?_)
    have hf5 := Cn.five_len _ (Cn.five_ix x0)
    obtain ⟨u5, hu5⟩ : ∃ u, u = Cn.five[(x0 % 5#8).toNat]'(Cn.five_ix x0) := ⟨_, rfl⟩
    rw [← hu5] at h21 hf5
    refine O.asg ?_
    refine O.nil ?_
    refine hK5 _ _ ?_
    refine C.seqK fun K6 hK6 => ?_
    refine C.region ?_
    refine O.mv ?_
    refine O.appF (G := byteF) Tryz.underlying32 ti5 tz5 ts5 rfl rfl rfl (OwnF.nil _ _ _ _) h21 (by rw [tb5]; simp; omega) (by unfold maxLen; simp; omega) (Nat.le_refl _) (fun v23 w8 h23 e8 => ?_)
    replace e8 : Le w7 w8 := e8.mono (fun _ _ h => h)
    have z8 := e8.size
    have h23s := h23.sl
    refine O.mv ?_
    refine O.call Tryz.call33 (args1 rfl) (rnum_spec x1 _) ?_
    rintro v_25 w9 ⟨e9, h25⟩
    have z9 := e9.size
    have h25s := h25.sl
    refine O.appF (G := byteF) Tryz.underlying32 ti5 tz5 ts5 rfl rfl rfl (h23.keep e9) h25s (by rw [tb5]; simp; omega) (by unfold maxLen; simp; omega) (by omega) (fun v26 w10 h26 e10 => ?_)
    have z10 := e10.size
    have h26s := h26.sl
    refine O.mv ?_
    refine O.appF (G := byteF) Tryz.underlying32 ti5 tz5 ts5 rfl rfl rfl h26 (hl.keep (Ext.new (Ext.trans (Ext.trans (Ext.trans (Ext.trans (Ext.trans (Ext.trans (Ext.trans e2 e3) e4) e5) e6) e7) e8) e9) e10 (by intro i hi h; have := (h23.keep e9).bk_ge i h; omega))) (by rw [tb5]; simp; omega) (by unfold maxLen; simp; omega) (by omega) (fun v28 w11 h28 e11 => ?_)
    have z11 := e11.size
    have h28s := h28.sl
    have h28s := h28.sl
    obtain ⟨p28, rfl⟩ := h28s.slv
    refine O.call Tryz.call30 (args1 rfl) (right_spec p28 (u5 ++ Cn.num x1.toNat ++ l) (bk (slv p28)) _ h28s (by rw [List.length_append, List.length_append]; omega) (fun j hj => by have q1 := (h28).bk_ge j hj; omega) (mx.keep (Ext.new (Ext.new (Ext.trans (Ext.trans (Ext.trans (Ext.trans (Ext.trans (Ext.trans (Ext.trans e2 e3) e4) e5) e6) e7) e8) e9) e10 (by intro i hi h; have := (h23.keep e9).bk_ge i h; omega)) e11 (by intro i hi h; have := h26.bk_ge i h; omega)))) ?_
    rintro v_29 w12 ⟨rfl, e12⟩
    have z12 := e12.size
    refine O.mv ?_
    refine O.yes rfl rfl ?_
    refine O.call Tryz.call29 (argsN) (wknown_spec _ (mx.keep (Ext.trans (Ext.new (Ext.new (Ext.trans (Ext.trans (Ext.trans (Ext.trans (Ext.trans (Ext.trans (Ext.trans e2 e3) e4) e5) e6) e7) e8) e9) e10 (by intro i hi h; have := (h23.keep e9).bk_ge i h; omega)) e11 (by intro i hi h; have := h26.bk_ge i h; omega)) e12))) ?_
    rintro v_31 w13 ⟨rfl, e13⟩
    have z13 := e13.size
    refine O.pickT rfl ?_
    refine O.asg ?_
    refine O.nil ?_
    refine hK6 _ _ ?_
    refine C.ret ?_
    refine Outs.one rfl rfl ?_
    exact ⟨rfl, (Ext.trans (Ext.trans (Ext.new (Ext.new (Ext.trans (Ext.trans (Ext.trans (Ext.trans (Ext.trans (Ext.trans (Ext.trans e2 e3) e4) e5) e6) e7) e8) e9) e10 (by intro i hi h; have := (h23.keep e9).bk_ge i h; omega)) e11 (by intro i hi h; have := h26.bk_ge i h; omega)) e12) e13)⟩

end Go.Proofs.YtnkcmaoaagnopaaGreatDoor
end
