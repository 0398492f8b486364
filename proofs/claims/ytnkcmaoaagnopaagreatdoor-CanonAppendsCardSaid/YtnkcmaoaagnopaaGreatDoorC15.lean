/-
  The walk of what is appended. Conditions: slices as they lie in memory.
-/
import Derived.Test.YtnkcmaoaagnopaaGreatDoorC13
import Derived.Test.YtnkcmaoaagnopaaGreatDoorFw22
namespace Go.Proofs.YtnkcmaoaagnopaaGreatDoor
open Go.Pn Go.RowKit Go.Proofs

set_option maxHeartbeats 8000000 in
theorem canonAppends_spec (v0 : Value) (bs : List UInt8) (F2 : Nat → Prop) (room : BitVec 8) (va1 va2 va3 : Value) (a : Cn.Cart) (F : Nat → Prop) (w : World) (hb : Sl byteE w F2 v0 bs) (hav : Sl Dt.dotF.enc w F va1 a.1.1) (hac : Sl Dt.dotF.enc w F va2 a.1.2) (hai : Sl itemE w F va3 a.2) (hF : ∀ k, F k → k < w.heap.size) (mx : Mx w) :
    Ret Tryz.prog 4 #[v0, .int .u8 ((room).toNat : Int), .agg #[va1, va2, va3]] w (fun v w' => v = .bool true ∧ Le w w') := by
  obtain ⟨ie5, ti5, ts5, tb5, tz5⟩ := inf5
  have hrm : room.toNat < 256 := room.isLt
  refine enter (args := [v0, .int .u8 ((room).toNat : Int), .agg #[va1, va2, va3]]) (n := 130) Tryz.func4 rfl rfl (Nat.le_of_ble_eq_true rfl) ?_
  refine C.seqK fun K1 hK1 => ?_
  refine C.region ?_
  refine O.box (v := .agg #[va1, va2, va3]) rfl (fun b5 w1 hb5 hz5 e1 => ?_)
  have z1 := e1.size
  have h5 := hz5.own
  have hl5 := h5.lt
  refine O.asg ?_
  refine O.nil ?_
  refine hK1 _ _ ?_
  refine C.seqK fun K2 hK2 => ?_
  refine C.seqK fun K3 hK3 => ?_
  refine C.region ?_
  refine O.loadOA Tryz.isAgg28 Tryz.sizeOf28 rfl h5 (Nat.le_of_ble_eq_true rfl) ?_
  refine O.call Tryz.call13 (args1 rfl) (small_spec va1 va2 va3 a F _ (hav.keep e1) (hac.keep e1) (hai.keep e1)) ?_
  rintro v_15 w2 ⟨rfl, e2⟩
  have z2 := e2.size
  refine O.not rfl ?_
  refine O.mv ?_
  refine O.split (x := .tmp 17) rfl (fun c17 => ?_) (fun c17 => ?_)
  ·
    refine O.no rfl (noB (isT' rfl c17) rfl) ?_
    refine O.no rfl (noB (isT' rfl c17) rfl) ?_
    refine O.no rfl (noB (isT' rfl c17) rfl) ?_
    refine O.pickT (isT' rfl c17) ?_
    refine O.nil ?_
    refine hK3 _ _ ?_
    refine C.condT rfl ?_
    refine C.seqK fun K4 hK4 => ?_
    refine C.region ?_
    refine O.call Tryz.call14 (argsN) (known_spec _ ((mx.keep e1).keep e2)) ?_
    rintro v_22 w3 ⟨rfl, e3⟩
    have z3 := e3.size
    refine O.asg ?_
    refine O.nil ?_
    refine hK4 _ _ ?_
    refine C.ret ?_
    refine Outs.one rfl rfl ?_
    exact ⟨rfl, (Ext.trans (Ext.trans e1 e2) e3)⟩
  ·
    refine O.yes rfl (isF' rfl c17) ?_
    refine O.mv ?_
    refine O.yes rfl (isF' rfl c17) ?_
    refine O.len Tryz.underlying32 rfl ((hb.keep e1).keep e2) ?_
    refine O.yes rfl (isF' rfl c17) ?_
    refine O.gtrI rfl rfl ?_
    refine O.pickF (isF' rfl c17) ?_
    refine O.nil ?_
    refine hK3 _ _ ?_
    refine C.condD rfl (fun c21 => ?_) (fun c21 => ?_)
    ·
      refine C.seqK fun K5 hK5 => ?_
      refine C.region ?_
      refine O.call Tryz.call14 (argsN) (known_spec _ ((mx.keep e1).keep e2)) ?_
      rintro v_22 w4 ⟨rfl, e4⟩
      have z4 := e4.size
      refine O.asg ?_
      refine O.nil ?_
      refine hK5 _ _ ?_
      refine C.ret ?_
      refine Outs.one rfl rfl ?_
      exact ⟨rfl, (Ext.trans (Ext.trans e1 e2) e4)⟩
    ·
      have hsm : Cn.small a = true := by simpa using c17
      obtain ⟨hs1, hs2, hs3, hs4⟩ := Cn.small_iff hsm
      have hn : a.2.length ≤ 300 := by omega
      have hS : ∀ x ∈ a.2, x.1.length ≤ 1000 ∧ x.2.length ≤ 300 := fun x hx => by have := hs4 x hx; omega
      have hp : a.1.1.length ≤ 1000 := by omega
      have hq : a.1.2.length ≤ 1000 := by omega
      have hbn : bs.length ≤ 30 := by omega
      have hbl := Cn.bytes_le hn hS hp hq
      refine C.skip ?_
      refine hK2 _ _ ?_
      refine C.seqK fun K6 hK6 => ?_
      refine C.region ?_
      refine O.mv ?_
      refine O.len Tryz.underlying32 rfl ((hb.keep e1).keep e2) ?_
      refine O.mv ?_
      refine O.convUI (m := 8) Tryz.underlying5 Tryz.underlying3 rfl (by decide) ?_
      refine O.addI rfl rfl (by unfold InI; omega) ?_
      refine O.cast (v' := .int .i64 ((bs.length + room.toNat : Nat) : Int)) (congrArg (Value.int .i64) (by simp)) ?_
      refine O.mkR (G := byteF) (zx := 0) (c := (bs.length + room.toNat)) Tryz.underlying32 ti5 tz5 ts5 rfl rfl rfl (by rw [tb5]; omega) (by unfold maxLen; omega) (fun b28 w5 hb28 hz28 e5 => ?_)
      have z5 := e5.size
      have hl28 := hz28.lt
      refine O.mv ?_
      refine O.appR (G := byteF) (zx := 0) (c := (bs.length + room.toNat)) Tryz.underlying32 ti5 ts5 rfl rfl hz28 (((hb.keep e1).keep e2).keep e5) (by omega) (fun w6 hz30 e6 => ?_)
      have z6 := e6.size
      have hz30s := hz30.front (c := (bs.length + room.toNat)) (by rw [List.length_replicate]; omega) (by unfold maxLen; omega)
      refine O.asg ?_
      refine O.nil ?_
      refine hK6 _ _ ?_
      refine C.seqK fun K7 hK7 => ?_
      refine C.region ?_
      refine O.mv ?_
      refine O.loadOA Tryz.isAgg28 Tryz.sizeOf28 rfl (((h5.keep e2).keep e5).keepM e6 (by intro h; (try dsimp only at h); omega)) (Nat.le_of_ble_eq_true rfl) ?_
      refine O.call Tryz.call23 (args2 rfl rfl) (append_spec _ bs _ va1 va2 va3 a F _ hz30s (by omega) (hav.keep (Ext.new (Ext.trans (Ext.trans e1 e2) e5) e6 (by rintro i hi rfl; omega))) (hac.keep (Ext.new (Ext.trans (Ext.trans e1 e2) e5) e6 (by rintro i hi rfl; omega))) (hai.keep (Ext.new (Ext.trans (Ext.trans e1 e2) e5) e6 (by rintro i hi rfl; omega))) (fun k hk => by have q1 := hF k hk; omega) hn hS hp hq (mx.keep (Ext.new (Ext.trans (Ext.trans e1 e2) e5) e6 (by rintro i hi rfl; omega)))) ?_
      rintro v_34 w7 ⟨rv34, rfl, hv34, e7⟩
      have z7 := e7.size
      have h34s := hv34.sl
      refine O.mv ?_
      refine O.extract rfl rfl ?_
      refine O.extract rfl rfl ?_
      refine O.asg ?_
      refine O.asg ?_
      refine O.nil ?_
      refine hK7 _ _ ?_
      refine C.seqK fun K8 hK8 => ?_
      refine C.region ?_
      refine O.loadOA Tryz.isAgg28 Tryz.sizeOf28 rfl ((((h5.keep e2).keep e5).keepM e6 (by intro h; (try dsimp only at h); omega)).keep e7) (Nat.le_of_ble_eq_true rfl) ?_
      refine O.call Tryz.call24 (args1 rfl) (size_spec va1 va2 va3 a F _ (hav.keep (Ext.trans (Ext.new (Ext.trans (Ext.trans e1 e2) e5) e6 (by rintro i hi rfl; omega)) e7)) (hac.keep (Ext.trans (Ext.new (Ext.trans (Ext.trans e1 e2) e5) e6 (by rintro i hi rfl; omega)) e7)) (hai.keep (Ext.trans (Ext.new (Ext.trans (Ext.trans e1 e2) e5) e6 (by rintro i hi rfl; omega)) e7)) (fun k hk => by have q1 := hF k hk; omega) hn hS hp hq (mx.keep (Ext.trans (Ext.new (Ext.trans (Ext.trans e1 e2) e5) e6 (by rintro i hi rfl; omega)) e7))) ?_
      rintro v_39 w8 ⟨rfl, e8⟩
      have z8 := e8.size
      refine O.mv ?_
      refine O.extract rfl rfl ?_
      refine O.extract rfl rfl ?_
      refine O.asg ?_
      refine O.asg ?_
      refine O.nil ?_
      refine hK8 _ _ ?_
      refine C.seqK fun K9 hK9 => ?_
      refine C.seqK fun K10 hK10 => ?_
      refine C.draw (by kernel_rfl) fun w9 e9 => ?_
      have z9 := e9.size
      refine D.take (i := 0) rfl rfl rfl rfl (by kernel_rfl) (Le.refl _) ⟨pure _, rfl⟩ (fun w_ hw_ N_ hN => (O.mv (O.nil hN))) ?_
      refine D.take (i := 1) rfl rfl rfl rfl (by kernel_rfl) (Le.refl _) ⟨pure _, rfl⟩ (fun w_ hw_ N_ hN => (O.mv (O.nil hN))) ?_
      refine D.take (i := 2) rfl rfl rfl rfl (by kernel_rfl) (Le.refl _) cap_form (fun w_ hw_ N_ hN => (O.capL Tryz.underlying32 rfl (O.nil hN))) ?_
      refine D.take (i := 3) rfl rfl rfl rfl (by kernel_rfl) (Le.refl _) ⟨_, rfl⟩ (fun w_ hw_ N_ hN => (O.subC Tryz.underlying32 Tryz.sizeOf5 rfl rfl (by omega) (O.nil hN))) ?_
      have h45s := ((((hz30.keep e7).keep e8).keep e9)).whole (c := bs.length + room.toNat) (by rw [List.length_replicate]; omega) (by unfold maxLen; omega)
      rw [Nat.add_sub_cancel_left] at h45s
      refine D.take (i := 4) rfl rfl rfl rfl (by kernel_rfl) (Le.refl _) ⟨pure _, rfl⟩ (fun w_ hw_ N_ hN => (O.mv (O.nil hN))) ?_
      refine D.take (i := 5) rfl rfl rfl rfl (by kernel_rfl) (Le.refl _) len_form (fun w_ hw_ N_ hN => (O.len Tryz.underlying32 rfl ((((hz30s.keep e7).keep e8).keep e9).keep hw_) (O.nil hN))) ?_
      have hb48 := Sl.sub (P := Tryz.prog) (bs.length) ((bs ++ List.replicate room.toNat 0).length) Tryz.underlying32 Tryz.sizeOf5 (by rfl) h45s (by simp) (Nat.le_refl _)
      obtain ⟨v48, hs48, hr48⟩ := hb48
      refine D.take (i := 6) rfl rfl rfl rfl (by kernel_rfl) (Le.refl _) ⟨_, rfl⟩ (fun w_ hw_ N_ hN => (O.subR rfl hr48 (.inr ⟨_, _, rfl, rfl⟩) (.inl ⟨rfl, rfl⟩) (O.nil hN))) ?_
      refine D.take (i := 7) rfl rfl rfl rfl (by kernel_rfl) (Le.refl _) ⟨_, rfl⟩ (fun w_ hw_ N_ hN => (O.bytesS Tryz.underlying32 Tryz.underlying5 Tryz.underlying9 rfl (hs48.keep hw_) (O.nil hN))) ?_
      refine D.take (i := 8) rfl rfl rfl rfl (by kernel_rfl) (Le.refl _) ⟨pure _, rfl⟩ (fun w_ hw_ N_ hN => (O.mv (O.nil hN))) ?_
      refine D.take (i := 9) rfl rfl rfl rfl (by kernel_rfl) (Le.refl _) cap_form (fun w_ hw_ N_ hN => (O.capL Tryz.underlying32 rfl (O.nil hN))) ?_
      refine D.take (i := 10) rfl rfl rfl rfl (by kernel_rfl) (Le.refl _) ⟨pure _, rfl⟩ (fun w_ hw_ N_ hN => (O.mv (O.nil hN))) ?_
      refine D.take (i := 11) rfl rfl rfl rfl (by kernel_rfl) (Le.refl _) len_form (fun w_ hw_ N_ hN => (O.len Tryz.underlying32 rfl ((((hz30s.keep e7).keep e8).keep e9).keep hw_) (O.nil hN))) ?_
      refine D.take (i := 12) rfl rfl rfl rfl (by kernel_rfl) (Le.refl _) ⟨_, rfl⟩ (fun w_ hw_ N_ hN => (O.subI rfl rfl (by unfold InI; omega) (O.nil hN))) ?_
      refine D.cast (v' := .int .i64 ((room.toNat : Nat) : Int)) (congrArg (Value.int .i64) (by omega)) ?_
      refine D.one (i := 13) rfl rfl (by kernel_rfl) ?_
      refine O.mkF (G := byteF) (zx := 0) Tryz.underlying32 ti5 tz5 ts5 rfl rfl rfl (by rw [tb5]; omega) (by unfold maxLen; omega) (Nat.le_refl _) (fun b55 w10 hb55 hz55 ho55 e10 => ?_)
      have z10 := e10.size
      have ho55s := ho55.sl
      refine O.nil ⟨e10, ?_⟩
      refine D.one (i := 14) rfl rfl (by kernel_rfl) ?_
      refine O.bytesS Tryz.underlying32 Tryz.underlying5 Tryz.underlying9 rfl ho55s ?_
      refine O.nil ⟨e10, ?_⟩
      refine D.take (i := 15) rfl rfl rfl rfl (by kernel_rfl) e10 ⟨_, rfl⟩ (fun w_ hw_ N_ hN => (O.neqS rfl rfl (O.nil hN))) ?_
      refine D.cast (v' := .bool false) (congrArg Value.bool (by exact decide_eq_false (fun h => h (by rw [List.take_of_length_le (by simp), List.drop_left])))) ?_
      refine D.take (i := 16) rfl rfl rfl rfl (by kernel_rfl) e10 ⟨pure _, rfl⟩ (fun w_ hw_ N_ hN => (O.mv (O.nil hN))) ?_
      refine D.takeYes (i := 17) rfl rfl rfl (by kernel_rfl) rfl rfl e10 ⟨pure _, rfl⟩ (fun w_ hw_ N_ hN => (O.mv (O.nil hN))) ?_
      refine D.takeYes (i := 18) rfl rfl rfl (by kernel_rfl) rfl rfl e10 ⟨_, rfl⟩ (fun w_ hw_ N_ hN => (O.bytesS Tryz.underlying32 Tryz.underlying5 Tryz.underlying9 rfl ((((hz30s.keep e7).keep e8).keep e9).keep hw_) (O.nil hN))) ?_
      refine D.takeYes (i := 19) rfl rfl rfl (by kernel_rfl) rfl rfl e10 ⟨pure _, rfl⟩ (fun w_ hw_ N_ hN => (O.mv (O.nil hN))) ?_
      refine D.takeYes (i := 20) rfl rfl rfl (by kernel_rfl) rfl rfl e10 ⟨_, rfl⟩ (fun w_ hw_ N_ hN => (O.bytesS Tryz.underlying32 Tryz.underlying5 Tryz.underlying9 rfl ((hb.keep (Ext.trans (Ext.trans (Ext.trans (Ext.new (Ext.trans (Ext.trans e1 e2) e5) e6 (by rintro i hi rfl; omega)) e7) e8) e9)).keep hw_) (O.nil hN))) ?_
      refine D.takeYes (i := 21) rfl rfl rfl (by kernel_rfl) rfl rfl e10 ⟨_, rfl⟩ (fun w_ hw_ N_ hN => (O.neqS rfl rfl (O.nil hN))) ?_
      refine D.cast (v' := .bool false) (congrArg Value.bool (by exact decide_eq_false (fun h => h rfl))) ?_
      refine D.take (i := 22) rfl rfl rfl rfl (by kernel_rfl) e10 pick_form (fun w_ hw_ N_ hN => (O.pickF rfl (O.nil hN))) ?_
      refine D.done (by kernel_rfl) ?_
      refine hK10 _ _ ?_
      refine C.condF rfl ?_
      refine C.skip ?_
      refine hK9 _ _ ?_
      refine C.seqK fun K11 hK11 => ?_
      refine C.seqK fun K12 hK12 => ?_
      refine C.region ?_
      refine O.loadOA Tryz.isAgg28 Tryz.sizeOf28 rfl (((((((h5.keep e2).keep e5).keepM e6 (by intro h; (try dsimp only at h); omega)).keep e7).keep e8).keep e9).keep e10) (Nat.le_of_ble_eq_true rfl) ?_
      refine O.call Tryz.call19 (args1 rfl) (cartValid_spec va1 va2 va3 a F _ (hav.keep (Ext.trans (Ext.trans (Ext.trans (Ext.trans (Ext.new (Ext.trans (Ext.trans e1 e2) e5) e6 (by rintro i hi rfl; omega)) e7) e8) e9) e10)) (hac.keep (Ext.trans (Ext.trans (Ext.trans (Ext.trans (Ext.new (Ext.trans (Ext.trans e1 e2) e5) e6 (by rintro i hi rfl; omega)) e7) e8) e9) e10)) (hai.keep (Ext.trans (Ext.trans (Ext.trans (Ext.trans (Ext.new (Ext.trans (Ext.trans e1 e2) e5) e6 (by rintro i hi rfl; omega)) e7) e8) e9) e10)) (fun k hk => by have q1 := hF k hk; omega) hn hS (mx.keep (Ext.trans (Ext.trans (Ext.trans (Ext.trans (Ext.new (Ext.trans (Ext.trans e1 e2) e5) e6 (by rintro i hi rfl; omega)) e7) e8) e9) e10))) ?_
      rintro v_66 w11 ⟨rfl, e11⟩
      have z11 := e11.size
      refine O.not rfl ?_
      refine O.nil ?_
      refine hK12 _ _ ?_
      refine C.cond rfl (fun c67 => ?_) (fun c67 => ?_)
      ·
        have hva : Cn.valid a = false := by simpa using c67
        rw [if_neg (by rw [hva]; decide)] at hv34 h34s
        refine C.seqK fun K13 hK13 => ?_
        refine C.region ?_
        refine O.mv ?_
        refine O.len Tryz.underlying32 rfl ((((h34s.keep e8).keep e9).keep e10).keep e11) ?_
        refine O.eqlI rfl rfl ?_
        refine O.cast (v' := .bool true) (congrArg Value.bool (by simp)) ?_
        refine O.mv ?_
        refine O.yes rfl rfl ?_
        refine O.mv ?_
        refine O.yes rfl rfl ?_
        refine O.eqlI rfl rfl ?_
        refine O.cast (v' := .bool true) (congrArg Value.bool (by simp [hva])) ?_
        refine O.pickT rfl ?_
        refine O.mv ?_
        refine O.yes rfl rfl ?_
        refine O.mv ?_
        refine O.yes rfl rfl ?_
        refine O.eqlI rfl rfl ?_
        refine O.cast (v' := .bool true) (congrArg Value.bool (by simp [hva])) ?_
        refine O.pickT rfl ?_
        refine O.mv ?_
        refine O.yes rfl rfl ?_
        refine O.mv ?_
        refine O.yes rfl rfl ?_
        refine O.eqlI rfl rfl ?_
        refine O.cast (v' := .bool true) (congrArg Value.bool (by simp [hva])) ?_
        refine O.pickT rfl ?_
        refine O.mv ?_
        refine O.yes rfl rfl ?_
        refine O.call Tryz.call14 (argsN) (known_spec _ (mx.keep (Ext.trans (Ext.trans (Ext.trans (Ext.trans (Ext.trans (Ext.new (Ext.trans (Ext.trans e1 e2) e5) e6 (by rintro i hi rfl; omega)) e7) e8) e9) e10) e11))) ?_
        rintro v_84 w12 ⟨rfl, e12⟩
        have z12 := e12.size
        refine O.pickT rfl ?_
        refine O.asg ?_
        refine O.nil ?_
        refine hK13 _ _ ?_
        refine C.ret ?_
        refine Outs.one rfl rfl ?_
        exact ⟨rfl, (Ext.trans (Ext.trans (Ext.trans (Ext.trans (Ext.trans (Ext.trans (Ext.new (Ext.trans (Ext.trans e1 e2) e5) e6 (by rintro i hi rfl; omega)) e7) e8) e9) e10) e11) e12)⟩
      ·
        have hva : Cn.valid a = true := by simpa using c67
        rw [if_pos hva] at hv34 h34s
        refine C.skip ?_
        refine hK11 _ _ ?_
        refine C.seqK fun K14 hK14 => ?_
        refine C.region ?_
        refine O.loadOA Tryz.isAgg28 Tryz.sizeOf28 rfl ((((((((h5.keep e2).keep e5).keepM e6 (by intro h; (try dsimp only at h); omega)).keep e7).keep e8).keep e9).keep e10).keep e11) (Nat.le_of_ble_eq_true rfl) ?_
        refine O.call Tryz.call22 (args1 rfl) (rbytes_spec va1 va2 va3 a F _ (hav.keep (Ext.trans (Ext.trans (Ext.trans (Ext.trans (Ext.trans (Ext.new (Ext.trans (Ext.trans e1 e2) e5) e6 (by rintro i hi rfl; omega)) e7) e8) e9) e10) e11)) (hac.keep (Ext.trans (Ext.trans (Ext.trans (Ext.trans (Ext.trans (Ext.new (Ext.trans (Ext.trans e1 e2) e5) e6 (by rintro i hi rfl; omega)) e7) e8) e9) e10) e11)) (hai.keep (Ext.trans (Ext.trans (Ext.trans (Ext.trans (Ext.trans (Ext.new (Ext.trans (Ext.trans e1 e2) e5) e6 (by rintro i hi rfl; omega)) e7) e8) e9) e10) e11)) (fun k hk => by have q1 := hF k hk; omega) hn hS hp hq) ?_
        rintro v_87 w13 ⟨e13, h87⟩
        have z13 := e13.size
        have h87s := h87.sl
        refine O.asg ?_
        refine O.nil ?_
        refine hK14 _ _ ?_
        refine C.seqK fun K15 hK15 => ?_
        refine C.seqK fun K16 hK16 => ?_
        refine C.region ?_
        refine O.mv ?_
        refine O.bytesS Tryz.underlying32 Tryz.underlying5 Tryz.underlying9 rfl (((((h34s.keep e8).keep e9).keep e10).keep e11).keep e13) ?_
        refine O.mv ?_
        refine O.bytesS Tryz.underlying32 Tryz.underlying5 Tryz.underlying9 rfl (hb.keep (Ext.trans (Ext.trans (Ext.trans (Ext.trans (Ext.trans (Ext.trans (Ext.new (Ext.trans (Ext.trans e1 e2) e5) e6 (by rintro i hi rfl; omega)) e7) e8) e9) e10) e11) e13)) ?_
        refine O.mv ?_
        refine O.bytesS Tryz.underlying32 Tryz.underlying5 Tryz.underlying9 rfl h87s ?_
        refine O.addS rfl rfl (by omega) ?_
        refine O.neqS rfl rfl ?_
        refine O.cast (v' := .bool false) (congrArg Value.bool (by exact decide_eq_false (fun h => h rfl))) ?_
        refine O.mv ?_
        refine O.yes rfl rfl ?_
        refine O.mv ?_
        refine O.yes rfl rfl ?_
        refine O.neqI rfl rfl ?_
        refine O.cast (v' := .bool false) (congrArg Value.bool (by simp [hva])) ?_
        refine O.pickF rfl ?_
        refine O.mv ?_
        refine O.yes rfl rfl ?_
        refine O.mv ?_
        refine O.yes rfl rfl ?_
        refine O.mv ?_
        refine O.yes rfl rfl ?_
        refine O.len Tryz.underlying32 rfl h87s ?_
        refine O.yes rfl rfl ?_
        refine O.neqI rfl rfl ?_
        refine O.cast (v' := .bool false) (congrArg Value.bool (by simp [hva])) ?_
        refine O.pickF rfl ?_
        refine O.mv ?_
        refine O.yes rfl rfl ?_
        refine O.mv ?_
        refine O.yes rfl rfl ?_
        refine O.neqI rfl rfl ?_
        refine O.cast (v' := .bool false) (congrArg Value.bool (by simp [hva])) ?_
        refine O.pickF rfl ?_
        refine O.nil ?_
        refine hK16 _ _ ?_
        refine C.condF rfl ?_
        refine C.skip ?_
        refine hK15 _ _ ?_
        refine C.seqK fun K17 hK17 => ?_
        refine C.seqK fun K18 hK18 => ?_
        refine C.region ?_
        refine O.asg ?_
        refine O.nil ?_
        refine hK18 _ _ ?_
        refine C.block fun K19 hK19 => ?_
        refine C.loop0 (σ := Nat × List UInt8) (fun f0 w0 ⟨j, xs⟩ f wz => f 13 = .int .i64 (j) ∧ f 0 = f0 0 ∧ f 6 = f0 6 ∧ f 7 = f0 7 ∧ f 8 = f0 8 ∧ Le w wz ∧ OwnF byteF 5 w6.heap.size wz rv34 xs ∧ Sl byteF.enc wz (fun k => k = b28) (.slice (some ⟨b28, 0, none⟩) bs.length (bs.length + room.toNat)) bs ∧ j ≤ xs.length ∧ xs.length = bs.length + (Cn.bytes a).length) (fun ⟨j, xs⟩ => bs.length + (Cn.bytes a).length - j) (0, bs ++ Cn.bytes a) ?_ ?_
        ·
          refine ⟨rfl, rfl, rfl, rfl, rfl, (Ext.trans (Ext.trans (Ext.trans (Ext.trans (Ext.trans (Ext.trans (Ext.new (Ext.trans (Ext.trans e1 e2) e5) e6 (by rintro i hi rfl; omega)) e7) e8) e9) e10) e11) e13), (((((hv34.keep e8).keep e9).keep e10).keep e11).keep e13), ((((((hz30s.keep e7).keep e8).keep e9).keep e10).keep e11).keep e13), ?_⟩
          exact ⟨Nat.zero_le _, List.length_append⟩
        ·
          rintro ⟨j, xs⟩ f_1 w14 ⟨s13_1, s0_1, s6_1, s7_1, s8_1, e_1, r0_1, r1_1, ⟨hj, hxs⟩⟩
          have z_1 := e_1.size
          have r0_1s := r0_1.sl
          refine C.seqK fun K20 hK20 => ?_
          refine C.seqK fun K21 hK21 => ?_
          refine C.region ?_
          refine O.mv ?_
          refine O.mv ?_
          refine O.len Tryz.underlying32 s8_1 r0_1s ?_
          refine O.lssI s13_1 rfl ?_
          refine O.nil ?_
          refine hK21 _ _ ?_
          refine C.condD rfl (fun c113 => ?_) (fun c113 => ?_)
          ·
            refine C.skip ?_
            refine hK20 _ _ ?_
            refine C.seqK fun K22 hK22 => ?_
            refine C.block fun K23 hK23 => ?_
            refine C.region ?_
            refine O.mv ?_
            refine O.mv ?_
            obtain ⟨g118, cap118, hv118⟩ := OwnF.ptr r0_1 (by omega)
            have ho118 := r0_1
            rw [hv118] at ho118
            refine O.idxO Tryz.underlying32 Tryz.sizeOf5 (Eq.trans s8_1 hv118) s13_1 (by omega) ?_
            refine O.loadC (G := byteF) (i := j) (off := 0) (by simp [byteF]) Tryz.isAgg5 rfl ho118 (by omega) rfl ?_
            refine O.addU (m := 8) (b := 1#8) rfl rfl rfl rfl ?_
            obtain ⟨g121, cap121, hv121⟩ := OwnF.ptr r0_1 (by omega)
            have ho121 := r0_1
            rw [hv121] at ho121
            refine O.idxO Tryz.underlying32 Tryz.sizeOf5 (Eq.trans s8_1 hv121) s13_1 (by omega) ?_
            refine O.storeF (G := byteF) (_) Tryz.sizeOf5 rfl (fun _ => rfl) rfl rfl rfl ho121 (by omega) (fun w15 hs15 e15 z15 => ?_)
            rw [← hv121] at hs15
            refine O.nil ?_
            refine hK23 _ _ ?_
            refine hK22 _ _ ?_
            refine C.region ?_
            refine O.mv ?_
            refine O.addI s13_1 rfl (by unfold InI; omega) ?_
            refine O.asg ?_
            refine O.nil ?_
            refine ⟨(j + 1, _), ⟨rfl, s0_1, s6_1, s7_1, s8_1, (Ext.new e_1 e15 (by intro i hi h; have h0 : i = g121 := h; have q1 := ho121.bk_ge g121 rfl; omega)), hs15, (r1_1.keepM e15 (by intro k hk h; have h0 : k = g121 := h; have q1 := ho121.bk_ge g121 rfl; omega)), ?_⟩, by first | omega | (simp only []; omega)⟩
            exact ⟨by rw [List.length_set]; omega, by rw [List.length_set]; exact hxs⟩
          ·
            refine C.exit ?_
            refine hK19 _ _ ?_
            refine hK17 _ _ ?_
            refine C.seqK fun K24 hK24 => ?_
            refine C.region ?_
            refine O.mv ?_
            refine O.bytesS Tryz.underlying32 Tryz.underlying5 Tryz.underlying9 s7_1 r1_1 ?_
            refine O.mv ?_
            refine O.bytesS Tryz.underlying32 Tryz.underlying5 Tryz.underlying9 s0_1 (hb.keep e_1) ?_
            refine O.eqlS rfl rfl ?_
            refine O.cast (v' := .bool true) (congrArg Value.bool (by exact decide_eq_true rfl)) ?_
            refine O.mv ?_
            refine O.yes rfl rfl ?_
            refine O.call Tryz.call14 (argsN) (known_spec _ (mx.keep e_1)) ?_
            rintro v_128 w16 ⟨rfl, e16⟩
            have z16 := e16.size
            refine O.pickT rfl ?_
            refine O.asg ?_
            refine O.nil ?_
            refine hK24 _ _ ?_
            refine C.ret ?_
            refine Outs.one rfl rfl ?_
            exact ⟨rfl, (Ext.trans e_1 e16)⟩

end Go.Proofs.YtnkcmaoaagnopaaGreatDoor
