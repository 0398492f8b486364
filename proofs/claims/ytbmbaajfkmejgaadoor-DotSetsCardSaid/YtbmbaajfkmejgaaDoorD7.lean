/-
  The walks of dots: function values. Conditions: slices as they lie in memory.
-/
import Derived.Test.YtbmbaajfkmejgaaDoorFw15
import Derived.Test.YtbmbaajfkmejgaaDoorD4
namespace Go.Proofs.YtbmbaajfkmejgaaDoor
open Go.Pn Go.RowKit Go.Proofs


/-- What a function value that is called with a dot does to the variable o. -/
def Clo (g : Nat) (cs : List Value) (o : Nat) (keep : Bool) : Prop := (∀ args w, (callFunc g args).run Tryd.prog w = .ok (.enter g args) w) ∧
  ∀ (d : Dt.Dot) (B : Nat) (vo : Value) (xs : List Dt.Dot) (w : World), Own w o 35 [vo] → OwnF Dt.dotF 23 B w vo xs → B ≤ w.heap.size → o < B → xs.length ≤ 100000 →
    Ret Tryd.prog g ([Dt.dv d] ++ cs).toArray w (fun _ w' => ∃ v', Own w' o 35 [v'] ∧ OwnF Dt.dotF 23 B w' v' (if keep then xs ++ [d] else xs) ∧ Ext (fun k => k = o ∨ B ≤ k) w w')

theorem keepU_spec (d : Dt.Dot) (o B : Nat) (vo : Value) (xs : List Dt.Dot) (w : World) (hb : Own w o 35 [vo]) (ho : OwnF Dt.dotF 23 B w vo xs) (hB : B ≤ w.heap.size) (hoB : o < B) (hn : xs.length ≤ 100000) :
    Ret Tryd.prog 38 #[Dt.dv (d), .pointer (some ⟨o, 0, none⟩)] w (fun v w' => v = .tuple #[] ∧ ∃ v', Own w' o 35 [v'] ∧ OwnF Dt.dotF 23 B w' v' (xs ++ [d]) ∧ Ext (fun k => k = o ∨ B ≤ k) w w') := by
  obtain ⟨ie23, ti23, ts23, tb23, tz23⟩ := inf23
  refine enter (args := [Dt.dv (d), .pointer (some ⟨o, 0, none⟩)]) (n := 7) Tryd.func38 rfl rfl (Nat.le_of_ble_eq_true rfl) ?_
  refine C.seqK fun K1 hK1 => ?_
  refine C.region ?_
  refine O.box (v := Dt.dv (d)) rfl (fun b2 w1 hb2 hz2 e1 => ?_)
  have z1 := e1.size
  have h2 := hz2.own
  have hl2 := h2.lt
  refine O.nil ?_
  refine hK1 _ _ ?_
  refine C.region ?_
  refine O.loadO Tryd.isAgg35 rfl (hb.keep e1) rfl ?_
  refine O.loadOA Tryd.isAgg23 Tryd.sizeOf23 rfl h2 (Nat.le_of_ble_eq_true rfl) ?_
  refine O.litG (G := Dt.dotF) [d] Tryd.underlying35 ti23 ts23 tz23 rfl (by decide) (by decide) rfl (fun b5 w2 hb5 hz5 e2 => ?_)
  have z2 := e2.size
  have h5 := hz5.own
  have hq5 := Sl.litG (n := 1) h5 rfl (by unfold maxLen; omega)
  refine O.appF (G := Dt.dotF) Tryd.underlying35 ti23 tz23 ts23 rfl rfl rfl ((ho.keep e1).keep e2) hq5 (by rw [tb23]; simp; omega) (by unfold maxLen; simp; omega) (by omega) (fun v6 w3 h6 e3 => ?_)
  have z3 := e3.size
  have h6s := h6.sl
  refine O.store Tryd.sizeOf35 rfl rfl h6.one (((hb.keep e1).keep e2).keepM e3 (by intro h; have := ((ho.keep e1).keep e2).bk_ge _ h; omega)) (by simp) (fun w4 hs4 e4 z4 => ?_)
  try simp only [Int.toNat_natCast, Nat.zero_add, Nat.mul_one] at hs4
  refine O.nil ?_
  refine Outs.none rfl ?_
  exact ⟨rfl, v6, hs4, (h6.keepM e4 (by intro k hk h; have h0 : k = o := h; have := h6.bk_ge k hk; omega)), (Ext.trans (Ext.trans (Ext.trans (Le.to e1) (Le.to e2)) (Ext.mono e3 (by intro k _ hk; first | exact .inl hk | exact .inr (ho.bk_ge k hk).1))) (Ext.mono e4 (by intro k _ hk; first | exact .inl hk | exact .inr (ho.bk_ge k hk).1)))⟩

theorem keepM_spec (d : Dt.Dot) (o B : Nat) (vo : Value) (xs : List Dt.Dot) (w : World) (hb : Own w o 35 [vo]) (ho : OwnF Dt.dotF 23 B w vo xs) (hB : B ≤ w.heap.size) (hoB : o < B) (hn : xs.length ≤ 100000) :
    Ret Tryd.prog 40 #[Dt.dv (d), .pointer (some ⟨o, 0, none⟩)] w (fun v w' => v = .tuple #[] ∧ ∃ v', Own w' o 35 [v'] ∧ OwnF Dt.dotF 23 B w' v' (xs ++ [d]) ∧ Ext (fun k => k = o ∨ B ≤ k) w w') := by
  obtain ⟨ie23, ti23, ts23, tb23, tz23⟩ := inf23
  refine enter (args := [Dt.dv (d), .pointer (some ⟨o, 0, none⟩)]) (n := 7) Tryd.func40 rfl rfl (Nat.le_of_ble_eq_true rfl) ?_
  refine C.seqK fun K1 hK1 => ?_
  refine C.region ?_
  refine O.box (v := Dt.dv (d)) rfl (fun b2 w1 hb2 hz2 e1 => ?_)
  have z1 := e1.size
  have h2 := hz2.own
  have hl2 := h2.lt
  refine O.nil ?_
  refine hK1 _ _ ?_
  refine C.region ?_
  refine O.loadO Tryd.isAgg35 rfl (hb.keep e1) rfl ?_
  refine O.loadOA Tryd.isAgg23 Tryd.sizeOf23 rfl h2 (Nat.le_of_ble_eq_true rfl) ?_
  refine O.litG (G := Dt.dotF) [d] Tryd.underlying35 ti23 ts23 tz23 rfl (by decide) (by decide) rfl (fun b5 w2 hb5 hz5 e2 => ?_)
  have z2 := e2.size
  have h5 := hz5.own
  have hq5 := Sl.litG (n := 1) h5 rfl (by unfold maxLen; omega)
  refine O.appF (G := Dt.dotF) Tryd.underlying35 ti23 tz23 ts23 rfl rfl rfl ((ho.keep e1).keep e2) hq5 (by rw [tb23]; simp; omega) (by unfold maxLen; simp; omega) (by omega) (fun v6 w3 h6 e3 => ?_)
  have z3 := e3.size
  have h6s := h6.sl
  refine O.store Tryd.sizeOf35 rfl rfl h6.one (((hb.keep e1).keep e2).keepM e3 (by intro h; have := ((ho.keep e1).keep e2).bk_ge _ h; omega)) (by simp) (fun w4 hs4 e4 z4 => ?_)
  try simp only [Int.toNat_natCast, Nat.zero_add, Nat.mul_one] at hs4
  refine O.nil ?_
  refine Outs.none rfl ?_
  exact ⟨rfl, v6, hs4, (h6.keepM e4 (by intro k hk h; have h0 : k = o := h; have := h6.bk_ge k hk; omega)), (Ext.trans (Ext.trans (Ext.trans (Le.to e1) (Le.to e2)) (Ext.mono e3 (by intro k _ hk; first | exact .inl hk | exact .inr (ho.bk_ge k hk).1))) (Ext.mono e4 (by intro k _ hk; first | exact .inl hk | exact .inr (ho.bk_ge k hk).1)))⟩

theorem keepB_spec (d : Dt.Dot) (o B : Nat) (vo : Value) (xs : List Dt.Dot) (w : World) (hb : Own w o 35 [vo]) (ho : OwnF Dt.dotF 23 B w vo xs) (hB : B ≤ w.heap.size) (hoB : o < B) (hn : xs.length ≤ 100000) :
    Ret Tryd.prog 42 #[Dt.dv (d), .pointer (some ⟨o, 0, none⟩)] w (fun v w' => v = .tuple #[] ∧ ∃ v', Own w' o 35 [v'] ∧ OwnF Dt.dotF 23 B w' v' (xs ++ [d]) ∧ Ext (fun k => k = o ∨ B ≤ k) w w') := by
  obtain ⟨ie23, ti23, ts23, tb23, tz23⟩ := inf23
  refine enter (args := [Dt.dv (d), .pointer (some ⟨o, 0, none⟩)]) (n := 7) Tryd.func42 rfl rfl (Nat.le_of_ble_eq_true rfl) ?_
  refine C.seqK fun K1 hK1 => ?_
  refine C.region ?_
  refine O.box (v := Dt.dv (d)) rfl (fun b2 w1 hb2 hz2 e1 => ?_)
  have z1 := e1.size
  have h2 := hz2.own
  have hl2 := h2.lt
  refine O.nil ?_
  refine hK1 _ _ ?_
  refine C.region ?_
  refine O.loadO Tryd.isAgg35 rfl (hb.keep e1) rfl ?_
  refine O.loadOA Tryd.isAgg23 Tryd.sizeOf23 rfl h2 (Nat.le_of_ble_eq_true rfl) ?_
  refine O.litG (G := Dt.dotF) [d] Tryd.underlying35 ti23 ts23 tz23 rfl (by decide) (by decide) rfl (fun b5 w2 hb5 hz5 e2 => ?_)
  have z2 := e2.size
  have h5 := hz5.own
  have hq5 := Sl.litG (n := 1) h5 rfl (by unfold maxLen; omega)
  refine O.appF (G := Dt.dotF) Tryd.underlying35 ti23 tz23 ts23 rfl rfl rfl ((ho.keep e1).keep e2) hq5 (by rw [tb23]; simp; omega) (by unfold maxLen; simp; omega) (by omega) (fun v6 w3 h6 e3 => ?_)
  have z3 := e3.size
  have h6s := h6.sl
  refine O.store Tryd.sizeOf35 rfl rfl h6.one (((hb.keep e1).keep e2).keepM e3 (by intro h; have := ((ho.keep e1).keep e2).bk_ge _ h; omega)) (by simp) (fun w4 hs4 e4 z4 => ?_)
  try simp only [Int.toNat_natCast, Nat.zero_add, Nat.mul_one] at hs4
  refine O.nil ?_
  refine Outs.none rfl ?_
  exact ⟨rfl, v6, hs4, (h6.keepM e4 (by intro k hk h; have h0 : k = o := h; have := h6.bk_ge k hk; omega)), (Ext.trans (Ext.trans (Ext.trans (Le.to e1) (Le.to e2)) (Ext.mono e3 (by intro k _ hk; first | exact .inl hk | exact .inr (ho.bk_ge k hk).1))) (Ext.mono e4 (by intro k _ hk; first | exact .inl hk | exact .inr (ho.bk_ge k hk).1)))⟩

theorem dropM_spec (d : Dt.Dot) (w : World) :
    Ret Tryd.prog 41 #[Dt.dv (d)] w (fun v w' => v = .tuple #[] ∧ Le w w') := by
  refine enter (args := [Dt.dv (d)]) (n := 2) Tryd.func41 rfl rfl (Nat.le_of_ble_eq_true rfl) ?_
  refine C.region ?_
  refine O.box (v := Dt.dv (d)) rfl (fun b1 w1 hb1 hz1 e1 => ?_)
  have z1 := e1.size
  have h1 := hz1.own
  have hl1 := h1.lt
  refine O.nil ?_
  refine Outs.none rfl ?_
  exact ⟨rfl, e1⟩

theorem dropB_spec (d : Dt.Dot) (w : World) :
    Ret Tryd.prog 43 #[Dt.dv (d)] w (fun v w' => v = .tuple #[] ∧ Le w w') := by
  refine enter (args := [Dt.dv (d)]) (n := 2) Tryd.func43 rfl rfl (Nat.le_of_ble_eq_true rfl) ?_
  refine C.region ?_
  refine O.box (v := Dt.dv (d)) rfl (fun b1 w1 hb1 hz1 e1 => ?_)
  have z1 := e1.size
  have h1 := hz1.own
  have hl1 := h1.lt
  refine O.nil ?_
  refine Outs.none rfl ?_
  exact ⟨rfl, e1⟩

theorem clo_keepU (o : Nat) : Clo 38 [.pointer (some ⟨o, 0, none⟩)] o true := ⟨Tryd.call38, fun d B vo xs w hb ho hB hoB hn => (keepU_spec d o B vo xs w hb ho hB hoB hn).mono fun _ _ h => h.2⟩
theorem clo_keepM (o : Nat) : Clo 40 [.pointer (some ⟨o, 0, none⟩)] o true := ⟨Tryd.call40, fun d B vo xs w hb ho hB hoB hn => (keepM_spec d o B vo xs w hb ho hB hoB hn).mono fun _ _ h => h.2⟩
theorem clo_keepB (o : Nat) : Clo 42 [.pointer (some ⟨o, 0, none⟩)] o true := ⟨Tryd.call42, fun d B vo xs w hb ho hB hoB hn => (keepB_spec d o B vo xs w hb ho hB hoB hn).mono fun _ _ h => h.2⟩
theorem clo_dropM (o : Nat) : Clo 41 [] o false := ⟨Tryd.call41, fun d _ vo _ w hb ho _ _ _ => (dropM_spec d w).mono fun _ _ e => ⟨vo, hb.keep e.2, ho.keep e.2, e.2.to⟩⟩
theorem clo_dropB (o : Nat) : Clo 43 [] o false := ⟨Tryd.call43, fun d _ vo _ w hb ho _ _ _ => (dropB_spec d w).mono fun _ _ e => ⟨vo, hb.keep e.2, ho.keep e.2, e.2.to⟩⟩
set_option maxHeartbeats 16000000 in
theorem parts_spec (va : Value) (a : List Dt.Dot) (vb : Value) (b : List Dt.Dot) (F F2 : Nat → Prop) (g1 g2 g3 : Nat) (c1 c2 c3 : List Value) (k1 k2 k3 : Bool) (o : Nat) (w : World) (ha : Sl Dt.dotF.enc w F va a) (hb : Sl Dt.dotF.enc w F2 vb b) (hn : a.length ≤ 1000) (hm : b.length ≤ 1000) (hbo : Own w o 35 [.slice none 0 0]) (C1 : Clo g1 c1 o k1) (C2 : Clo g2 c2 o k2) (C3 : Clo g3 c3 o k3) :
    Ret Tryd.prog 39 #[va, vb, .func (.func g1) #[] c1.toArray, .func (.func g2) #[] c2.toArray, .func (.func g3) #[] c3.toArray] w (fun v w' => v = .tuple #[] ∧ (∃ vo B, Own w' o 35 [vo] ∧ OwnF Dt.dotF 23 B w' vo (Dt.merge k1 k2 k3 (Dt.set a) (Dt.set b)) ∧ w.heap.size ≤ B) ∧ Ext (fun k => k = o) w w') := by
  have hlo := hbo.lt
  have hsa := Dt.addAll_length a []
  have hsb := Dt.addAll_length b []
  simp only [List.length_nil, Nat.zero_add] at hsa hsb
  refine enter (args := [va, vb, .func (.func g1) #[] c1.toArray, .func (.func g2) #[] c2.toArray, .func (.func g3) #[] c3.toArray]) (n := 78) Tryd.func39 rfl rfl (Nat.le_of_ble_eq_true rfl) ?_
  refine C.seqK fun K1 hK1 => ?_
  refine C.region ?_
  refine O.mv ?_
  refine O.call Tryd.call15 (args1 rfl) (set_spec _ _ _ _ ha (by omega)) ?_
  rintro v_11 w1 ⟨e1, h11⟩
  have z1 := e1.size
  refine O.mv ?_
  refine O.call Tryd.call15 (args1 rfl) (set_spec _ _ _ _ (hb.keep e1) (by omega)) ?_
  rintro v_13 w2 ⟨e2, h13⟩
  have z2 := e2.size
  obtain ⟨B, hBd⟩ : ∃ B, B = w2.heap.size := ⟨_, rfl⟩
  have hoB : o < B := by omega
  have y11 := (((h11.keep e2)).sl).weak (F' := fun k => k < B ∧ k ≠ o) (fun k hk => by have q := ((h11.keep e2)).bk_ge k hk; constructor <;> omega)
  have y13 := (h13.sl).weak (F' := fun k => k < B ∧ k ≠ o) (fun k hk => by have q := h13.bk_ge k hk; constructor <;> omega)
  refine O.asg ?_
  refine O.asg ?_
  refine O.nil ?_
  refine hK1 _ _ ?_
  refine C.block fun K2 hK2 => ?_
  refine C.loop0 (σ := Value × Value × List Dt.Dot × List Dt.Dot × Value × List Dt.Dot) (fun f0 w0 ⟨ua, ub, x, y, vo, out⟩ f w => f 0 = ua ∧ f 1 = ub ∧ f 2 = f0 2 ∧ f 3 = f0 3 ∧ f 4 = f0 4 ∧ Ext (fun k => k = o ∨ B ≤ k) w0 w ∧ Sl Dt.dotF.enc w (fun k => k < B ∧ k ≠ o) ua x ∧ Sl Dt.dotF.enc w (fun k => k < B ∧ k ≠ o) ub y ∧ Own w o 35 [vo] ∧ OwnF Dt.dotF 23 B w vo out ∧ out.length + x.length + y.length ≤ 2000 ∧ out ++ Dt.merge k1 k2 k3 x y = Dt.merge k1 k2 k3 (Dt.set a) (Dt.set b)) (fun ⟨ua, ub, x, y, vo, out⟩ => x.length + y.length) (v_11, v_13, Dt.set a, Dt.set b, .slice none 0 0, []) ?_ ?_
  ·
    refine ⟨rfl, rfl, rfl, rfl, rfl, Ext.refl _ _, y11, y13, ((hbo.keep e1).keep e2), (OwnF.nil _ _ _ _), ?_⟩
    exact ⟨by unfold Dt.set; simp; omega, rfl⟩
  ·
    rintro ⟨ua, ub, x, y, vo, out⟩ f_1 w3 ⟨s0_1, s1_1, s2_1, s3_1, s4_1, e_1, r0_1, r1_1, r2_1, r3_1, ⟨hlen, hI⟩⟩
    have z_1 := e_1.size
    refine C.seqK fun K3 hK3 => ?_
    refine C.seqK fun K4 hK4 => ?_
    refine C.region ?_
    refine O.mv ?_
    refine O.len Tryd.underlying35 s0_1 r0_1 ?_
    refine O.gtrI rfl rfl ?_
    refine O.mv ?_
    refine O.cut 4 (fun f f' => f' 21 = .bool (decide ((0 : Int) < (x.length : Int) ∨ (0 : Int) < (y.length : Int))) ∧ f' 0 = f 0 ∧ f' 1 = f 1 ∧ f' 2 = f 2 ∧ f' 3 = f 3 ∧ f' 4 = f 4) ?_ ?_
    ·
      refine O.splitD (x := .tmp 17) rfl (fun c17 => ?_) (fun c17 => ?_)
      ·
        refine O.no rfl (noB (isT rfl c17) rfl) ?_
        refine O.no rfl (noB (isT rfl c17) rfl) ?_
        refine O.no rfl (noB (isT rfl c17) rfl) ?_
        refine O.pickT (isT rfl c17) ?_
        refine O.nil ?_
        refine ⟨⟨?_, rfl, rfl, rfl, rfl, rfl⟩, rfl⟩
        first | exact rfl | exact Eq.trans rfl (congrArg Value.bool (dAnd (by assumption))) | exact Eq.trans rfl (congrArg Value.bool (dAndF (by assumption))) | exact Eq.trans rfl (congrArg Value.bool (dOr (by assumption))) | exact Eq.trans rfl (congrArg Value.bool (dOrT (by assumption)))
      ·
        refine O.yes rfl (isF rfl c17) ?_
        refine O.mv ?_
        refine O.yes rfl (isF rfl c17) ?_
        refine O.len Tryd.underlying35 s1_1 r1_1 ?_
        refine O.yes rfl (isF rfl c17) ?_
        refine O.gtrI rfl rfl ?_
        refine O.pickF (isF rfl c17) ?_
        refine O.nil ?_
        refine ⟨⟨?_, rfl, rfl, rfl, rfl, rfl⟩, rfl⟩
        first | exact rfl | exact Eq.trans rfl (congrArg Value.bool (dAnd (by assumption))) | exact Eq.trans rfl (congrArg Value.bool (dAndF (by assumption))) | exact Eq.trans rfl (congrArg Value.bool (dOr (by assumption))) | exact Eq.trans rfl (congrArg Value.bool (dOrT (by assumption)))
    ·
      rintro f_2 ⟨s21_2, s0_2, s1_2, s2_2, s3_2, s4_2⟩
      refine O.nil ?_
      refine hK4 _ _ ?_
      refine C.condD s21_2 (fun c21 => ?_) (fun c21 => ?_)
      ·
        refine C.skip ?_
        refine hK3 _ _ ?_
        refine C.block fun K5 hK5 => ?_
        refine C.block fun K6 hK6 => ?_
        refine C.seqK fun K7 hK7 => ?_
        refine C.draw (by kernel_rfl) fun w4 e4 => ?_
        have z4 := e4.size
        refine D.take (i := 0) rfl rfl rfl rfl (by kernel_rfl) (Le.refl _) ⟨pure _, rfl⟩ (fun w_ hw_ N_ hN => (O.mv (O.nil hN))) ?_
        refine D.take (i := 1) rfl rfl rfl rfl (by kernel_rfl) (Le.refl _) len_form (fun w_ hw_ N_ hN => (O.len Tryd.underlying35 (Eq.trans s1_2 s1_1) ((r1_1.keep e4).keep hw_) (O.nil hN))) ?_
        refine D.take (i := 2) rfl rfl rfl rfl (by kernel_rfl) (Le.refl _) ⟨_, rfl⟩ (fun w_ hw_ N_ hN => (O.eqlI rfl rfl (O.nil hN))) ?_
        refine D.take (i := 3) rfl rfl rfl rfl (by kernel_rfl) (Le.refl _) ⟨pure _, rfl⟩ (fun w_ hw_ N_ hN => (O.mv (O.nil hN))) ?_
        refine D.splitD (x := .tmp 35) rfl (fun c35 => ?_) (fun c35 => ?_)
        ·
          refine D.takeNo (i := 4) rfl rfl (by kernel_rfl) (Le.refl _) rfl (noB (isT rfl c35) rfl) ?_
          refine D.takeNo (i := 5) rfl rfl (by kernel_rfl) (Le.refl _) rfl (noB (isT rfl c35) rfl) ?_
          refine D.takeNo (i := 6) rfl rfl (by kernel_rfl) (Le.refl _) rfl (noB (isT rfl c35) rfl) ?_
          refine D.takeNo (i := 7) rfl rfl (by kernel_rfl) (Le.refl _) rfl (noB (isT rfl c35) rfl) ?_
          refine D.takeNo (i := 8) rfl rfl (by kernel_rfl) (Le.refl _) rfl (noU rfl) ?_
          refine D.takeNo (i := 9) rfl rfl (by kernel_rfl) (Le.refl _) rfl (noU rfl) ?_
          refine D.takeNo (i := 10) rfl rfl (by kernel_rfl) (Le.refl _) rfl (noU rfl) ?_
          refine D.takeNo (i := 11) rfl rfl (by kernel_rfl) (Le.refl _) rfl (noU rfl) ?_
          refine D.takeNo (i := 12) rfl rfl (by kernel_rfl) (Le.refl _) rfl (noU rfl) ?_
          refine D.takeNo (i := 13) rfl rfl (by kernel_rfl) (Le.refl _) rfl (noU rfl) ?_
          refine D.takeNo (i := 14) rfl rfl (by kernel_rfl) (Le.refl _) rfl (noU rfl) ?_
          refine D.takeNo (i := 15) rfl rfl (by kernel_rfl) (Le.refl _) rfl (noU rfl) ?_
          refine D.takeNo (i := 16) rfl rfl (by kernel_rfl) (Le.refl _) rfl (noB (isT rfl c35) rfl) ?_
          refine D.take (i := 17) rfl rfl rfl rfl (by kernel_rfl) (Le.refl _) pick_form (fun w_ hw_ N_ hN => (O.pickT (isT rfl c35) (O.nil hN))) ?_
          refine D.take (i := 18) rfl rfl rfl rfl (by kernel_rfl) (Le.refl _) ⟨pure _, rfl⟩ (fun w_ hw_ N_ hN => (O.asg (O.nil hN))) ?_
          refine D.done (by kernel_rfl) ?_
          refine hK7 _ _ ?_
          refine C.condT rfl ?_
          refine C.seqK fun K8 hK8 => ?_
          refine C.region ?_
          refine O.mv ?_
          obtain ⟨d0, x2, rfl⟩ : ∃ d0 x2, x = d0 :: x2 := List.exists_cons_of_length_pos (by omega)
          refine O.mv ?_
          refine O.idx Tryd.underlying35 Tryd.sizeOf23 rfl (Eq.trans s0_2 s0_1) (r0_1.keep e4) rfl (by omega) (fun a52 h52 => ?_)
          refine O.loadG (G := Dt.dotF) Tryd.isAgg23 Tryd.sizeOf23 rfl h52 ?_
          refine O.callV (vs := [Dt.dv d0]) C1.1 (Eq.trans s2_2 s2_1) (args1 rfl) (C1.2 d0 B vo out w4 (r2_1.keep e4) (r3_1.keep e4) (by omega) hoB (by omega)) ?_
          rintro v_54 w5 ⟨vo54, hb54, ho54, e5⟩
          have z5 := e5.size
          refine O.nil ?_
          refine hK8 _ _ ?_
          refine C.region ?_
          refine O.mv ?_
          obtain ⟨v56, hs56, hr56⟩ := Sl.sub (P := Tryd.prog) (1) ((d0 :: x2).length) Tryd.underlying35 Tryd.sizeOf23 rfl ((r0_1.keep e4).keepM e5 (by rintro k ⟨q1, q2⟩ (q3 | q3); exact q2 q3; omega)) (by simp) (Nat.le_refl _)
          refine O.subR (Eq.trans s0_2 s0_1) hr56 (.inr ⟨_, _, rfl, rfl⟩) (.inl ⟨rfl, rfl⟩) ?_
          simp only [List.take_length, List.drop_succ_cons, List.drop_zero] at hs56
          refine O.asg ?_
          refine O.nil ?_
          refine hK6 _ _ ?_
          refine hK5 _ _ ?_
          refine ⟨(_, _, _, _, _, _), ⟨rfl, (Eq.trans s1_2 s1_1), (Eq.trans s2_2 s2_1), (Eq.trans s3_2 s3_1), (Eq.trans s4_2 s4_1), (Ext.trans (Ext.trans e_1 (Le.to e4)) (e5)), hs56, ((r1_1.keep e4).keepM e5 (by rintro k ⟨q1, q2⟩ (q3 | q3); exact q2 q3; omega)), hb54, ho54, ?_⟩, (by simp <;> omega)⟩
          refine ⟨(by simp only [List.length_cons] at hlen; split <;> first | omega | (simp only [List.length_append, List.length_cons, List.length_nil]; omega)), ?_⟩
          first
          | exact Dt.keepA hI (.inl (List.eq_nil_of_length_eq_zero (by omega)))
          | exact Dt.keepA hI (Dt.first_of (by omega) c31)
          | exact Dt.keepC hI (.inl (List.eq_nil_of_length_eq_zero (by omega)))
          | exact Dt.keepC hI (Dt.second_of (by omega) c57)
          | exact Dt.keepB hI c31 c57
        ·
          refine D.takeYes (i := 4) rfl rfl rfl (by kernel_rfl) rfl (isF rfl c35) (Le.refl _) ⟨pure _, rfl⟩ (fun w_ hw_ N_ hN => (O.mv (O.nil hN))) ?_
          refine D.takeYes (i := 5) rfl rfl rfl (by kernel_rfl) rfl (isF rfl c35) (Le.refl _) len_form (fun w_ hw_ N_ hN => (O.len Tryd.underlying35 (Eq.trans s0_2 s0_1) ((r0_1.keep e4).keep hw_) (O.nil hN))) ?_
          refine D.takeYes (i := 6) rfl rfl rfl (by kernel_rfl) rfl (isF rfl c35) (Le.refl _) ⟨_, rfl⟩ (fun w_ hw_ N_ hN => (O.gtrI rfl rfl (O.nil hN))) ?_
          refine D.takeYes (i := 7) rfl rfl rfl (by kernel_rfl) rfl (isF rfl c35) (Le.refl _) ⟨pure _, rfl⟩ (fun w_ hw_ N_ hN => (O.mv (O.nil hN))) ?_
          refine D.splitD (x := .tmp 39) rfl (fun c39 => ?_) (fun c39 => ?_)
          ·
            refine D.takeYes (i := 8) rfl rfl rfl (by kernel_rfl) rfl (isT rfl c39) (Le.refl _) ⟨pure _, rfl⟩ (fun w_ hw_ N_ hN => (O.mv (O.nil hN))) ?_
            obtain ⟨a41, h41, hr41⟩ := Sl.at (i := 0) (P := Tryd.prog) Tryd.underlying35 Tryd.sizeOf23 rfl (r0_1.keep e4) (by omega)
            refine D.takeYes (i := 9) rfl rfl rfl (by kernel_rfl) rfl (isT rfl c39) (Le.refl _) ⟨_, rfl⟩ (fun w_ hw_ N_ hN => (O.idxR (Eq.trans s0_2 s0_1) rfl hr41 (O.nil hN))) ?_
            refine D.takeYes (i := 10) rfl rfl rfl (by kernel_rfl) rfl (isT rfl c39) (Le.refl _) ⟨_, rfl⟩ (fun w_ hw_ N_ hN => (O.loadG (G := Dt.dotF) Tryd.isAgg23 Tryd.sizeOf23 rfl (h41.keep hw_) (O.nil hN))) ?_
            refine D.takeYes (i := 11) rfl rfl rfl (by kernel_rfl) rfl (isT rfl c39) (Le.refl _) ⟨pure _, rfl⟩ (fun w_ hw_ N_ hN => (O.mv (O.nil hN))) ?_
            obtain ⟨a44, h44, hr44⟩ := Sl.at (i := 0) (P := Tryd.prog) Tryd.underlying35 Tryd.sizeOf23 rfl (r1_1.keep e4) (by omega)
            refine D.takeYes (i := 12) rfl rfl rfl (by kernel_rfl) rfl (isT rfl c39) (Le.refl _) ⟨_, rfl⟩ (fun w_ hw_ N_ hN => (O.idxR (Eq.trans s1_2 s1_1) rfl hr44 (O.nil hN))) ?_
            refine D.takeYes (i := 13) rfl rfl rfl (by kernel_rfl) rfl (isT rfl c39) (Le.refl _) ⟨_, rfl⟩ (fun w_ hw_ N_ hN => (O.loadG (G := Dt.dotF) Tryd.isAgg23 Tryd.sizeOf23 rfl (h44.keep hw_) (O.nil hN))) ?_
            refine D.oneYes (i := 14) rfl rfl (isT rfl c39) (by kernel_rfl) ?_
            refine O.call Tryd.call8 (args2 rfl rfl) (cmp_spec (x[(0 : Int).toNat]'(by omega)) (y[(0 : Int).toNat]'(by omega)) _) ?_
            rintro v_46 w6 ⟨rfl, e6, _⟩
            have z6 := e6.size
            refine O.nil ⟨e6, ?_⟩
            refine D.takeYes (i := 15) rfl rfl rfl (by kernel_rfl) rfl (isT rfl c39) e6 ⟨_, rfl⟩ (fun w_ hw_ N_ hN => (O.lssI rfl rfl (O.nil hN))) ?_
            refine D.takeYes (i := 16) rfl rfl rfl (by kernel_rfl) rfl (isF rfl c35) e6 pick_form (fun w_ hw_ N_ hN => (O.pickT (isT rfl c39) (O.nil hN))) ?_
            refine D.take (i := 17) rfl rfl rfl rfl (by kernel_rfl) e6 pick_form (fun w_ hw_ N_ hN => (O.pickF (isF rfl c35) (O.nil hN))) ?_
            refine D.take (i := 18) rfl rfl rfl rfl (by kernel_rfl) e6 ⟨pure _, rfl⟩ (fun w_ hw_ N_ hN => (O.asg (O.nil hN))) ?_
            refine D.done (by kernel_rfl) ?_
            refine hK7 _ _ ?_
            refine C.condD rfl (fun c31 => ?_) (fun c31 => ?_)
            ·
              refine C.seqK fun K9 hK9 => ?_
              refine C.region ?_
              refine O.mv ?_
              obtain ⟨d0, x2, rfl⟩ : ∃ d0 x2, x = d0 :: x2 := List.exists_cons_of_length_pos (by omega)
              refine O.mv ?_
              refine O.idx Tryd.underlying35 Tryd.sizeOf23 rfl (Eq.trans s0_2 s0_1) ((r0_1.keep e4).keep e6) rfl (by omega) (fun a52 h52 => ?_)
              refine O.loadG (G := Dt.dotF) Tryd.isAgg23 Tryd.sizeOf23 rfl h52 ?_
              refine O.callV (vs := [Dt.dv d0]) C1.1 (Eq.trans s2_2 s2_1) (args1 rfl) (C1.2 d0 B vo out w6 ((r2_1.keep e4).keep e6) ((r3_1.keep e4).keep e6) (by omega) hoB (by omega)) ?_
              rintro v_54 w7 ⟨vo54, hb54, ho54, e7⟩
              have z7 := e7.size
              refine O.nil ?_
              refine hK9 _ _ ?_
              refine C.region ?_
              refine O.mv ?_
              obtain ⟨v56, hs56, hr56⟩ := Sl.sub (P := Tryd.prog) (1) ((d0 :: x2).length) Tryd.underlying35 Tryd.sizeOf23 rfl (((r0_1.keep e4).keep e6).keepM e7 (by rintro k ⟨q1, q2⟩ (q3 | q3); exact q2 q3; omega)) (by simp) (Nat.le_refl _)
              refine O.subR (Eq.trans s0_2 s0_1) hr56 (.inr ⟨_, _, rfl, rfl⟩) (.inl ⟨rfl, rfl⟩) ?_
              simp only [List.take_length, List.drop_succ_cons, List.drop_zero] at hs56
              refine O.asg ?_
              refine O.nil ?_
              refine hK6 _ _ ?_
              refine hK5 _ _ ?_
              refine ⟨(_, _, _, _, _, _), ⟨rfl, (Eq.trans s1_2 s1_1), (Eq.trans s2_2 s2_1), (Eq.trans s3_2 s3_1), (Eq.trans s4_2 s4_1), (Ext.trans (Ext.trans (Ext.trans e_1 (Le.to e4)) (Le.to e6)) (e7)), hs56, (((r1_1.keep e4).keep e6).keepM e7 (by rintro k ⟨q1, q2⟩ (q3 | q3); exact q2 q3; omega)), hb54, ho54, ?_⟩, (by simp <;> omega)⟩
              refine ⟨(by simp only [List.length_cons] at hlen; split <;> first | omega | (simp only [List.length_append, List.length_cons, List.length_nil]; omega)), ?_⟩
              first
              | exact Dt.keepA hI (.inl (List.eq_nil_of_length_eq_zero (by omega)))
              | exact Dt.keepA hI (Dt.first_of (by omega) c31)
              | exact Dt.keepC hI (.inl (List.eq_nil_of_length_eq_zero (by omega)))
              | exact Dt.keepC hI (Dt.second_of (by omega) c57)
              | exact Dt.keepB hI c31 c57
            ·
              refine C.seqK fun K10 hK10 => ?_
              refine C.draw (by kernel_rfl) fun w8 e8 => ?_
              have z8 := e8.size
              refine D.take (i := 0) rfl rfl rfl rfl (by kernel_rfl) (Le.refl _) ⟨pure _, rfl⟩ (fun w_ hw_ N_ hN => (O.mv (O.nil hN))) ?_
              refine D.take (i := 1) rfl rfl rfl rfl (by kernel_rfl) (Le.refl _) len_form (fun w_ hw_ N_ hN => (O.len Tryd.underlying35 (Eq.trans s0_2 s0_1) ((((r0_1.keep e4).keep e6).keep e8).keep hw_) (O.nil hN))) ?_
              refine D.take (i := 2) rfl rfl rfl rfl (by kernel_rfl) (Le.refl _) ⟨_, rfl⟩ (fun w_ hw_ N_ hN => (O.eqlI rfl rfl (O.nil hN))) ?_
              refine D.take (i := 3) rfl rfl rfl rfl (by kernel_rfl) (Le.refl _) ⟨pure _, rfl⟩ (fun w_ hw_ N_ hN => (O.mv (O.nil hN))) ?_
              refine D.splitD (x := .tmp 61) rfl (fun c61 => ?_) (fun c61 => ?_)
              ·
                exfalso; omega
              ·
                refine D.takeYes (i := 4) rfl rfl rfl (by kernel_rfl) rfl (isF rfl c61) (Le.refl _) ⟨pure _, rfl⟩ (fun w_ hw_ N_ hN => (O.mv (O.nil hN))) ?_
                obtain ⟨a63, h63, hr63⟩ := Sl.at (i := 0) (P := Tryd.prog) Tryd.underlying35 Tryd.sizeOf23 rfl (((r0_1.keep e4).keep e6).keep e8) (by omega)
                refine D.takeYes (i := 5) rfl rfl rfl (by kernel_rfl) rfl (isF rfl c61) (Le.refl _) ⟨_, rfl⟩ (fun w_ hw_ N_ hN => (O.idxR (Eq.trans s0_2 s0_1) rfl hr63 (O.nil hN))) ?_
                refine D.takeYes (i := 6) rfl rfl rfl (by kernel_rfl) rfl (isF rfl c61) (Le.refl _) ⟨_, rfl⟩ (fun w_ hw_ N_ hN => (O.loadG (G := Dt.dotF) Tryd.isAgg23 Tryd.sizeOf23 rfl (h63.keep hw_) (O.nil hN))) ?_
                refine D.takeYes (i := 7) rfl rfl rfl (by kernel_rfl) rfl (isF rfl c61) (Le.refl _) ⟨pure _, rfl⟩ (fun w_ hw_ N_ hN => (O.mv (O.nil hN))) ?_
                obtain ⟨a66, h66, hr66⟩ := Sl.at (i := 0) (P := Tryd.prog) Tryd.underlying35 Tryd.sizeOf23 rfl (((r1_1.keep e4).keep e6).keep e8) (by omega)
                refine D.takeYes (i := 8) rfl rfl rfl (by kernel_rfl) rfl (isF rfl c61) (Le.refl _) ⟨_, rfl⟩ (fun w_ hw_ N_ hN => (O.idxR (Eq.trans s1_2 s1_1) rfl hr66 (O.nil hN))) ?_
                refine D.takeYes (i := 9) rfl rfl rfl (by kernel_rfl) rfl (isF rfl c61) (Le.refl _) ⟨_, rfl⟩ (fun w_ hw_ N_ hN => (O.loadG (G := Dt.dotF) Tryd.isAgg23 Tryd.sizeOf23 rfl (h66.keep hw_) (O.nil hN))) ?_
                refine D.oneYes (i := 10) rfl rfl (isF rfl c61) (by kernel_rfl) ?_
                refine O.call Tryd.call8 (args2 rfl rfl) (cmp_spec (x[(0 : Int).toNat]'(by omega)) (y[(0 : Int).toNat]'(by omega)) _) ?_
                rintro v_68 w9 ⟨rfl, e9, _⟩
                have z9 := e9.size
                refine O.nil ⟨e9, ?_⟩
                refine D.takeYes (i := 11) rfl rfl rfl (by kernel_rfl) rfl (isF rfl c61) e9 ⟨_, rfl⟩ (fun w_ hw_ N_ hN => (O.gtrI rfl rfl (O.nil hN))) ?_
                refine D.take (i := 12) rfl rfl rfl rfl (by kernel_rfl) e9 pick_form (fun w_ hw_ N_ hN => (O.pickF (isF rfl c61) (O.nil hN))) ?_
                refine D.take (i := 13) rfl rfl rfl rfl (by kernel_rfl) e9 ⟨pure _, rfl⟩ (fun w_ hw_ N_ hN => (O.asg (O.nil hN))) ?_
                refine D.done (by kernel_rfl) ?_
                refine hK10 _ _ ?_
                refine C.condD rfl (fun c57 => ?_) (fun c57 => ?_)
                ·
                  refine C.seqK fun K11 hK11 => ?_
                  refine C.region ?_
                  refine O.mv ?_
                  obtain ⟨d1, y2, rfl⟩ : ∃ d1 y2, y = d1 :: y2 := List.exists_cons_of_length_pos (by omega)
                  refine O.mv ?_
                  refine O.idx Tryd.underlying35 Tryd.sizeOf23 rfl (Eq.trans s1_2 s1_1) ((((r1_1.keep e4).keep e6).keep e8).keep e9) rfl (by omega) (fun a73 h73 => ?_)
                  refine O.loadG (G := Dt.dotF) Tryd.isAgg23 Tryd.sizeOf23 rfl h73 ?_
                  refine O.callV (vs := [Dt.dv d1]) C3.1 (Eq.trans s4_2 s4_1) (args1 rfl) (C3.2 d1 B vo out w9 ((((r2_1.keep e4).keep e6).keep e8).keep e9) ((((r3_1.keep e4).keep e6).keep e8).keep e9) (by omega) hoB (by omega)) ?_
                  rintro v_75 w10 ⟨vo75, hb75, ho75, e10⟩
                  have z10 := e10.size
                  refine O.nil ?_
                  refine hK11 _ _ ?_
                  refine C.region ?_
                  refine O.mv ?_
                  obtain ⟨v77, hs77, hr77⟩ := Sl.sub (P := Tryd.prog) (1) ((d1 :: y2).length) Tryd.underlying35 Tryd.sizeOf23 rfl (((((r1_1.keep e4).keep e6).keep e8).keep e9).keepM e10 (by rintro k ⟨q1, q2⟩ (q3 | q3); exact q2 q3; omega)) (by simp) (Nat.le_refl _)
                  refine O.subR (Eq.trans s1_2 s1_1) hr77 (.inr ⟨_, _, rfl, rfl⟩) (.inl ⟨rfl, rfl⟩) ?_
                  simp only [List.take_length, List.drop_succ_cons, List.drop_zero] at hs77
                  refine O.asg ?_
                  refine O.nil ?_
                  refine hK6 _ _ ?_
                  refine hK5 _ _ ?_
                  refine ⟨(_, _, _, _, _, _), ⟨(Eq.trans s0_2 s0_1), rfl, (Eq.trans s2_2 s2_1), (Eq.trans s3_2 s3_1), (Eq.trans s4_2 s4_1), (Ext.trans (Ext.trans (Ext.trans (Ext.trans (Ext.trans e_1 (Le.to e4)) (Le.to e6)) (Le.to e8)) (Le.to e9)) (e10)), (((((r0_1.keep e4).keep e6).keep e8).keep e9).keepM e10 (by rintro k ⟨q1, q2⟩ (q3 | q3); exact q2 q3; omega)), hs77, hb75, ho75, ?_⟩, (by simp <;> omega)⟩
                  refine ⟨(by simp only [List.length_cons] at hlen; split <;> first | omega | (simp only [List.length_append, List.length_cons, List.length_nil]; omega)), ?_⟩
                  first
                  | exact Dt.keepA hI (.inl (List.eq_nil_of_length_eq_zero (by omega)))
                  | exact Dt.keepA hI (Dt.first_of (by omega) c31)
                  | exact Dt.keepC hI (.inl (List.eq_nil_of_length_eq_zero (by omega)))
                  | exact Dt.keepC hI (Dt.second_of (by omega) c57)
                  | exact Dt.keepB hI c31 c57
                ·
                  refine C.seqK fun K12 hK12 => ?_
                  refine C.region ?_
                  refine O.mv ?_
                  obtain ⟨d0, x2, rfl⟩ : ∃ d0 x2, x = d0 :: x2 := List.exists_cons_of_length_pos (by omega)
                  obtain ⟨d1, y2, rfl⟩ : ∃ d1 y2, y = d1 :: y2 := List.exists_cons_of_length_pos (by omega)
                  refine O.mv ?_
                  refine O.idx Tryd.underlying35 Tryd.sizeOf23 rfl (Eq.trans s0_2 s0_1) ((((r0_1.keep e4).keep e6).keep e8).keep e9) rfl (by omega) (fun a24 h24 => ?_)
                  refine O.loadG (G := Dt.dotF) Tryd.isAgg23 Tryd.sizeOf23 rfl h24 ?_
                  refine O.callV (vs := [Dt.dv d0]) C2.1 (Eq.trans s3_2 s3_1) (args1 rfl) (C2.2 d0 B vo out w9 ((((r2_1.keep e4).keep e6).keep e8).keep e9) ((((r3_1.keep e4).keep e6).keep e8).keep e9) (by omega) hoB (by omega)) ?_
                  rintro v_26 w11 ⟨vo26, hb26, ho26, e11⟩
                  have z11 := e11.size
                  refine O.nil ?_
                  refine hK12 _ _ ?_
                  refine C.draw (by kernel_rfl) fun w12 e12 => ?_
                  have z12 := e12.size
                  refine D.take (i := 0) rfl rfl rfl rfl (by kernel_rfl) (Le.refl _) ⟨pure _, rfl⟩ (fun w_ hw_ N_ hN => (O.mv (O.nil hN))) ?_
                  obtain ⟨v28, hs28, hr28⟩ := Sl.sub (P := Tryd.prog) (1) ((d0 :: x2).length) Tryd.underlying35 Tryd.sizeOf23 rfl ((((((r0_1.keep e4).keep e6).keep e8).keep e9).keepM e11 (by rintro k ⟨q1, q2⟩ (q3 | q3); exact q2 q3; omega)).keep e12) (by simp) (Nat.le_refl _)
                  refine D.take (i := 1) rfl rfl rfl rfl (by kernel_rfl) (Le.refl _) ⟨_, rfl⟩ (fun w_ hw_ N_ hN => (O.subR (Eq.trans s0_2 s0_1) hr28 (.inr ⟨_, _, rfl, rfl⟩) (.inl ⟨rfl, rfl⟩) (O.nil hN))) ?_
                  simp only [List.take_length, List.drop_succ_cons, List.drop_zero] at hs28
                  refine D.take (i := 2) rfl rfl rfl rfl (by kernel_rfl) (Le.refl _) ⟨pure _, rfl⟩ (fun w_ hw_ N_ hN => (O.mv (O.nil hN))) ?_
                  obtain ⟨v30, hs30, hr30⟩ := Sl.sub (P := Tryd.prog) (1) ((d1 :: y2).length) Tryd.underlying35 Tryd.sizeOf23 rfl ((((((r1_1.keep e4).keep e6).keep e8).keep e9).keepM e11 (by rintro k ⟨q1, q2⟩ (q3 | q3); exact q2 q3; omega)).keep e12) (by simp) (Nat.le_refl _)
                  refine D.take (i := 3) rfl rfl rfl rfl (by kernel_rfl) (Le.refl _) ⟨_, rfl⟩ (fun w_ hw_ N_ hN => (O.subR (Eq.trans s1_2 s1_1) hr30 (.inr ⟨_, _, rfl, rfl⟩) (.inl ⟨rfl, rfl⟩) (O.nil hN))) ?_
                  simp only [List.take_length, List.drop_succ_cons, List.drop_zero] at hs30
                  refine D.take (i := 4) rfl rfl rfl rfl (by kernel_rfl) (Le.refl _) ⟨pure _, rfl⟩ (fun w_ hw_ N_ hN => (O.asg (O.nil hN))) ?_
                  refine D.take (i := 5) rfl rfl rfl rfl (by kernel_rfl) (Le.refl _) ⟨pure _, rfl⟩ (fun w_ hw_ N_ hN => (O.asg (O.nil hN))) ?_
                  refine D.done (by kernel_rfl) ?_
                  refine hK6 _ _ ?_
                  refine hK5 _ _ ?_
                  refine ⟨(_, _, _, _, _, _), ⟨rfl, rfl, (Eq.trans s2_2 s2_1), (Eq.trans s3_2 s3_1), (Eq.trans s4_2 s4_1), (Ext.trans (Ext.trans (Ext.trans (Ext.trans (Ext.trans (Ext.trans e_1 (Le.to e4)) (Le.to e6)) (Le.to e8)) (Le.to e9)) (e11)) (Le.to e12)), hs28, hs30, (hb26.keep e12), (ho26.keep e12), ?_⟩, (by simp <;> omega)⟩
                  refine ⟨(by simp only [List.length_cons] at hlen; split <;> first | omega | (simp only [List.length_append, List.length_cons, List.length_nil]; omega)), ?_⟩
                  first
                  | exact Dt.keepA hI (.inl (List.eq_nil_of_length_eq_zero (by omega)))
                  | exact Dt.keepA hI (Dt.first_of (by omega) c31)
                  | exact Dt.keepC hI (.inl (List.eq_nil_of_length_eq_zero (by omega)))
                  | exact Dt.keepC hI (Dt.second_of (by omega) c57)
                  | exact Dt.keepB hI c31 c57
          ·
            refine D.takeNo (i := 8) rfl rfl (by kernel_rfl) (Le.refl _) rfl (noB (isF rfl c39) rfl) ?_
            refine D.takeNo (i := 9) rfl rfl (by kernel_rfl) (Le.refl _) rfl (noB (isF rfl c39) rfl) ?_
            refine D.takeNo (i := 10) rfl rfl (by kernel_rfl) (Le.refl _) rfl (noB (isF rfl c39) rfl) ?_
            refine D.takeNo (i := 11) rfl rfl (by kernel_rfl) (Le.refl _) rfl (noB (isF rfl c39) rfl) ?_
            refine D.takeNo (i := 12) rfl rfl (by kernel_rfl) (Le.refl _) rfl (noB (isF rfl c39) rfl) ?_
            refine D.takeNo (i := 13) rfl rfl (by kernel_rfl) (Le.refl _) rfl (noB (isF rfl c39) rfl) ?_
            refine D.takeNo (i := 14) rfl rfl (by kernel_rfl) (Le.refl _) rfl (noB (isF rfl c39) rfl) ?_
            refine D.takeNo (i := 15) rfl rfl (by kernel_rfl) (Le.refl _) rfl (noB (isF rfl c39) rfl) ?_
            refine D.takeYes (i := 16) rfl rfl rfl (by kernel_rfl) rfl (isF rfl c35) (Le.refl _) pick_form (fun w_ hw_ N_ hN => (O.pickF (isF rfl c39) (O.nil hN))) ?_
            refine D.take (i := 17) rfl rfl rfl rfl (by kernel_rfl) (Le.refl _) pick_form (fun w_ hw_ N_ hN => (O.pickF (isF rfl c35) (O.nil hN))) ?_
            refine D.take (i := 18) rfl rfl rfl rfl (by kernel_rfl) (Le.refl _) ⟨pure _, rfl⟩ (fun w_ hw_ N_ hN => (O.asg (O.nil hN))) ?_
            refine D.done (by kernel_rfl) ?_
            refine hK7 _ _ ?_
            refine C.condF rfl ?_
            refine C.seqK fun K13 hK13 => ?_
            refine C.draw (by kernel_rfl) fun w13 e13 => ?_
            have z13 := e13.size
            refine D.take (i := 0) rfl rfl rfl rfl (by kernel_rfl) (Le.refl _) ⟨pure _, rfl⟩ (fun w_ hw_ N_ hN => (O.mv (O.nil hN))) ?_
            refine D.take (i := 1) rfl rfl rfl rfl (by kernel_rfl) (Le.refl _) len_form (fun w_ hw_ N_ hN => (O.len Tryd.underlying35 (Eq.trans s0_2 s0_1) (((r0_1.keep e4).keep e13).keep hw_) (O.nil hN))) ?_
            refine D.take (i := 2) rfl rfl rfl rfl (by kernel_rfl) (Le.refl _) ⟨_, rfl⟩ (fun w_ hw_ N_ hN => (O.eqlI rfl rfl (O.nil hN))) ?_
            refine D.take (i := 3) rfl rfl rfl rfl (by kernel_rfl) (Le.refl _) ⟨pure _, rfl⟩ (fun w_ hw_ N_ hN => (O.mv (O.nil hN))) ?_
            refine D.splitD (x := .tmp 61) rfl (fun c61 => ?_) (fun c61 => ?_)
            ·
              refine D.takeNo (i := 4) rfl rfl (by kernel_rfl) (Le.refl _) rfl (noB (isT rfl c61) rfl) ?_
              refine D.takeNo (i := 5) rfl rfl (by kernel_rfl) (Le.refl _) rfl (noB (isT rfl c61) rfl) ?_
              refine D.takeNo (i := 6) rfl rfl (by kernel_rfl) (Le.refl _) rfl (noB (isT rfl c61) rfl) ?_
              refine D.takeNo (i := 7) rfl rfl (by kernel_rfl) (Le.refl _) rfl (noB (isT rfl c61) rfl) ?_
              refine D.takeNo (i := 8) rfl rfl (by kernel_rfl) (Le.refl _) rfl (noB (isT rfl c61) rfl) ?_
              refine D.takeNo (i := 9) rfl rfl (by kernel_rfl) (Le.refl _) rfl (noB (isT rfl c61) rfl) ?_
              refine D.takeNo (i := 10) rfl rfl (by kernel_rfl) (Le.refl _) rfl (noB (isT rfl c61) rfl) ?_
              refine D.takeNo (i := 11) rfl rfl (by kernel_rfl) (Le.refl _) rfl (noB (isT rfl c61) rfl) ?_
              refine D.take (i := 12) rfl rfl rfl rfl (by kernel_rfl) (Le.refl _) pick_form (fun w_ hw_ N_ hN => (O.pickT (isT rfl c61) (O.nil hN))) ?_
              refine D.take (i := 13) rfl rfl rfl rfl (by kernel_rfl) (Le.refl _) ⟨pure _, rfl⟩ (fun w_ hw_ N_ hN => (O.asg (O.nil hN))) ?_
              refine D.done (by kernel_rfl) ?_
              refine hK13 _ _ ?_
              refine C.condT rfl ?_
              refine C.seqK fun K14 hK14 => ?_
              refine C.region ?_
              refine O.mv ?_
              obtain ⟨d1, y2, rfl⟩ : ∃ d1 y2, y = d1 :: y2 := List.exists_cons_of_length_pos (by omega)
              refine O.mv ?_
              refine O.idx Tryd.underlying35 Tryd.sizeOf23 rfl (Eq.trans s1_2 s1_1) ((r1_1.keep e4).keep e13) rfl (by omega) (fun a73 h73 => ?_)
              refine O.loadG (G := Dt.dotF) Tryd.isAgg23 Tryd.sizeOf23 rfl h73 ?_
              refine O.callV (vs := [Dt.dv d1]) C3.1 (Eq.trans s4_2 s4_1) (args1 rfl) (C3.2 d1 B vo out w13 ((r2_1.keep e4).keep e13) ((r3_1.keep e4).keep e13) (by omega) hoB (by omega)) ?_
              rintro v_75 w14 ⟨vo75, hb75, ho75, e14⟩
              have z14 := e14.size
              refine O.nil ?_
              refine hK14 _ _ ?_
              refine C.region ?_
              refine O.mv ?_
              obtain ⟨v77, hs77, hr77⟩ := Sl.sub (P := Tryd.prog) (1) ((d1 :: y2).length) Tryd.underlying35 Tryd.sizeOf23 rfl (((r1_1.keep e4).keep e13).keepM e14 (by rintro k ⟨q1, q2⟩ (q3 | q3); exact q2 q3; omega)) (by simp) (Nat.le_refl _)
              refine O.subR (Eq.trans s1_2 s1_1) hr77 (.inr ⟨_, _, rfl, rfl⟩) (.inl ⟨rfl, rfl⟩) ?_
              simp only [List.take_length, List.drop_succ_cons, List.drop_zero] at hs77
              refine O.asg ?_
              refine O.nil ?_
              refine hK6 _ _ ?_
              refine hK5 _ _ ?_
              refine ⟨(_, _, _, _, _, _), ⟨(Eq.trans s0_2 s0_1), rfl, (Eq.trans s2_2 s2_1), (Eq.trans s3_2 s3_1), (Eq.trans s4_2 s4_1), (Ext.trans (Ext.trans (Ext.trans e_1 (Le.to e4)) (Le.to e13)) (e14)), (((r0_1.keep e4).keep e13).keepM e14 (by rintro k ⟨q1, q2⟩ (q3 | q3); exact q2 q3; omega)), hs77, hb75, ho75, ?_⟩, (by simp <;> omega)⟩
              refine ⟨(by simp only [List.length_cons] at hlen; split <;> first | omega | (simp only [List.length_append, List.length_cons, List.length_nil]; omega)), ?_⟩
              first
              | exact Dt.keepA hI (.inl (List.eq_nil_of_length_eq_zero (by omega)))
              | exact Dt.keepA hI (Dt.first_of (by omega) c31)
              | exact Dt.keepC hI (.inl (List.eq_nil_of_length_eq_zero (by omega)))
              | exact Dt.keepC hI (Dt.second_of (by omega) c57)
              | exact Dt.keepB hI c31 c57
            ·
              exfalso; omega
      ·
        refine C.exit ?_
        refine hK2 _ _ ?_
        refine Outs.none rfl ?_
        have hx : x = [] := List.eq_nil_of_length_eq_zero (by omega)
        have hy : y = [] := List.eq_nil_of_length_eq_zero (by omega)
        subst hx hy
        rw [Dt.merge_nil, List.append_nil] at hI
        exact ⟨rfl, ⟨vo, B, r2_1, hI ▸ r3_1, by omega⟩, (Ext.trans (Ext.trans (Le.to e1) (Le.to e2)) (Ext.mono e_1 (by intro k hk h; rcases h with h | h; exact h; omega)))⟩

end Go.Proofs.YtbmbaajfkmejgaaDoor
