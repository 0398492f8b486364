/-
  The walks of dots: the reference's texts. No condition beyond what each says.
-/
import Derived.Test.YtbmbaajfkmejgaaDoorD5
namespace Go.Proofs.YtbmbaajfkmejgaaDoor
open Go.Pn Go.RowKit Go.Proofs

theorem digits_step_spec (n : Nat) (w : World) (hn : n ≤ 4294967295) (ih : ∀ m w, m < n → Ret Tryd.prog 30 #[.int .i64 (m : Int)] w (fun v w' => v = str (Lib.decDigits m) ∧ w' = w)) :
    Ret Tryd.prog 30 #[.int .i64 ((n : Int))] w (fun v w' => v = str (Lib.decDigits n) ∧ w' = w) := by
  refine enter (args := [.int .i64 ((n : Int))]) (n := 16) Tryd.func30 rfl rfl (Nat.le_of_ble_eq_true rfl) ?_
  refine C.seqK fun K1 hK1 => ?_
  refine C.region ?_
  refine O.asg ?_
  refine O.nil ?_
  refine hK1 _ _ ?_
  refine C.seqK fun K2 hK2 => ?_
  refine C.seqK fun K3 hK3 => ?_
  refine C.region ?_
  refine O.mv ?_
  refine O.lssI rfl rfl ?_
  refine O.nil ?_
  refine hK3 _ _ ?_
  refine C.condD rfl (fun c4 => ?_) (fun c4 => ?_)
  ·
    refine C.seqK fun K4 hK4 => ?_
    refine C.region ?_
    refine O.mv ?_
    refine O.mv ?_
    refine O.addI rfl rfl (by unfold InI; omega) ?_
    refine O.subS (l := Dt.ten) Tryd.underlying9 rfl (.inr ⟨_, _, rfl, rfl⟩) (.inr ⟨_, _, rfl, rfl⟩) (by have e : Dt.ten.length = 10 := rfl; rw [e]; omega) ?_
    refine O.asg ?_
    refine O.nil ?_
    refine hK4 _ _ ?_
    refine C.ret ?_
    refine Outs.one rfl rfl ?_
    first
    | exact ⟨congrArg str (Dt.dec_small (by omega)), rfl⟩
    | exact ⟨congrArg str (Dt.dec_big (by omega)), rfl⟩
  ·
    refine C.skip ?_
    refine hK2 _ _ ?_
    refine C.seqK fun K5 hK5 => ?_
    refine C.region ?_
    refine O.mv ?_
    refine O.quoI rfl rfl (by omega) ?_
    refine O.cast (v' := .int .i64 ((n / 10 : Nat) : Int)) rfl ?_
    refine O.call Tryd.call30 (args1 rfl) (ih (n / 10) _ (by omega)) ?_
    rintro v_11 w1 ⟨rfl, hw_⟩
    replace hw_ := hw_.symm
    subst hw_
    refine O.mv ?_
    refine O.remI rfl rfl (by omega) ?_
    refine O.cast (v' := .int .i64 ((n % 10 : Nat) : Int)) rfl ?_
    refine O.call Tryd.call30 (args1 rfl) (ih (n % 10) _ (by omega)) ?_
    rintro v_14 w1 ⟨rfl, hw_⟩
    replace hw_ := hw_.symm
    subst hw_
    refine O.addS rfl rfl (by have h1 := Dt.dec_len (n / 10); have h2 := Dt.dec_len (n % 10); omega) ?_
    refine O.asg ?_
    refine O.nil ?_
    refine hK5 _ _ ?_
    refine C.ret ?_
    refine Outs.one rfl rfl ?_
    first
    | exact ⟨congrArg str (Dt.dec_small (by omega)), rfl⟩
    | exact ⟨congrArg str (Dt.dec_big (by omega)), rfl⟩


theorem digits_nat (n : Nat) : ∀ w, n ≤ 4294967295 → Ret Tryd.prog 30 #[.int .i64 (n : Int)] w (fun v w' => v = str (Lib.decDigits n) ∧ w' = w) := by
  induction n using Nat.strongRecOn with
  | _ n ih => exact fun w hn => digits_step_spec n w hn (fun m w hm => ih m hm w (by omega))
theorem digits_spec (x : Int) (w : World) (hx : 0 ≤ x ∧ x ≤ 4294967295) : Ret Tryd.prog 30 #[.int .i64 x] w (fun v w' => v = str (Lib.itoa x) ∧ w' = w) := by
  obtain ⟨n, rfl⟩ := Int.eq_ofNat_of_zero_le hx.1
  have h := digits_nat n w (by omega)
  rw [Dt.itoa_nat (by omega), Int.toNat_natCast]
  exact h

theorem rtext_spec (d : Dt.Dot) (w : World) (hd : Dt.Valid d) :
    Ret Tryd.prog 12 #[Dt.dv (d)] w (fun v w' => v = str (Dt.text d) ∧ Le w w') := by
  have hd2 := hd
  unfold Dt.Valid at hd2
  refine enter (args := [Dt.dv (d)]) (n := 11) Tryd.func12 rfl rfl (Nat.le_of_ble_eq_true rfl) ?_
  refine C.seqK fun K1 hK1 => ?_
  refine C.region ?_
  refine O.box (v := Dt.dv (d)) rfl (fun b1 w1 hb1 hz1 e1 => ?_)
  have z1 := e1.size
  have h1 := hz1.own
  have hl1 := h1.lt
  refine O.asg ?_
  refine O.nil ?_
  refine hK1 _ _ ?_
  refine C.seqK fun K2 hK2 => ?_
  refine C.draw (by kernel_rfl) fun w2 e2 => ?_
  have z2 := e2.size
  refine D.take (i := 0) rfl rfl rfl rfl (by kernel_rfl) (Le.refl _) ⟨_, rfl⟩ (fun w_ hw_ N_ hN => (O.fieldAd Tryd.underlying23 rfl Tryd.sizeOf3 (by decide) rfl (O.nil hN))) ?_
  refine D.take (i := 1) rfl rfl rfl rfl (by kernel_rfl) (Le.refl _) ⟨_, rfl⟩ (fun w_ hw_ N_ hN => (O.loadO Tryd.isAgg3 rfl ((h1.keep e2).keep hw_) rfl (O.nil hN))) ?_
  refine D.take (i := 4) rfl rfl rfl rfl (by kernel_rfl) (Le.refl _) ⟨_, rfl⟩ (fun w_ hw_ N_ hN => (O.fieldAd Tryd.underlying23 rfl Tryd.sizeOf3 (by decide) rfl (O.nil hN))) ?_
  refine D.take (i := 5) rfl rfl rfl rfl (by kernel_rfl) (Le.refl _) ⟨_, rfl⟩ (fun w_ hw_ N_ hN => (O.loadO Tryd.isAgg3 rfl ((h1.keep e2).keep hw_) rfl (O.nil hN))) ?_
  refine D.one (i := 2) rfl rfl (by kernel_rfl) ?_
  refine O.call Tryd.call30 (args1 rfl) (digits_spec d.1 _ (by omega)) ?_
  rintro v_5 w3 ⟨rfl, hw_⟩
  replace hw_ := hw_.symm
  subst hw_
  refine O.nil ⟨(Le.refl _), ?_⟩
  refine D.take (i := 3) rfl rfl rfl rfl (by kernel_rfl) (Le.refl _) ⟨_, rfl⟩ (fun w_ hw_ N_ hN => (O.addS rfl rfl (by have := Dt.itoa_len hd2; simp; omega) (O.nil hN))) ?_
  refine D.one (i := 6) rfl rfl (by kernel_rfl) ?_
  refine O.call Tryd.call30 (args1 rfl) (digits_spec d.2 _ (by omega)) ?_
  rintro v_9 w3 ⟨rfl, hw_⟩
  replace hw_ := hw_.symm
  subst hw_
  refine O.nil ⟨(Le.refl _), ?_⟩
  refine D.take (i := 7) rfl rfl rfl rfl (by kernel_rfl) (Le.refl _) ⟨_, rfl⟩ (fun w_ hw_ N_ hN => (O.addS rfl rfl (by have := Dt.itoa_len hd2; simp; omega) (O.nil hN))) ?_
  refine D.take (i := 8) rfl rfl rfl rfl (by kernel_rfl) (Le.refl _) ⟨pure _, rfl⟩ (fun w_ hw_ N_ hN => (O.asg (O.nil hN))) ?_
  refine D.done (by kernel_rfl) ?_
  refine hK2 _ _ ?_
  refine C.ret ?_
  refine Outs.one rfl rfl ?_
  exact ⟨rfl, (Ext.trans e1 e2)⟩

set_option maxHeartbeats 2000000 in
theorem rparse_spec (l : List UInt8) (w : World) (hl : l.length ≤ maxLen) :
    Ret Tryd.prog 13 #[str (l)] w (fun v w' => v = Dt.gotB (Dt.rparse l) ∧ Le w w') := by
  have hl2 := hl
  unfold maxLen at hl2
  refine enter (args := [str (l)]) (n := 64) Tryd.func13 rfl rfl (Nat.le_of_ble_eq_true rfl) ?_
  refine C.seqK fun K1 hK1 => ?_
  refine C.region ?_
  refine O.alloc Tryd.zeroValue23 (fun b2 w1 hb2 hz2 e1 => ?_)
  have z1 := e1.size
  have h2 := hz2.own
  have hl2 := h2.lt
  refine O.asg ?_
  refine O.nil ?_
  refine hK1 _ _ ?_
  refine C.seqK fun K2 hK2 => ?_
  refine C.region ?_
  refine O.alloc Tryd.zeroValue47 (fun b4 w2 hb4 hz4 e2 => ?_)
  have z2 := e2.size
  have h4 := hz4.own
  have hl4 := h4.lt
  refine O.nil ?_
  refine hK2 _ _ ?_
  refine C.seqK fun K3 hK3 => ?_
  refine C.region ?_
  refine O.asg ?_
  refine O.nil ?_
  refine hK3 _ _ ?_
  refine C.seqK fun K4 hK4 => ?_
  refine C.seqK fun K5 hK5 => ?_
  refine C.region ?_
  refine O.asg ?_
  refine O.nil ?_
  refine hK5 _ _ ?_
  refine C.block fun K6 hK6 => ?_
  refine C.loop0 (σ := Nat × Int × Int × Int) (fun f0 w0 ⟨i, k, a, b⟩ f wz => f 5 = .int .i64 (k) ∧ f 6 = .int .i64 (i) ∧ f 0 = f0 0 ∧ f 2 = f0 2 ∧ f 4 = f0 4 ∧ Le w wz ∧ Own wz b4 47 [.int .i64 a, .int .i64 b] ∧ Own wz b2 23 [.int .i64 0, .int .i64 0] ∧ i ≤ l.length ∧ (k = 0 ∨ k = 1) ∧ (0 ≤ a ∧ a ≤ 1099511627776 ∧ 0 ≤ b ∧ b ≤ 1099511627776) ∧ Dt.rfrom 0 0 0 l = Dt.rfrom k.toNat a b (l.drop i)) (fun ⟨i, k, a, b⟩ => l.length - i) (0, 0, 0, 0) ?_ ?_
  ·
    refine ⟨rfl, rfl, rfl, rfl, rfl, (Ext.trans e1 e2), h4, (h2.keep e2), ?_⟩
    exact ⟨Nat.zero_le _, .inl rfl, ⟨by omega, by omega, by omega, by omega⟩, rfl⟩
  ·
    rintro ⟨i, k, a, b⟩ f_1 w3 ⟨s5_1, s6_1, s0_1, s2_1, s4_1, e_1, r0_1, r1_1, ⟨hk, hk1, hab, hp⟩⟩
    have z_1 := e_1.size
    have hb2l := r1_1.lt
    have hb4l := r0_1.lt
    refine C.seqK fun K7 hK7 => ?_
    refine C.seqK fun K8 hK8 => ?_
    refine C.region ?_
    refine O.mv ?_
    refine O.mv ?_
    refine O.lenS Tryd.underlying9 s0_1 ?_
    refine O.lssI s6_1 rfl ?_
    refine O.nil ?_
    refine hK8 _ _ ?_
    refine C.condD rfl (fun c11 => ?_) (fun c11 => ?_)
    ·
      have hk2 : i < l.length := by omega
      obtain ⟨c, hc⟩ : ∃ c : BitVec 8, c = (l[i]'hk2).toBitVec := ⟨_, rfl⟩
      have hcl := c.isLt
      refine C.skip ?_
      refine hK7 _ _ ?_
      refine C.seqK fun K9 hK9 => ?_
      refine C.block fun K10 hK10 => ?_
      refine C.block fun K11 hK11 => ?_
      refine C.seqK fun K12 hK12 => ?_
      refine C.region ?_
      refine O.mv ?_
      refine O.mv ?_
      refine O.indexS Tryd.underlying9 s0_1 s6_1 (by simp; omega) ?_
      refine O.cast (v' := .int .u8 (c.toNat : Int)) (by rw [hc]; simp [hk2]) ?_
      refine O.geqU (m := 8) (b := 48#8) rfl rfl ?_
      refine O.mv ?_
      refine O.cut 5 (fun f f' => f' 25 = .bool (decide (48#8 ≤ c ∧ c ≤ 57#8)) ∧ f' 0 = f 0 ∧ f' 2 = f 2 ∧ f' 4 = f 4 ∧ f' 5 = f 5 ∧ f' 6 = f 6) ?_ ?_
      ·
        refine O.splitD (x := .tmp 20) rfl (fun c20 => ?_) (fun c20 => ?_)
        ·
          refine O.yes rfl (isT rfl c20) ?_
          refine O.mv ?_
          refine O.yes rfl (isT rfl c20) ?_
          refine O.mv ?_
          refine O.yes rfl (isT rfl c20) ?_
          refine O.indexS Tryd.underlying9 s0_1 s6_1 (by simp; omega) ?_
          refine O.cast (v' := .int .u8 (c.toNat : Int)) (by rw [hc]; simp [hk2]) ?_
          refine O.yes rfl (isT rfl c20) ?_
          refine O.leqU (m := 8) (b := 57#8) rfl rfl ?_
          refine O.pickT (isT rfl c20) ?_
          refine O.nil ?_
          refine ⟨⟨?_, rfl, rfl, rfl, rfl, rfl⟩, rfl⟩
          first | exact rfl | exact Eq.trans rfl (congrArg Value.bool (dAnd (by assumption))) | exact Eq.trans rfl (congrArg Value.bool (dAndF (by assumption))) | exact Eq.trans rfl (congrArg Value.bool (dOr (by assumption))) | exact Eq.trans rfl (congrArg Value.bool (dOrT (by assumption)))
        ·
          refine O.no rfl (noB (isF rfl c20) rfl) ?_
          refine O.no rfl (noB (isF rfl c20) rfl) ?_
          refine O.no rfl (noB (isF rfl c20) rfl) ?_
          refine O.no rfl (noB (isF rfl c20) rfl) ?_
          refine O.pickF (isF rfl c20) ?_
          refine O.nil ?_
          refine ⟨⟨?_, rfl, rfl, rfl, rfl, rfl⟩, rfl⟩
          first | exact rfl | exact Eq.trans rfl (congrArg Value.bool (dAnd (by assumption))) | exact Eq.trans rfl (congrArg Value.bool (dAndF (by assumption))) | exact Eq.trans rfl (congrArg Value.bool (dOr (by assumption))) | exact Eq.trans rfl (congrArg Value.bool (dOrT (by assumption)))
      ·
        rintro f_2 ⟨s25_2, s0_2, s2_2, s4_2, s5_2, s6_2⟩
        refine O.asg ?_
        refine O.nil ?_
        refine hK12 _ _ ?_
        refine C.condD s25_2 (fun c15 => ?_) (fun c15 => ?_)
        ·
          have hc48 : 48 ≤ c.toNat := by have := c15.1; rw [BitVec.le_def] at this; exact this
          have hx : 0 ≤ (if k.toNat = 0 then a else b) ∧ (if k.toNat = 0 then a else b) ≤ 1099511627776 := by split <;> omega
          refine C.drawB (wB := w) (by kernel_rfl) fun w4 e4 => ?_
          have z4 := e4.size
          refine D.take (i := 0) rfl rfl rfl rfl (by kernel_rfl) (Ext.trans e_1 e4) ⟨pure _, rfl⟩ (fun w_ hw_ N_ hN => (O.mv (O.nil hN))) ?_
          refine D.take (i := 1) rfl rfl rfl rfl (by kernel_rfl) (Ext.trans e_1 e4) ⟨pure _, rfl⟩ (fun w_ hw_ N_ hN => (O.mv (O.nil hN))) ?_
          refine D.take (i := 2) rfl rfl rfl rfl (by kernel_rfl) (Ext.trans e_1 e4) ⟨_, rfl⟩ (fun w_ hw_ N_ hN => (O.idxA Tryd.underlying47 Tryd.sizeOf3 (Eq.trans s4_2 s4_1) (Eq.trans s5_2 s5_1) (by omega) (O.nil hN))) ?_
          refine D.take (i := 5) rfl rfl rfl rfl (by kernel_rfl) (Ext.trans e_1 e4) ⟨pure _, rfl⟩ (fun w_ hw_ N_ hN => (O.mv (O.nil hN))) ?_
          refine D.take (i := 6) rfl rfl rfl rfl (by kernel_rfl) (Ext.trans e_1 e4) ⟨pure _, rfl⟩ (fun w_ hw_ N_ hN => (O.mv (O.nil hN))) ?_
          refine D.take (i := 7) rfl rfl rfl rfl (by kernel_rfl) (Ext.trans e_1 e4) ⟨_, rfl⟩ (fun w_ hw_ N_ hN => (O.indexS Tryd.underlying9 (Eq.trans s0_2 s0_1) (Eq.trans s6_2 s6_1) (by simp; omega) (O.nil hN))) ?_
          refine D.cast (v' := .int .u8 (c.toNat : Int)) (by rw [hc]; simp [hk2]) ?_
          refine D.take (i := 8) rfl rfl rfl rfl (by kernel_rfl) (Ext.trans e_1 e4) ⟨_, rfl⟩ (fun w_ hw_ N_ hN => (O.convUI (m := 8) Tryd.underlying5 Tryd.underlying3 rfl (by decide) (O.nil hN))) ?_
          refine D.one (i := 3) rfl rfl (by kernel_rfl) ?_
          refine O.loadO Tryd.isAgg3 rfl (r0_1.keep e4) (Dt.arr_get hk1) ?_
          refine O.nil ⟨(Ext.trans e_1 e4), ?_⟩
          refine D.take (i := 4) rfl rfl rfl rfl (by kernel_rfl) (Ext.trans e_1 e4) ⟨_, rfl⟩ (fun w_ hw_ N_ hN => (O.mulI rfl rfl (by unfold InI; omega) (O.nil hN))) ?_
          refine D.take (i := 9) rfl rfl rfl rfl (by kernel_rfl) (Ext.trans e_1 e4) ⟨_, rfl⟩ (fun w_ hw_ N_ hN => (O.addI rfl rfl (by unfold InI; omega) (O.nil hN))) ?_
          refine D.take (i := 10) rfl rfl rfl rfl (by kernel_rfl) (Ext.trans e_1 e4) ⟨_, rfl⟩ (fun w_ hw_ N_ hN => (O.subI rfl rfl (by unfold InI; omega) (O.nil hN))) ?_
          refine D.one (i := 11) rfl rfl (by kernel_rfl) ?_
          refine O.minI rfl rfl ?_
          refine O.nil ⟨(Ext.trans e_1 e4), ?_⟩
          refine D.take (i := 12) rfl rfl rfl rfl (by kernel_rfl) (Ext.trans e_1 e4) ⟨_, rfl⟩ (fun w_ hw_ N_ hN => (O.idxA Tryd.underlying47 Tryd.sizeOf3 (Eq.trans s4_2 s4_1) (Eq.trans s5_2 s5_1) (by omega) (O.nil hN))) ?_
          refine D.one (i := 13) rfl rfl (by kernel_rfl) ?_
          refine O.store Tryd.sizeOf3 rfl rfl rfl (r0_1.keep e4) (by simp; omega) (fun w5 hs5 e5 z5 => ?_)
          try simp only [Nat.zero_add, Nat.mul_one] at hs5
          replace hs5 : Own w5 b4 47 ([Value.int .i64 a, .int .i64 b].set k.toNat (.int .i64 (Dt.cap (10 * (if k.toNat = 0 then a else b) + (c.toNat : Int) - 48)))) := hs5
          rw [Dt.arr_set hk1] at hs5
          refine O.nil ⟨(Ext.new (Ext.trans e_1 e4) e5 (by rintro i hi rfl; omega)), ?_⟩
          refine D.done (by kernel_rfl) ?_
          refine hK11 _ _ ?_
          refine hK10 _ _ ?_
          refine hK9 _ _ ?_
          refine C.region ?_
          refine O.mv ?_
          refine O.addI (Eq.trans s6_2 s6_1) rfl (by unfold InI; omega) ?_
          refine O.asg ?_
          refine O.nil ?_
          refine ⟨(i + 1, _, _, _), ⟨(Eq.trans s5_2 s5_1), rfl, (Eq.trans s0_2 s0_1), (Eq.trans s2_2 s2_1), (Eq.trans s4_2 s4_1), (Ext.new (Ext.trans e_1 e4) e5 (by rintro i hi rfl; omega)), hs5, ((r1_1.keep e4).keepM e5 (by omega)), ?_⟩, by first | omega | (simp only []; omega)⟩
          first
          | (refine ⟨by omega, hk1, ?_, hp.trans (Dt.from_dig (by rcases hk1 with rfl | rfl <;> decide) hk2 hc c15)⟩
             have h1 := Dt.cap_le (10 * (if k.toNat = 0 then a else b) + (c.toNat : Int) - 48)
             have h2 := Dt.cap_ge (n := 10 * (if k.toNat = 0 then a else b) + (c.toNat : Int) - 48) (by omega)
             unfold Dt.cap at h1 h2
             rcases hk1 with rfl | rfl
             · exact ⟨h2, h1, hab.2.2.1, hab.2.2.2⟩
             · exact ⟨hab.1, hab.2.1, h2, h1⟩)
          | (obtain ⟨c46, rfl⟩ := c39
             exact ⟨by omega, .inr rfl, hab, hp.trans (Dt.from_dot hk2 hc c15 c46)⟩)
        ·
          refine C.seqK fun K13 hK13 => ?_
          refine C.region ?_
          refine O.mv ?_
          refine O.mv ?_
          refine O.indexS Tryd.underlying9 (Eq.trans s0_2 s0_1) (Eq.trans s6_2 s6_1) (by simp; omega) ?_
          refine O.cast (v' := .int .u8 (c.toNat : Int)) (by rw [hc]; simp [hk2]) ?_
          refine O.eqlU (m := 8) (b := 46#8) rfl rfl ?_
          refine O.mv ?_
          refine O.cut 3 (fun f f' => f' 47 = .bool (decide (c = 46#8 ∧ k = 0)) ∧ f' 0 = f 0 ∧ f' 2 = f 2 ∧ f' 4 = f 4 ∧ f' 5 = f 5 ∧ f' 6 = f 6) ?_ ?_
          ·
            refine O.splitD (x := .tmp 44) rfl (fun c44 => ?_) (fun c44 => ?_)
            ·
              refine O.yes rfl (isT rfl c44) ?_
              refine O.mv ?_
              refine O.yes rfl (isT rfl c44) ?_
              refine O.eqlI (Eq.trans s5_2 s5_1) rfl ?_
              refine O.pickT (isT rfl c44) ?_
              refine O.nil ?_
              refine ⟨⟨?_, rfl, rfl, rfl, rfl, rfl⟩, rfl⟩
              first | exact rfl | exact Eq.trans rfl (congrArg Value.bool (dAnd (by assumption))) | exact Eq.trans rfl (congrArg Value.bool (dAndF (by assumption))) | exact Eq.trans rfl (congrArg Value.bool (dOr (by assumption))) | exact Eq.trans rfl (congrArg Value.bool (dOrT (by assumption)))
            ·
              refine O.no rfl (noB (isF rfl c44) rfl) ?_
              refine O.no rfl (noB (isF rfl c44) rfl) ?_
              refine O.pickF (isF rfl c44) ?_
              refine O.nil ?_
              refine ⟨⟨?_, rfl, rfl, rfl, rfl, rfl⟩, rfl⟩
              first | exact rfl | exact Eq.trans rfl (congrArg Value.bool (dAnd (by assumption))) | exact Eq.trans rfl (congrArg Value.bool (dAndF (by assumption))) | exact Eq.trans rfl (congrArg Value.bool (dOr (by assumption))) | exact Eq.trans rfl (congrArg Value.bool (dOrT (by assumption)))
          ·
            rintro f_3 ⟨s47_3, s0_3, s2_3, s4_3, s5_3, s6_3⟩
            refine O.asg ?_
            refine O.nil ?_
            refine hK13 _ _ ?_
            refine C.condD s47_3 (fun c39 => ?_) (fun c39 => ?_)
            ·
              refine C.region ?_
              refine O.asg ?_
              refine O.nil ?_
              refine hK11 _ _ ?_
              refine hK10 _ _ ?_
              refine hK9 _ _ ?_
              refine C.region ?_
              refine O.mv ?_
              refine O.addI (Eq.trans s6_3 (Eq.trans s6_2 s6_1)) rfl (by unfold InI; omega) ?_
              refine O.asg ?_
              refine O.nil ?_
              refine ⟨(i + 1, _, _, _), ⟨rfl, rfl, (Eq.trans s0_3 (Eq.trans s0_2 s0_1)), (Eq.trans s2_3 (Eq.trans s2_2 s2_1)), (Eq.trans s4_3 (Eq.trans s4_2 s4_1)), e_1, r0_1, r1_1, ?_⟩, by first | omega | (simp only []; omega)⟩
              first
              | (refine ⟨by omega, hk1, ?_, hp.trans (Dt.from_dig (by rcases hk1 with rfl | rfl <;> decide) hk2 hc c15)⟩
                 have h1 := Dt.cap_le (10 * (if k.toNat = 0 then a else b) + (c.toNat : Int) - 48)
                 have h2 := Dt.cap_ge (n := 10 * (if k.toNat = 0 then a else b) + (c.toNat : Int) - 48) (by omega)
                 unfold Dt.cap at h1 h2
                 rcases hk1 with rfl | rfl
                 · exact ⟨h2, h1, hab.2.2.1, hab.2.2.2⟩
                 · exact ⟨hab.1, hab.2.1, h2, h1⟩)
              | (obtain ⟨c46, rfl⟩ := c39
                 exact ⟨by omega, .inr rfl, hab, hp.trans (Dt.from_dot hk2 hc c15 c46)⟩)
            ·
              refine C.seqK fun K14 hK14 => ?_
              refine C.region ?_
              refine O.build (cells := #[.int .i64 0, .int .i64 0]) rfl (by kernel_rfl) ?_
              refine O.storeA (vs := [.int .i64 0, .int .i64 0]) Tryd.sizeOf23 rfl (Eq.trans s2_3 (Eq.trans s2_2 s2_1)) rfl (by simp [Value.oneCell']) r1_1 (Nat.le_of_ble_eq_true rfl) (fun w6 hs6 e6 z6 => ?_)
              refine O.asg ?_
              refine O.nil ?_
              refine hK14 _ _ ?_
              refine C.ret ?_
              refine Outs.cellA2 rfl Tryd.isAgg23 Tryd.sizeOf23 (Eq.trans s2_3 (Eq.trans s2_2 s2_1)) rfl hs6 rfl ?_
              first
              | exact ⟨(congrArg Dt.gotB (Dt.rparse_none (hp.trans (Dt.from_bad hk2 hc c15 (fun h => c39 ⟨h.1, by omega⟩))))).symm, (Ext.new e_1 e6 (by rintro i hi rfl; omega))⟩
              | exact ⟨(congrArg Dt.gotB ((Dt.rparse_some hend).trans (if_neg (fun h => hv h.1)))).symm, (Ext.new e_1 e6 (by rintro i hi rfl; omega))⟩
              | exact ⟨(congrArg Dt.gotB ((Dt.rparse_some hend).trans (if_neg (fun h => c61 h.2)))).symm, (Ext.new e_1 e6 (by rintro i hi rfl; omega))⟩
              | exact ⟨(congrArg Dt.gotB ((Dt.rparse_some hend).trans (if_pos ⟨hv, Decidable.of_not_not c61⟩))).symm, (Ext.new e_1 e6 (by rintro i hi rfl; omega))⟩
    ·
      have hend : Dt.rfrom 0 0 0 l = some (a, b) := Dt.from_end hp (by omega)
      refine C.exit ?_
      refine hK6 _ _ ?_
      refine hK4 _ _ ?_
      refine C.seqK fun K15 hK15 => ?_
      refine C.region ?_
      refine O.idxA (i := 0) Tryd.underlying47 Tryd.sizeOf3 s4_1 rfl (by omega) ?_
      refine O.loadO Tryd.isAgg3 rfl r0_1 rfl ?_
      refine O.idxA (i := 1) Tryd.underlying47 Tryd.sizeOf3 s4_1 rfl (by omega) ?_
      refine O.loadO Tryd.isAgg3 rfl r0_1 rfl ?_
      refine O.build (cells := #[.int .i64 a, .int .i64 b]) rfl (by kernel_rfl) ?_
      refine O.alloc Tryd.zeroValue23 (fun b7 w7 hb7 hz7 e7 => ?_)
      have z7 := e7.size
      have h7 := hz7.own
      have hl7 := h7.lt
      refine O.storeA (vs := [.int .i64 a, .int .i64 b]) Tryd.sizeOf23 rfl rfl rfl (by simp [Value.oneCell']) h7 (Nat.le_of_ble_eq_true rfl) (fun w8 hs8 e8 z8 => ?_)
      refine O.nil ?_
      refine hK15 _ _ ?_
      refine C.seqK fun K16 hK16 => ?_
      refine C.seqK fun K17 hK17 => ?_
      refine C.region ?_
      refine O.loadOA Tryd.isAgg23 Tryd.sizeOf23 rfl hs8 (Nat.le_of_ble_eq_true rfl) ?_
      refine O.call Tryd.call7 (args1 rfl) (rvalid_spec (a, b) _) ?_
      rintro v_54 w9 ⟨rfl, e9⟩
      have z9 := e9.size
      refine O.not rfl ?_
      refine O.mv ?_
      refine O.split (x := .tmp 56) rfl (fun c56 => ?_) (fun c56 => ?_)
      ·
        have hv : ¬ Dt.Valid (a, b) := by simpa using c56
        refine O.no rfl (noB (isT' rfl c56) rfl) ?_
        refine O.no rfl (noB (isT' rfl c56) rfl) ?_
        refine O.no rfl (noB (isT' rfl c56) rfl) ?_
        refine O.no rfl (noB (isT' rfl c56) rfl) ?_
        refine O.pickT (isT' rfl c56) ?_
        refine O.nil ?_
        refine hK17 _ _ ?_
        refine C.condT rfl ?_
        refine C.seqK fun K18 hK18 => ?_
        refine C.region ?_
        refine O.build (cells := #[.int .i64 0, .int .i64 0]) rfl (by kernel_rfl) ?_
        refine O.storeA (vs := [.int .i64 0, .int .i64 0]) Tryd.sizeOf23 rfl s2_1 rfl (by simp [Value.oneCell']) (((r1_1.keep e7).keepM e8 (by omega)).keep e9) (Nat.le_of_ble_eq_true rfl) (fun w10 hs10 e10 z10 => ?_)
        refine O.asg ?_
        refine O.nil ?_
        refine hK18 _ _ ?_
        refine C.ret ?_
        refine Outs.cellA2 rfl Tryd.isAgg23 Tryd.sizeOf23 s2_1 rfl hs10 rfl ?_
        first
        | exact ⟨(congrArg Dt.gotB (Dt.rparse_none (hp.trans (Dt.from_bad hk2 hc c15 (fun h => c39 ⟨h.1, by omega⟩))))).symm, (Ext.new (Ext.trans (Ext.new (Ext.trans e_1 e7) e8 (by rintro i hi rfl; omega)) e9) e10 (by rintro i hi rfl; omega))⟩
        | exact ⟨(congrArg Dt.gotB ((Dt.rparse_some hend).trans (if_neg (fun h => hv h.1)))).symm, (Ext.new (Ext.trans (Ext.new (Ext.trans e_1 e7) e8 (by rintro i hi rfl; omega)) e9) e10 (by rintro i hi rfl; omega))⟩
        | exact ⟨(congrArg Dt.gotB ((Dt.rparse_some hend).trans (if_neg (fun h => c61 h.2)))).symm, (Ext.new (Ext.trans (Ext.new (Ext.trans e_1 e7) e8 (by rintro i hi rfl; omega)) e9) e10 (by rintro i hi rfl; omega))⟩
        | exact ⟨(congrArg Dt.gotB ((Dt.rparse_some hend).trans (if_pos ⟨hv, Decidable.of_not_not c61⟩))).symm, (Ext.new (Ext.trans (Ext.new (Ext.trans e_1 e7) e8 (by rintro i hi rfl; omega)) e9) e10 (by rintro i hi rfl; omega))⟩
      ·
        have hv : Dt.Valid (a, b) := by simpa using c56
        refine O.yes rfl (isF' rfl c56) ?_
        refine O.loadOA Tryd.isAgg23 Tryd.sizeOf23 rfl (hs8.keep e9) (Nat.le_of_ble_eq_true rfl) ?_
        refine O.yes rfl (isF' rfl c56) ?_
        refine O.call Tryd.call12 (args1 rfl) (rtext_spec (a, b) _ hv) ?_
        rintro v_58 w11 ⟨rfl, e11⟩
        have z11 := e11.size
        refine O.yes rfl (isF' rfl c56) ?_
        refine O.mv ?_
        refine O.yes rfl (isF' rfl c56) ?_
        refine O.neqS rfl s0_1 ?_
        refine O.pickF (isF' rfl c56) ?_
        refine O.nil ?_
        refine hK17 _ _ ?_
        refine C.condD rfl (fun c61 => ?_) (fun c61 => ?_)
        ·
          refine C.seqK fun K19 hK19 => ?_
          refine C.region ?_
          refine O.build (cells := #[.int .i64 0, .int .i64 0]) rfl (by kernel_rfl) ?_
          refine O.storeA (vs := [.int .i64 0, .int .i64 0]) Tryd.sizeOf23 rfl s2_1 rfl (by simp [Value.oneCell']) ((((r1_1.keep e7).keepM e8 (by omega)).keep e9).keep e11) (Nat.le_of_ble_eq_true rfl) (fun w12 hs12 e12 z12 => ?_)
          refine O.asg ?_
          refine O.nil ?_
          refine hK19 _ _ ?_
          refine C.ret ?_
          refine Outs.cellA2 rfl Tryd.isAgg23 Tryd.sizeOf23 s2_1 rfl hs12 rfl ?_
          first
          | exact ⟨(congrArg Dt.gotB (Dt.rparse_none (hp.trans (Dt.from_bad hk2 hc c15 (fun h => c39 ⟨h.1, by omega⟩))))).symm, (Ext.new (Ext.trans (Ext.trans (Ext.new (Ext.trans e_1 e7) e8 (by rintro i hi rfl; omega)) e9) e11) e12 (by rintro i hi rfl; omega))⟩
          | exact ⟨(congrArg Dt.gotB ((Dt.rparse_some hend).trans (if_neg (fun h => hv h.1)))).symm, (Ext.new (Ext.trans (Ext.trans (Ext.new (Ext.trans e_1 e7) e8 (by rintro i hi rfl; omega)) e9) e11) e12 (by rintro i hi rfl; omega))⟩
          | exact ⟨(congrArg Dt.gotB ((Dt.rparse_some hend).trans (if_neg (fun h => c61 h.2)))).symm, (Ext.new (Ext.trans (Ext.trans (Ext.new (Ext.trans e_1 e7) e8 (by rintro i hi rfl; omega)) e9) e11) e12 (by rintro i hi rfl; omega))⟩
          | exact ⟨(congrArg Dt.gotB ((Dt.rparse_some hend).trans (if_pos ⟨hv, Decidable.of_not_not c61⟩))).symm, (Ext.new (Ext.trans (Ext.trans (Ext.new (Ext.trans e_1 e7) e8 (by rintro i hi rfl; omega)) e9) e11) e12 (by rintro i hi rfl; omega))⟩
        ·
          refine C.skip ?_
          refine hK16 _ _ ?_
          refine C.seqK fun K20 hK20 => ?_
          refine C.region ?_
          refine O.loadOA Tryd.isAgg23 Tryd.sizeOf23 rfl ((hs8.keep e9).keep e11) (Nat.le_of_ble_eq_true rfl) ?_
          refine O.storeA (vs := [.int .i64 a, .int .i64 b]) Tryd.sizeOf23 rfl s2_1 rfl (by simp [Value.oneCell']) ((((r1_1.keep e7).keepM e8 (by omega)).keep e9).keep e11) (Nat.le_of_ble_eq_true rfl) (fun w13 hs13 e13 z13 => ?_)
          refine O.asg ?_
          refine O.nil ?_
          refine hK20 _ _ ?_
          refine C.ret ?_
          refine Outs.cellA2 rfl Tryd.isAgg23 Tryd.sizeOf23 s2_1 rfl hs13 rfl ?_
          first
          | exact ⟨(congrArg Dt.gotB (Dt.rparse_none (hp.trans (Dt.from_bad hk2 hc c15 (fun h => c39 ⟨h.1, by omega⟩))))).symm, (Ext.new (Ext.trans (Ext.trans (Ext.new (Ext.trans e_1 e7) e8 (by rintro i hi rfl; omega)) e9) e11) e13 (by rintro i hi rfl; omega))⟩
          | exact ⟨(congrArg Dt.gotB ((Dt.rparse_some hend).trans (if_neg (fun h => hv h.1)))).symm, (Ext.new (Ext.trans (Ext.trans (Ext.new (Ext.trans e_1 e7) e8 (by rintro i hi rfl; omega)) e9) e11) e13 (by rintro i hi rfl; omega))⟩
          | exact ⟨(congrArg Dt.gotB ((Dt.rparse_some hend).trans (if_neg (fun h => c61 h.2)))).symm, (Ext.new (Ext.trans (Ext.trans (Ext.new (Ext.trans e_1 e7) e8 (by rintro i hi rfl; omega)) e9) e11) e13 (by rintro i hi rfl; omega))⟩
          | exact ⟨(congrArg Dt.gotB ((Dt.rparse_some hend).trans (if_pos ⟨hv, Decidable.of_not_not c61⟩))).symm, (Ext.new (Ext.trans (Ext.trans (Ext.new (Ext.trans e_1 e7) e8 (by rintro i hi rfl; omega)) e9) e11) e13 (by rintro i hi rfl; omega))⟩

end Go.Proofs.YtbmbaajfkmejgaaDoor
