/-
  The walks of a cart copied, of the laws' helpers, of what is known. Conditions: slices as they lie in memory.
-/
import Derived.Test.YtnkcmaoaagnopaaGreatDoorC11
import Derived.Test.YtnkcmaoaagnopaaGreatDoorCn3
namespace Go.Proofs.YtnkcmaoaagnopaaGreatDoor
open Go.Pn Go.RowKit Go.Proofs
attribute [local irreducible] O C D
theorem ones3c {a b c : Value} (h1 : a.oneCell' = true) (h2 : b.oneCell' = true) (h3 : c.oneCell' = true) : ∀ u ∈ [a, b, c], u.oneCell' = true := by
  intro u hu
  simp only [List.mem_cons, List.not_mem_nil, or_false] at hu
  rcases hu with rfl | rfl | rfl <;> assumption

set_option maxHeartbeats 4000000 in
theorem copy_spec (va1 va2 va3 : Value) (a : Cn.Cart) (F : Nat → Prop) (w : World) (hav : Sl Dt.dotF.enc w F va1 a.1.1) (hac : Sl Dt.dotF.enc w F va2 a.1.2) (hai : Sl itemE w F va3 a.2) (hF : ∀ k, F k → k < w.heap.size) (hn : a.2.length ≤ 1000000) (hS : ∀ x ∈ a.2, x.1.length ≤ 1000000 ∧ x.2.length ≤ 1000000) (hp : a.1.1.length ≤ 1000000) (hq : a.1.2.length ≤ 1000000) :
    Ret Tryz.prog 15 #[.agg #[va1, va2, va3]] w (fun v w' => ∃ v1 v2 v3 : Value, v = .agg #[v1, v2, v3] ∧ Sl Dt.dotF.enc w' (fun k => w.heap.size ≤ k ∧ k < w'.heap.size) v1 a.1.1 ∧ Sl Dt.dotF.enc w' (fun k => w.heap.size ≤ k ∧ k < w'.heap.size) v2 a.1.2 ∧ Sl itemE w' (fun k => w.heap.size ≤ k ∧ k < w'.heap.size) v3 a.2 ∧ Le w w') := by
  have hle := hai.le
  obtain ⟨wz0, hwz0⟩ : ∃ n, n = w.heap.size := ⟨_, rfl⟩
  obtain ⟨ie51, ti51, ts51, tb51, tz51⟩ := inf51
  obtain ⟨ie53, ti53, ts53, tb53, tz53⟩ := inf53
  obtain ⟨ie56, ti56, ts56, tb56, tz56⟩ := inf56
  refine enter (args := [.agg #[va1, va2, va3]]) (n := 39) Tryz.func15 rfl rfl (Nat.le_of_ble_eq_true rfl) ?_
  refine C.seqK fun K1 hK1 => ?_
  refine C.region ?_
  refine O.box (v := .agg #[va1, va2, va3]) rfl (fun b1 w1 hb1 hz1 e1 => ?_)
  have z1 := e1.size
  have h1 := hz1.own
  have hl1 := h1.lt
  refine O.alloc Tryz.zeroValue28 (fun b2 w2 hb2 hz2 e2 => ?_)
  have z2 := e2.size
  have h2 := hz2.own
  have hl2 := h2.lt
  refine O.nil ?_
  refine hK1 _ _ ?_
  refine C.seqK fun K2 hK2 => ?_
  refine C.join (fun f w f' w' => Le w w' ∧ f' 1 = f 1 ∧ f' 2 = f 2 ∧ ∃ (b3 : Nat) (v9 : Value) (v13 : Value), f' 3 = .pointer (some ⟨b3, 0, none⟩) ∧ Own w' b3 28 [v9, v13, .slice none 0 0] ∧ Sl Dt.dotF.enc w' (fun k => w.heap.size ≤ k ∧ k < w'.heap.size ∧ k ≠ b3) v9 a.1.1 ∧ Sl Dt.dotF.enc w' (fun k => w.heap.size ≤ k ∧ k < w'.heap.size ∧ k ≠ b3) v13 a.1.2 ∧ b2 < b3) ?_ ?_
  ·
    refine C.draw (by kernel_rfl) fun w3 e3 => ?_
    have z3 := e3.size
    refine D.take (i := 0) rfl rfl rfl rfl (by kernel_rfl) (Le.refl _) ⟨_, rfl⟩ (fun w_ hw_ N_ hN => (O.fieldAd Tryz.underlying28 rfl Tryz.sizeOf25 (by decide) rfl (O.nil hN))) ?_
    refine D.take (i := 1) rfl rfl rfl rfl (by kernel_rfl) (Le.refl _) ⟨_, rfl⟩ (fun w_ hw_ N_ hN => (O.fieldAd Tryz.underlying25 rfl Tryz.sizeOf23 (by decide) rfl (O.nil hN))) ?_
    refine D.take (i := 2) rfl rfl rfl rfl (by kernel_rfl) (Le.refl _) ⟨_, rfl⟩ (fun w_ hw_ N_ hN => (O.loadO Tryz.isAgg23 rfl (((h1.keep e2).keep e3).keep hw_) rfl (O.nil hN))) ?_
    refine D.take (i := 4) rfl rfl rfl rfl (by kernel_rfl) (Le.refl _) ⟨_, rfl⟩ (fun w_ hw_ N_ hN => (O.fieldAd Tryz.underlying28 rfl Tryz.sizeOf25 (by decide) rfl (O.nil hN))) ?_
    refine D.take (i := 5) rfl rfl rfl rfl (by kernel_rfl) (Le.refl _) ⟨_, rfl⟩ (fun w_ hw_ N_ hN => (O.fieldAd Tryz.underlying25 rfl Tryz.sizeOf22 (by decide) rfl (O.nil hN))) ?_
    refine D.take (i := 6) rfl rfl rfl rfl (by kernel_rfl) (Le.refl _) ⟨_, rfl⟩ (fun w_ hw_ N_ hN => (O.loadO Tryz.isAgg22 rfl (((h1.keep e2).keep e3).keep hw_) rfl (O.nil hN))) ?_
    refine D.many [3, 10] (by kernel_rfl) (by decide) ⟨?_, ?_, trivial⟩
    ·
      refine D.stepU rfl rfl ?_
      refine O.appF (G := Dt.dotF) Tryz.underlying23 ti51 tz51 ts51 rfl rfl rfl (OwnF.nil _ _ _ _) (((hav.keep e1).keep e2).keep e3) (by rw [tb51]; simp; omega) (by unfold maxLen; simp; omega) (Nat.le_refl _) (fun v9 w4 h9 e4 => ?_)
      replace e4 : Le w3 w4 := e4.mono (fun _ _ h => h)
      have z4 := e4.size
      have h9s := h9.sl
      refine O.nil ⟨e4, ?_⟩
      obtain ⟨s9, rfl⟩ := h9s.slv
      refine D.many [7, 10] (by kernel_rfl) (by decide) ⟨?_, ?_, trivial⟩
      ·
        refine D.stepU rfl rfl ?_
        refine O.appF (G := Dt.dotF) Tryz.underlying22 ti51 tz51 ts51 rfl rfl rfl (OwnF.nil _ _ _ _) ((((hac.keep e1).keep e2).keep e3).keep e4) (by rw [tb51]; simp; omega) (by unfold maxLen; simp; omega) (Nat.le_refl _) (fun v13 w5 h13 e5 => ?_)
        replace e5 : Le w4 w5 := e5.mono (fun _ _ h => h)
        have z5 := e5.size
        have h13s := h13.sl
        refine O.nil ⟨(Ext.trans e4 e5), ?_⟩
        obtain ⟨s13, rfl⟩ := h13s.slv
        refine D.many [8, 10] (by kernel_rfl) (by decide) ⟨?_, ?_, trivial⟩
        ·
          refine D.stepU rfl rfl ?_
          refine O.build (cells := #[slv s9, slv s13]) rfl (by kernel_rfl) ?_
          refine O.nil ⟨(Ext.trans e4 e5), ?_⟩
          refine D.many [9, 10] (by kernel_rfl) (by decide) ⟨?_, ?_, trivial⟩
          ·
            refine D.stepU rfl rfl ?_
            refine O.build (cells := #[slv s9, slv s13, .slice none 0 0]) rfl (by kernel_rfl) ?_
            refine O.nil ⟨(Ext.trans e4 e5), ?_⟩
            refine D.one (i := 10) rfl rfl (by kernel_rfl) ?_
            refine O.alloc Tryz.zeroValue28 (fun b3 w6 hb3 hz3 e6 => ?_)
            have z6 := e6.size
            have h3 := hz3.own
            have hl3 := h3.lt
            refine O.nil ⟨(Ext.trans (Ext.trans e4 e5) e6), ?_⟩
            refine D.one (i := 11) rfl rfl (by kernel_rfl) ?_
            refine O.storeA (vs := [slv s9, slv s13, .slice none 0 0]) Tryz.sizeOf28 rfl rfl rfl (ones3c rfl rfl rfl) h3 (Nat.le_of_ble_eq_true rfl) (fun w7 hs7 e7 z7 => ?_)
            refine O.nil ⟨(Ext.new (Ext.trans (Ext.trans e4 e5) e6) e7 (by rintro i hi rfl; omega)), ?_⟩
            refine D.done (by kernel_rfl) ?_
            exact ⟨(Ext.new (Ext.trans (Ext.trans (Ext.trans e3 e4) e5) e6) e7 (by rintro i hi rfl; omega)), rfl, rfl, ⟨_, _, _, rfl, hs7, ((((h9s.keep e5).keep e6).keepM e7 (fun k hk h => by have := h9.bk_ge k hk; (try dsimp only at h); omega)).weak (by intro k hk; have q1 := h9.bk_ge k hk; (try dsimp only); omega)), (((h13s.keep e6).keepM e7 (fun k hk h => by have := h13.bk_ge k hk; (try dsimp only at h); omega)).weak (by intro k hk; have q1 := h13.bk_ge k hk; (try dsimp only); omega)), (by omega)⟩⟩
          ·
            refine D.stepU rfl rfl ?_
            refine O.alloc Tryz.zeroValue28 (fun b3 w8 hb3 hz3 e8 => ?_)
            have z8 := e8.size
            have h3 := hz3.own
            have hl3 := h3.lt
            refine O.nil ⟨(Ext.trans (Ext.trans e4 e5) e8), ?_⟩
            refine D.one (i := 9) rfl rfl (by kernel_rfl) ?_
            refine O.build (cells := #[slv s9, slv s13, .slice none 0 0]) rfl (by kernel_rfl) ?_
            refine O.nil ⟨(Ext.trans (Ext.trans e4 e5) e8), ?_⟩
            refine D.one (i := 11) rfl rfl (by kernel_rfl) ?_
            refine O.storeA (vs := [slv s9, slv s13, .slice none 0 0]) Tryz.sizeOf28 rfl rfl rfl (ones3c rfl rfl rfl) h3 (Nat.le_of_ble_eq_true rfl) (fun w9 hs9 e9 z9 => ?_)
            refine O.nil ⟨(Ext.new (Ext.trans (Ext.trans e4 e5) e8) e9 (by rintro i hi rfl; omega)), ?_⟩
            refine D.done (by kernel_rfl) ?_
            exact ⟨(Ext.new (Ext.trans (Ext.trans (Ext.trans e3 e4) e5) e8) e9 (by rintro i hi rfl; omega)), rfl, rfl, ⟨_, _, _, rfl, hs9, ((((h9s.keep e5).keep e8).keepM e9 (fun k hk h => by have := h9.bk_ge k hk; (try dsimp only at h); omega)).weak (by intro k hk; have q1 := h9.bk_ge k hk; (try dsimp only); omega)), (((h13s.keep e8).keepM e9 (fun k hk h => by have := h13.bk_ge k hk; (try dsimp only at h); omega)).weak (by intro k hk; have q1 := h13.bk_ge k hk; (try dsimp only); omega)), (by omega)⟩⟩
        ·
          refine D.stepU rfl rfl ?_
          refine O.alloc Tryz.zeroValue28 (fun b3 w10 hb3 hz3 e10 => ?_)
          have z10 := e10.size
          have h3 := hz3.own
          have hl3 := h3.lt
          refine O.nil ⟨(Ext.trans (Ext.trans e4 e5) e10), ?_⟩
          refine D.one (i := 8) rfl rfl (by kernel_rfl) ?_
          refine O.build (cells := #[slv s9, slv s13]) rfl (by kernel_rfl) ?_
          refine O.nil ⟨(Ext.trans (Ext.trans e4 e5) e10), ?_⟩
          refine D.one (i := 9) rfl rfl (by kernel_rfl) ?_
          refine O.build (cells := #[slv s9, slv s13, .slice none 0 0]) rfl (by kernel_rfl) ?_
          refine O.nil ⟨(Ext.trans (Ext.trans e4 e5) e10), ?_⟩
          refine D.one (i := 11) rfl rfl (by kernel_rfl) ?_
          refine O.storeA (vs := [slv s9, slv s13, .slice none 0 0]) Tryz.sizeOf28 rfl rfl rfl (ones3c rfl rfl rfl) h3 (Nat.le_of_ble_eq_true rfl) (fun w11 hs11 e11 z11 => ?_)
          refine O.nil ⟨(Ext.new (Ext.trans (Ext.trans e4 e5) e10) e11 (by rintro i hi rfl; omega)), ?_⟩
          refine D.done (by kernel_rfl) ?_
          exact ⟨(Ext.new (Ext.trans (Ext.trans (Ext.trans e3 e4) e5) e10) e11 (by rintro i hi rfl; omega)), rfl, rfl, ⟨_, _, _, rfl, hs11, ((((h9s.keep e5).keep e10).keepM e11 (fun k hk h => by have := h9.bk_ge k hk; (try dsimp only at h); omega)).weak (by intro k hk; have q1 := h9.bk_ge k hk; (try dsimp only); omega)), (((h13s.keep e10).keepM e11 (fun k hk h => by have := h13.bk_ge k hk; (try dsimp only at h); omega)).weak (by intro k hk; have q1 := h13.bk_ge k hk; (try dsimp only); omega)), (by omega)⟩⟩
      ·
        refine D.stepU rfl rfl ?_
        refine O.alloc Tryz.zeroValue28 (fun b3 w12 hb3 hz3 e12 => ?_)
        have z12 := e12.size
        have h3 := hz3.own
        have hl3 := h3.lt
        refine O.nil ⟨(Ext.trans e4 e12), ?_⟩
        refine D.one (i := 7) rfl rfl (by kernel_rfl) ?_
        refine O.appF (G := Dt.dotF) Tryz.underlying22 ti51 tz51 ts51 rfl rfl rfl (OwnF.nil _ _ _ _) (((((hac.keep e1).keep e2).keep e3).keep e4).keep e12) (by rw [tb51]; simp; omega) (by unfold maxLen; simp; omega) (Nat.le_refl _) (fun v13 w13 h13 e13 => ?_)
        replace e13 : Le w12 w13 := e13.mono (fun _ _ h => h)
        have z13 := e13.size
        have h13s := h13.sl
        refine O.nil ⟨(Ext.trans (Ext.trans e4 e12) e13), ?_⟩
        obtain ⟨s13, rfl⟩ := h13s.slv
        refine D.one (i := 8) rfl rfl (by kernel_rfl) ?_
        refine O.build (cells := #[slv s9, slv s13]) rfl (by kernel_rfl) ?_
        refine O.nil ⟨(Ext.trans (Ext.trans e4 e12) e13), ?_⟩
        refine D.one (i := 9) rfl rfl (by kernel_rfl) ?_
        refine O.build (cells := #[slv s9, slv s13, .slice none 0 0]) rfl (by kernel_rfl) ?_
        refine O.nil ⟨(Ext.trans (Ext.trans e4 e12) e13), ?_⟩
        refine D.one (i := 11) rfl rfl (by kernel_rfl) ?_
        refine O.storeA (vs := [slv s9, slv s13, .slice none 0 0]) Tryz.sizeOf28 rfl rfl rfl (ones3c rfl rfl rfl) (h3.keep e13) (Nat.le_of_ble_eq_true rfl) (fun w14 hs14 e14 z14 => ?_)
        refine O.nil ⟨(Ext.new (Ext.trans (Ext.trans e4 e12) e13) e14 (by rintro i hi rfl; omega)), ?_⟩
        refine D.done (by kernel_rfl) ?_
        exact ⟨(Ext.new (Ext.trans (Ext.trans (Ext.trans e3 e4) e12) e13) e14 (by rintro i hi rfl; omega)), rfl, rfl, ⟨_, _, _, rfl, hs14, ((((h9s.keep e12).keep e13).keepM e14 (fun k hk h => by have := h9.bk_ge k hk; (try dsimp only at h); omega)).weak (by intro k hk; have q1 := h9.bk_ge k hk; (try dsimp only); omega)), ((h13s.keepM e14 (fun k hk h => by have := h13.bk_ge k hk; (try dsimp only at h); omega)).weak (by intro k hk; have q1 := h13.bk_ge k hk; (try dsimp only); omega)), (by omega)⟩⟩
    ·
      refine D.stepU rfl rfl ?_
      refine O.alloc Tryz.zeroValue28 (fun b3 w15 hb3 hz3 e15 => ?_)
      have z15 := e15.size
      have h3 := hz3.own
      have hl3 := h3.lt
      refine O.nil ⟨e15, ?_⟩
      refine D.one (i := 3) rfl rfl (by kernel_rfl) ?_
      refine O.appF (G := Dt.dotF) Tryz.underlying23 ti51 tz51 ts51 rfl rfl rfl (OwnF.nil _ _ _ _) ((((hav.keep e1).keep e2).keep e3).keep e15) (by rw [tb51]; simp; omega) (by unfold maxLen; simp; omega) (Nat.le_refl _) (fun v9 w16 h9 e16 => ?_)
      replace e16 : Le w15 w16 := e16.mono (fun _ _ h => h)
      have z16 := e16.size
      have h9s := h9.sl
      refine O.nil ⟨(Ext.trans e15 e16), ?_⟩
      obtain ⟨s9, rfl⟩ := h9s.slv
      refine D.one (i := 7) rfl rfl (by kernel_rfl) ?_
      refine O.appF (G := Dt.dotF) Tryz.underlying22 ti51 tz51 ts51 rfl rfl rfl (OwnF.nil _ _ _ _) (((((hac.keep e1).keep e2).keep e3).keep e15).keep e16) (by rw [tb51]; simp; omega) (by unfold maxLen; simp; omega) (Nat.le_refl _) (fun v13 w17 h13 e17 => ?_)
      replace e17 : Le w16 w17 := e17.mono (fun _ _ h => h)
      have z17 := e17.size
      have h13s := h13.sl
      refine O.nil ⟨(Ext.trans (Ext.trans e15 e16) e17), ?_⟩
      obtain ⟨s13, rfl⟩ := h13s.slv
      refine D.one (i := 8) rfl rfl (by kernel_rfl) ?_
      refine O.build (cells := #[slv s9, slv s13]) rfl (by kernel_rfl) ?_
      refine O.nil ⟨(Ext.trans (Ext.trans e15 e16) e17), ?_⟩
      refine D.one (i := 9) rfl rfl (by kernel_rfl) ?_
      refine O.build (cells := #[slv s9, slv s13, .slice none 0 0]) rfl (by kernel_rfl) ?_
      refine O.nil ⟨(Ext.trans (Ext.trans e15 e16) e17), ?_⟩
      refine D.one (i := 11) rfl rfl (by kernel_rfl) ?_
      refine O.storeA (vs := [slv s9, slv s13, .slice none 0 0]) Tryz.sizeOf28 rfl rfl rfl (ones3c rfl rfl rfl) ((h3.keep e16).keep e17) (Nat.le_of_ble_eq_true rfl) (fun w18 hs18 e18 z18 => ?_)
      refine O.nil ⟨(Ext.new (Ext.trans (Ext.trans e15 e16) e17) e18 (by rintro i hi rfl; omega)), ?_⟩
      refine D.done (by kernel_rfl) ?_
      exact ⟨(Ext.new (Ext.trans (Ext.trans (Ext.trans e3 e15) e16) e17) e18 (by rintro i hi rfl; omega)), rfl, rfl, ⟨_, _, _, rfl, hs18, (((h9s.keep e17).keepM e18 (fun k hk h => by have := h9.bk_ge k hk; (try dsimp only at h); omega)).weak (by intro k hk; have q1 := h9.bk_ge k hk; (try dsimp only); omega)), ((h13s.keepM e18 (fun k hk h => by have := h13.bk_ge k hk; (try dsimp only at h); omega)).weak (by intro k hk; have q1 := h13.bk_ge k hk; (try dsimp only); omega)), (by omega)⟩⟩
  ·
    rintro f_1 w19 ⟨e_1, s1_1, s2_1, ⟨b3, v9, v13, s3_1, q0_1, q1_1, q2_1, q3_1⟩⟩
    have z_1 := e_1.size
    have hb3 := q3_1
    have hl3 := q0_1.lt
    have hog0 : OG itemF 56 w19 (.slice none 0 0) b3 [] := OG.nil hl3
    have hit0 : Items w19 (fun k => b2 < k ∧ k < w19.heap.size ∧ k ≠ b3 ∧ k ≠ b3) [] (a.2.take 0) := Items.nil
    refine hK2 _ _ ?_
    refine C.seqK fun K3 hK3 => ?_
    refine C.seqK fun K4 hK4 => ?_
    refine C.region ?_
    refine O.asg ?_
    refine O.nil ?_
    refine hK4 _ _ ?_
    refine C.block fun K5 hK5 => ?_
    refine C.loop0 (σ := Nat × Value × Nat × List (List UInt8 × (Option Addr × Nat × Nat))) (fun f0 w0 ⟨k, o, gl, raw⟩ f w => f 4 = .int .i64 (k) ∧ f 1 = f0 1 ∧ f 2 = f0 2 ∧ f 3 = f0 3 ∧ Ext (fun k => k = b3) w0 w ∧ Own w b3 28 [v9, v13, o] ∧ OG itemF 56 w o gl raw ∧ Items w (fun k => b2 < k ∧ k < w.heap.size ∧ k ≠ gl ∧ k ≠ b3) raw (a.2.take k) ∧ k ≤ a.2.length ∧ (gl = b3 ∨ w0.heap.size ≤ gl) ∧ gl < w.heap.size ∧ ∀ k, bk o k → k ≠ b3) (fun ⟨k, o, gl, raw⟩ => a.2.length - k) (0, .slice none 0 0, b3, []) ?_ ?_
    ·
      refine ⟨rfl, rfl, rfl, rfl, Ext.refl _ _, q0_1, hog0, hit0, ?_⟩
      exact ⟨Nat.zero_le _, .inl rfl, by omega, fun _ h => h.elim⟩
    ·
      rintro ⟨k, o, gl, raw⟩ f_2 w20 ⟨s4_2, s1_2, s2_2, s3_2, e_2, r0_2, r1_2, r2_2, ⟨hk, hbg, hcg, hob⟩⟩
      have z_2 := e_2.size
      have hit := r2_2
      have hitl := hit.1
      refine C.seqK fun K6 hK6 => ?_
      refine C.seqK fun K7 hK7 => ?_
      refine C.region ?_
      refine O.mv ?_
      refine O.fieldAd Tryz.underlying28 rfl Tryz.sizeOf26 (by decide) (Eq.trans s1_2 s1_1) ?_
      refine O.loadO Tryz.isAgg26 rfl (((h1.keep e2).keep e_1).keepM e_2 (by intro h; (try dsimp only at h); omega)) rfl ?_
      refine O.len Tryz.underlying26 rfl (hai.keep (Ext.new (Ext.trans (Ext.trans e1 e2) e_1) e_2 (by rintro i hi rfl; omega))) ?_
      refine O.lssI s4_2 rfl ?_
      refine O.nil ?_
      refine hK7 _ _ ?_
      refine C.condD rfl (fun c20 => ?_) (fun c20 => ?_)
      ·
        have hk2 : k < a.2.length := by omega
        refine C.skip ?_
        refine hK6 _ _ ?_
        refine C.seqK fun K8 hK8 => ?_
        refine C.block fun K9 hK9 => ?_
        refine C.seqK fun K10 hK10 => ?_
        refine C.region ?_
        refine O.fieldAd Tryz.underlying28 rfl Tryz.sizeOf26 (by decide) (Eq.trans s1_2 s1_1) ?_
        refine O.loadO Tryz.isAgg26 rfl (((h1.keep e2).keep e_1).keepM e_2 (by intro h; (try dsimp only at h); omega)) rfl ?_
        refine O.mv ?_
        refine O.idx Tryz.underlying26 Tryz.sizeOf56 rfl rfl (hai.keep (Ext.new (Ext.trans (Ext.trans e1 e2) e_1) e_2 (by rintro i hi rfl; omega))) s4_2 (by omega) (fun a26 h26 => ?_)
        refine O.loadE (E := itemE) Tryz.isAgg56 Tryz.sizeOf56 rfl rfl h26 (fun cs27 hcs27 => ?_)
        obtain ⟨vm27, rfl, hm27⟩ := hcs27
        obtain ⟨u, hu⟩ : ∃ u : ItemT, u = a.2[k] := ⟨_, rfl⟩
        have hSu := hS u (by rw [hu]; exact List.getElem_mem _)
        refine O.cast (v' := .agg #[str u.1, vm27]) (by rw [hu]; rfl) ?_
        have hm27 : Sl markF.enc w20 F vm27 u.2 := by rw [hu]; exact hm27
        refine O.alloc Tryz.zeroValue56 (fun b5 w21 hb5 hz5 e21 => ?_)
        have z21 := e21.size
        have h5 := hz5.own
        have hl5 := h5.lt
        refine O.storeA (vs := [str u.1, vm27]) Tryz.sizeOf56 rfl rfl rfl (ones2 hm27.oneC) h5 (Nat.le_of_ble_eq_true rfl) (fun w22 hs22 e22 z22 => ?_)
        refine O.nil ?_
        refine hK10 _ _ ?_
        refine C.seqK fun K11 hK11 => ?_
        refine C.region ?_
        refine O.fieldAd Tryz.underlying56 rfl Tryz.sizeOf54 (by decide) rfl ?_
        refine O.loadO Tryz.isAgg54 rfl hs22 rfl ?_
        refine O.appF (G := markF) Tryz.underlying54 ti53 tz53 ts53 rfl rfl rfl (OwnF.nil _ _ _ _) ((hm27.keep e21).keepM e22 (by intro k hk h; first | (have q1 := hF k hk; (try dsimp only at h); omega) | (have q1 := hF2 k hk; (try dsimp only at h); omega) | (have q1 := hFb k hk; (try dsimp only at h); omega) | ((try dsimp only at hk); (try dsimp only at h); omega))) (by rw [tb53]; simp; omega) (by unfold maxLen; simp; omega) (Nat.le_refl _) (fun v30 w23 h30 e23 => ?_)
        replace e23 : Le w22 w23 := e23.mono (fun _ _ h => h)
        have z23 := e23.size
        have h30s := h30.sl
        obtain ⟨s30, rfl⟩ := h30s.slv
        refine O.fieldAd Tryz.underlying56 rfl Tryz.sizeOf54 (by decide) rfl ?_
        refine O.store Tryz.sizeOf54 rfl rfl h30.one (hs22.keep e23) (by simp) (fun w24 hs24 e24 z24 => ?_)
        try simp only [Nat.zero_add] at hs24
        refine O.nil ?_
        refine hK11 _ _ ?_
        refine C.region ?_
        refine O.fieldAd Tryz.underlying28 rfl Tryz.sizeOf26 (by decide) (Eq.trans s3_2 s3_1) ?_
        refine O.loadO Tryz.isAgg26 rfl ((((r0_2.keep e21).keepM e22 (by intro h; (try dsimp only at h); omega)).keep e23).keepM e24 (by intro h; (try dsimp only at h); omega)) rfl ?_
        refine O.loadOA Tryz.isAgg56 Tryz.sizeOf56 rfl hs24 (Nat.le_of_ble_eq_true rfl) ?_
        refine O.litG (G := itemF) [(u.1, s30)] Tryz.underlying26 ti56 ts56 tz56 rfl (by decide) (by decide) rfl (fun b35 w25 hb35 hz35 e25 => ?_)
        have z25 := e25.size
        have h35 := hz35.own
        have hq35 := Sl.litG (n := 1) h35 rfl (by unfold maxLen; omega)
        refine O.appG (G := itemF) Tryz.underlying26 ti56 tz56 ts56 rfl rfl rfl (((((r1_2.keep e21).keepM e22 (by intro k hk h; (try dsimp only at h); omega)).keep e23).keepM e24 (by intro k hk h; (try dsimp only at h); omega)).keep e25) hq35 (by rw [tb56, hit.1]; simp; omega) (by unfold maxLen; rw [hit.1]; simp; omega) (fun v36 gg36 w26 h36 hg36 e26 hw36 => ?_)
        have e26m := e26.mono (M' := fun k => k = _) (fun k _ hk => (((((r1_2.keep e21).keepM e22 (by intro k hk h; (try dsimp only at h); omega)).keep e23).keepM e24 (by intro k hk h; (try dsimp only at h); omega)).keep e25).2.1 k hk)
        have z26 := e26.size
        have hgl36 := h36.2.2
        have hob36 : ∀ k, bk v36 k → k ≠ b3 := by
          intro k hk
          rcases hw36 k hk with q | q
          · exact hob k q
          · omega
        have hg36b : gg36 ≠ b3 := hob36 _ (h36.bk (by simp))
        have hit36 : Items w26 (fun k => b2 < k ∧ k < w26.heap.size ∧ k ≠ gg36 ∧ k ≠ b3) (raw ++ [(u.1, s30)]) (a.2.take (k + 1)) := by
          rw [List.take_succ_eq_append_getElem hk2, ← hu]
          exact ((((((((r2_2.keep e21).keepM e22 (by intro k hk h; first | (have q1 := hF k hk; (try dsimp only at h); omega) | (have q1 := hF2 k hk; (try dsimp only at h); omega) | (have q1 := hFb k hk; (try dsimp only at h); omega) | ((try dsimp only at hk); (try dsimp only at h); omega))).keep e23).keepM e24 (by intro k hk h; first | (have q1 := hF k hk; (try dsimp only at h); omega) | (have q1 := hF2 k hk; (try dsimp only at h); omega) | (have q1 := hFb k hk; (try dsimp only at h); omega) | ((try dsimp only at hk); (try dsimp only at h); omega))).keep e25).keepM e26 (by intro k hk h; replace h := (((((r1_2.keep e21).keepM e22 (by intro k hk h; (try dsimp only at h); omega)).keep e23).keepM e24 (by intro k hk h; (try dsimp only at h); omega)).keep e25).2.1 _ h; first | (have q1 := hF k hk; (try dsimp only at h); omega) | (have q1 := hF2 k hk; (try dsimp only at h); omega) | (have q1 := hFb k hk; (try dsimp only at h); omega) | ((try dsimp only at hk); (try dsimp only at h); omega)))).weak (by intro k hk; (try dsimp only at hk); (try dsimp only); omega)).snoc rfl (((((h30s.keepM e24 (fun k hk h => by have := h30.bk_ge k hk; (try dsimp only at h); omega)).keep e25).keepM e26 (fun k hk h => by replace h := (((((r1_2.keep e21).keepM e22 (by intro k hk h; (try dsimp only at h); omega)).keep e23).keepM e24 (by intro k hk h; (try dsimp only at h); omega)).keep e25).2.1 _ h; have := h30.bk_ge k hk; (try dsimp only at h); omega))).weak (by intro k hk; have q1 := h30.bk_ge k hk; (try dsimp only); omega))
        refine O.fieldAd Tryz.underlying28 rfl Tryz.sizeOf26 (by decide) (Eq.trans s3_2 s3_1) ?_
        refine O.store Tryz.sizeOf26 rfl rfl h36.1.one ((((((r0_2.keep e21).keepM e22 (by intro h; (try dsimp only at h); omega)).keep e23).keepM e24 (by intro h; (try dsimp only at h); omega)).keep e25).keepM e26 (fun h => hob _ h rfl)) (by simp) (fun w27 hs27 e27 z27 => ?_)
        try simp only [Nat.zero_add] at hs27
        refine O.nil ?_
        refine hK9 _ _ ?_
        refine hK8 _ _ ?_
        refine C.region ?_
        refine O.mv ?_
        refine O.addI s4_2 rfl (by unfold InI; omega) ?_
        refine O.asg ?_
        refine O.nil ?_
        refine ⟨(k + 1, _, _, _), ⟨rfl, s1_2, s2_2, s3_2, (Ext.new (Ext.new (Ext.new (Ext.new (Ext.new (Ext.new (Ext.new (Ext.new (Ext.refl _ _) e_2 (by intro i hi hk; first | exact hk.elim | ((try dsimp only at hk); (try dsimp only); omega))) e21 (by intro i hi hk; first | exact hk.elim | ((try dsimp only at hk); (try dsimp only); omega))) e22 (by intro i hi hk; first | exact hk.elim | ((try dsimp only at hk); (try dsimp only); omega))) e23 (by intro i hi hk; first | exact hk.elim | ((try dsimp only at hk); (try dsimp only); omega))) e24 (by intro i hi hk; first | exact hk.elim | ((try dsimp only at hk); (try dsimp only); omega))) e25 (by intro i hi hk; first | exact hk.elim | ((try dsimp only at hk); (try dsimp only); omega))) e26m (by intro i hi hk; first | exact hk.elim | ((try dsimp only at hk); (try dsimp only); omega))) e27 (by intro i hi hk; first | exact hk.elim | ((try dsimp only at hk); (try dsimp only); omega))), hs27, (h36.keepM e27 (by intro k hk h; (try dsimp only at h); omega)), (((hit36.keepM e27 (by intro k hk h; first | (have q1 := hF k hk; (try dsimp only at h); omega) | (have q1 := hF2 k hk; (try dsimp only at h); omega) | (have q1 := hFb k hk; (try dsimp only at h); omega) | ((try dsimp only at hk); (try dsimp only at h); omega)))).weak (by intro k hk; (try dsimp only at hk); (try dsimp only); omega)), ?_⟩, by first | omega | (simp only []; omega)⟩
        exact ⟨by omega, by omega, by omega, hob36⟩
      ·
        refine C.exit ?_
        refine hK5 _ _ ?_
        refine hK3 _ _ ?_
        refine C.seqK fun K12 hK12 => ?_
        refine C.region ?_
        refine O.loadOA Tryz.isAgg28 Tryz.sizeOf28 (Eq.trans s3_2 s3_1) r0_2 (Nat.le_of_ble_eq_true rfl) ?_
        refine O.storeA (vs := [v9, v13, o]) Tryz.sizeOf28 rfl (Eq.trans s2_2 s2_1) rfl (ones3c ((q1_1.keepM e_2 (by intro k hk h; first | (have q1 := hF k hk; (try dsimp only at h); omega) | ((try dsimp only at hk); (try dsimp only at h); omega)))).oneC ((q2_1.keepM e_2 (by intro k hk h; first | (have q1 := hF k hk; (try dsimp only at h); omega) | ((try dsimp only at hk); (try dsimp only at h); omega)))).oneC (r1_2).1.one) ((h2.keep e_1).keepM e_2 (by intro h; (try dsimp only at h); omega)) (Nat.le_of_ble_eq_true rfl) (fun w28 hs28 e28 z28 => ?_)
        refine O.nil ?_
        refine hK12 _ _ ?_
        refine C.ret ?_
        refine Outs.cellA rfl Tryz.isAgg28 Tryz.sizeOf28 (Eq.trans s2_2 s2_1) hs28 rfl ?_
        have hk9 : k = a.2.length := by omega
        have hit9 : Items w28 (fun k => w.heap.size ≤ k ∧ k < w28.heap.size) raw a.2 := by
          have q := (r2_2.keepM e28 (by intro k hk h; first | (have q1 := hF k hk; (try dsimp only at h); omega) | (have q1 := hF2 k hk; (try dsimp only at h); omega) | (have q1 := hFb k hk; (try dsimp only at h); omega) | ((try dsimp only at hk); (try dsimp only at h); omega)))
          rw [hk9, List.take_length] at q
          exact q.weak (by intro k hk; (try dsimp only at hk); (try dsimp only); omega)
        have hsl9 : Sl itemF.enc w28 (fun k => w.heap.size ≤ k ∧ k < w28.heap.size) o raw := ((r1_2.keepM e28 (by intro k hk h; (try dsimp only at h); omega))).sl.weak (by intro k hk; (try dsimp only at hk); (try dsimp only); omega)
        exact ⟨v9, v13, o, rfl, (((q1_1.keepM e_2 (by intro k hk h; first | (have q1 := hF k hk; (try dsimp only at h); omega) | ((try dsimp only at hk); (try dsimp only at h); omega))).keepM e28 (by intro k hk h; first | (have q1 := hF k hk; (try dsimp only at h); omega) | (have q1 := hF2 k hk; (try dsimp only at h); omega) | (have q1 := hFb k hk; (try dsimp only at h); omega) | ((try dsimp only at hk); (try dsimp only at h); omega)))).weak (by intro k hk; (try dsimp only at hk); (try dsimp only); omega), (((q2_1.keepM e_2 (by intro k hk h; first | (have q1 := hF k hk; (try dsimp only at h); omega) | ((try dsimp only at hk); (try dsimp only at h); omega))).keepM e28 (by intro k hk h; first | (have q1 := hF k hk; (try dsimp only at h); omega) | (have q1 := hF2 k hk; (try dsimp only at h); omega) | (have q1 := hFb k hk; (try dsimp only at h); omega) | ((try dsimp only at hk); (try dsimp only at h); omega)))).weak (by intro k hk; (try dsimp only at hk); (try dsimp only); omega), hit9.sl hsl9, (Ext.new (Ext.new (Ext.trans (Ext.trans e1 e2) e_1) e_2 (by rintro i hi rfl; omega)) e28 (by rintro i hi rfl; omega))⟩


/-- What a comparison returns, as a pair. -/
theorem ccmp2_spec (va1 va2 va3 : Value) (a : Cn.Cart) (F : Nat → Prop) (vb1 vb2 vb3 : Value) (b : Cn.Cart) (Fb : Nat → Prop) (w : World) (hav : Sl Dt.dotF.enc w F va1 a.1.1) (hac : Sl Dt.dotF.enc w F va2 a.1.2) (hai : Sl itemE w F va3 a.2) (hF : ∀ k, F k → k < w.heap.size) (hn : a.2.length ≤ 1000000) (hS : ∀ x ∈ a.2, x.1.length ≤ 1000000 ∧ x.2.length ≤ 1000000) (hp : a.1.1.length ≤ 1000000) (hq : a.1.2.length ≤ 1000000) (mx : Mx w) (hbv : Sl Dt.dotF.enc w Fb vb1 b.1.1) (hbc : Sl Dt.dotF.enc w Fb vb2 b.1.2) (hbi : Sl itemE w Fb vb3 b.2) (hFb : ∀ k, Fb k → k < w.heap.size) (hnb : b.2.length ≤ 1000000) (hSb : ∀ x ∈ b.2, x.1.length ≤ 1000000 ∧ x.2.length ≤ 1000000) (hpb : b.1.1.length ≤ 1000000) (hqb : b.1.2.length ≤ 1000000) :
    Ret Tryz.prog 28 #[.agg #[va1, va2, va3], .agg #[vb1, vb2, vb3]] w (fun v w' => v = .tuple #[.int .i64 (if (Cn.valid a && Cn.valid b) = true then Cn.cmpB (Cn.bytes a) (Cn.bytes b) else 0), .int .i64 (if (Cn.valid a && Cn.valid b) = true then 0 else 2)] ∧ Le w w') := by
  refine (ccmp_spec va1 va2 va3 a F vb1 vb2 vb3 b Fb w hav hac hai hF hn hS hp hq mx hbv hbc hbi hFb hnb hSb hpb hqb).mono ?_
  rintro v w' ⟨rfl, e⟩
  refine ⟨?_, e⟩
  by_cases h : (Cn.valid a && Cn.valid b) = true
  · rw [if_pos h, if_pos h, if_pos h]
  · rw [if_neg h, if_neg h, if_neg h]

theorem encodes_spec (va1 va2 va3 : Value) (a : Cn.Cart) (F : Nat → Prop) (v1 : Value) (ws : List UInt8) (F2 : Nat → Prop) (e : Int) (w : World) (hav : Sl Dt.dotF.enc w F va1 a.1.1) (hac : Sl Dt.dotF.enc w F va2 a.1.2) (hai : Sl itemE w F va3 a.2) (hF : ∀ k, F k → k < w.heap.size) (hn : a.2.length ≤ 1000000) (hS : ∀ x ∈ a.2, x.1.length ≤ 1000000 ∧ x.2.length ≤ 1000000) (hp : a.1.1.length ≤ 1000000) (hq : a.1.2.length ≤ 1000000) (mx : Mx w) (hb : Sl byteE w F2 v1 ws) :
    Ret Tryz.prog 20 #[.agg #[va1, va2, va3], v1, .int .i64 (e)] w (fun v w' => v = .bool (decide ((if Cn.valid a = true then Cn.bytes a else []) = ws) && decide ((if Cn.valid a = true then (0 : Int) else 2) = e)) ∧ Le w w') := by
  refine enter (args := [.agg #[va1, va2, va3], v1, .int .i64 (e)]) (n := 24) Tryz.func20 rfl rfl (Nat.le_of_ble_eq_true rfl) ?_
  refine C.seqK fun K1 hK1 => ?_
  refine C.region ?_
  refine O.box (v := .agg #[va1, va2, va3]) rfl (fun b3 w1 hb3 hz3 e1 => ?_)
  have z1 := e1.size
  have h3 := hz3.own
  have hl3 := h3.lt
  refine O.asg ?_
  refine O.nil ?_
  refine hK1 _ _ ?_
  refine C.seqK fun K2 hK2 => ?_
  refine C.region ?_
  refine O.loadOA Tryz.isAgg28 Tryz.sizeOf28 rfl h3 (Nat.le_of_ble_eq_true rfl) ?_
  refine O.call Tryz.call27 (args1 rfl) (encode_spec va1 va2 va3 a F _ (hav.keep e1) (hac.keep e1) (hai.keep e1) (fun k hk => by have q1 := hF k hk; omega) hn hS hp hq (mx.keep e1)) ?_
  rintro v_11 w2 ⟨rv11, rfl, hv11, e2⟩
  have z2 := e2.size
  have h11s := hv11.sl
  refine O.mv ?_
  refine O.extract rfl rfl ?_
  refine O.extract rfl rfl ?_
  refine O.asg ?_
  refine O.asg ?_
  refine O.nil ?_
  refine hK2 _ _ ?_
  refine C.seqK fun K3 hK3 => ?_
  refine C.region ?_
  refine O.mv ?_
  refine O.bytesS Tryz.underlying32 Tryz.underlying5 Tryz.underlying9 rfl h11s ?_
  refine O.mv ?_
  refine O.bytesS Tryz.underlying32 Tryz.underlying5 Tryz.underlying9 rfl ((hb.keep e1).keep e2) ?_
  refine O.eqlS rfl rfl ?_
  refine O.mv ?_
  refine O.cut 4 (fun f f' => f' 23 = .bool (decide ((if Cn.valid a = true then Cn.bytes a else []) = ws ∧ (if Cn.valid a = true then (0 : Int) else 2) = e))) ?_ ?_
  ·
    refine O.splitD (x := .tmp 19) rfl (fun c19 => ?_) (fun c19 => ?_)
    ·
      refine O.yes rfl (isT rfl c19) ?_
      refine O.mv ?_
      refine O.yes rfl (isT rfl c19) ?_
      refine O.mv ?_
      refine O.yes rfl (isT rfl c19) ?_
      refine O.eqlI rfl rfl ?_
      refine O.pickT (isT rfl c19) ?_
      refine O.nil ?_
      refine ⟨?_, rfl⟩
      first | exact rfl | exact Eq.trans rfl (congrArg Value.bool (dAnd (by assumption))) | exact Eq.trans rfl (congrArg Value.bool (dAndF (by assumption))) | exact Eq.trans rfl (congrArg Value.bool (dOr (by assumption))) | exact Eq.trans rfl (congrArg Value.bool (dOrT (by assumption)))
    ·
      refine O.no rfl (noB (isF rfl c19) rfl) ?_
      refine O.no rfl (noB (isF rfl c19) rfl) ?_
      refine O.no rfl (noB (isF rfl c19) rfl) ?_
      refine O.pickF (isF rfl c19) ?_
      refine O.nil ?_
      refine ⟨?_, rfl⟩
      first | exact rfl | exact Eq.trans rfl (congrArg Value.bool (dAnd (by assumption))) | exact Eq.trans rfl (congrArg Value.bool (dAndF (by assumption))) | exact Eq.trans rfl (congrArg Value.bool (dOr (by assumption))) | exact Eq.trans rfl (congrArg Value.bool (dOrT (by assumption)))
  ·
    intro f_1 s23_1
    refine O.asg ?_
    refine O.nil ?_
    refine hK3 _ _ ?_
    refine C.ret ?_
    refine Outs.one rfl s23_1 ?_
    exact ⟨congrArg Value.bool (Bool.decide_and _ _), (Ext.trans e1 e2)⟩

theorem compares_spec (va1 va2 va3 : Value) (a : Cn.Cart) (F : Nat → Prop) (vb1 vb2 vb3 : Value) (b : Cn.Cart) (Fb : Nat → Prop) (n e : Int) (w : World) (hav : Sl Dt.dotF.enc w F va1 a.1.1) (hac : Sl Dt.dotF.enc w F va2 a.1.2) (hai : Sl itemE w F va3 a.2) (hF : ∀ k, F k → k < w.heap.size) (hn : a.2.length ≤ 1000000) (hS : ∀ x ∈ a.2, x.1.length ≤ 1000000 ∧ x.2.length ≤ 1000000) (hp : a.1.1.length ≤ 1000000) (hq : a.1.2.length ≤ 1000000) (mx : Mx w) (hbv : Sl Dt.dotF.enc w Fb vb1 b.1.1) (hbc : Sl Dt.dotF.enc w Fb vb2 b.1.2) (hbi : Sl itemE w Fb vb3 b.2) (hFb : ∀ k, Fb k → k < w.heap.size) (hnb : b.2.length ≤ 1000000) (hSb : ∀ x ∈ b.2, x.1.length ≤ 1000000 ∧ x.2.length ≤ 1000000) (hpb : b.1.1.length ≤ 1000000) (hqb : b.1.2.length ≤ 1000000) :
    Ret Tryz.prog 25 #[.agg #[va1, va2, va3], .agg #[vb1, vb2, vb3], .int .i64 (n), .int .i64 (e)] w (fun v w' => v = .bool (decide ((if (Cn.valid a && Cn.valid b) = true then Cn.cmpB (Cn.bytes a) (Cn.bytes b) else 0) = n) && decide ((if (Cn.valid a && Cn.valid b) = true then (0 : Int) else 2) = e)) ∧ Le w w') := by
  refine enter (args := [.agg #[va1, va2, va3], .agg #[vb1, vb2, vb3], .int .i64 (n), .int .i64 (e)]) (n := 25) Tryz.func25 rfl rfl (Nat.le_of_ble_eq_true rfl) ?_
  refine C.seqK fun K1 hK1 => ?_
  refine C.region ?_
  refine O.box (v := .agg #[va1, va2, va3]) rfl (fun b4 w1 hb4 hz4 e1 => ?_)
  have z1 := e1.size
  have h4 := hz4.own
  have hl4 := h4.lt
  refine O.box (v := .agg #[vb1, vb2, vb3]) rfl (fun b5 w2 hb5 hz5 e2 => ?_)
  have z2 := e2.size
  have h5 := hz5.own
  have hl5 := h5.lt
  refine O.asg ?_
  refine O.nil ?_
  refine hK1 _ _ ?_
  refine C.seqK fun K2 hK2 => ?_
  refine C.region ?_
  refine O.loadOA Tryz.isAgg28 Tryz.sizeOf28 rfl (h4.keep e2) (Nat.le_of_ble_eq_true rfl) ?_
  refine O.loadOA Tryz.isAgg28 Tryz.sizeOf28 rfl h5 (Nat.le_of_ble_eq_true rfl) ?_
  refine O.call Tryz.call28 (args2 rfl rfl) (ccmp2_spec va1 va2 va3 a F vb1 vb2 vb3 b Fb _ ((hav.keep e1).keep e2) ((hac.keep e1).keep e2) ((hai.keep e1).keep e2) (fun k hk => by have q1 := hF k hk; omega) hn hS hp hq ((mx.keep e1).keep e2) ((hbv.keep e1).keep e2) ((hbc.keep e1).keep e2) ((hbi.keep e1).keep e2) (fun k hk => by have q1 := hFb k hk; omega) hnb hSb hpb hqb) ?_
  rintro v_14 w3 ⟨rfl, e3⟩
  have z3 := e3.size
  refine O.mv ?_
  refine O.extract rfl rfl ?_
  refine O.extract rfl rfl ?_
  refine O.asg ?_
  refine O.asg ?_
  refine O.nil ?_
  refine hK2 _ _ ?_
  refine C.seqK fun K3 hK3 => ?_
  refine C.region ?_
  refine O.mv ?_
  refine O.mv ?_
  refine O.eqlI rfl rfl ?_
  refine O.mv ?_
  refine O.cut 4 (fun f f' => f' 24 = .bool (decide ((if (Cn.valid a && Cn.valid b) = true then Cn.cmpB (Cn.bytes a) (Cn.bytes b) else 0) = n ∧ (if (Cn.valid a && Cn.valid b) = true then (0 : Int) else 2) = e))) ?_ ?_
  ·
    refine O.splitD (x := .tmp 20) rfl (fun c20 => ?_) (fun c20 => ?_)
    ·
      refine O.yes rfl (isT rfl c20) ?_
      refine O.mv ?_
      refine O.yes rfl (isT rfl c20) ?_
      refine O.mv ?_
      refine O.yes rfl (isT rfl c20) ?_
      refine O.eqlI rfl rfl ?_
      refine O.pickT (isT rfl c20) ?_
      refine O.nil ?_
      refine ⟨?_, rfl⟩
      first | exact rfl | exact Eq.trans rfl (congrArg Value.bool (dAnd (by assumption))) | exact Eq.trans rfl (congrArg Value.bool (dAndF (by assumption))) | exact Eq.trans rfl (congrArg Value.bool (dOr (by assumption))) | exact Eq.trans rfl (congrArg Value.bool (dOrT (by assumption)))
    ·
      refine O.no rfl (noB (isF rfl c20) rfl) ?_
      refine O.no rfl (noB (isF rfl c20) rfl) ?_
      refine O.no rfl (noB (isF rfl c20) rfl) ?_
      refine O.pickF (isF rfl c20) ?_
      refine O.nil ?_
      refine ⟨?_, rfl⟩
      first | exact rfl | exact Eq.trans rfl (congrArg Value.bool (dAnd (by assumption))) | exact Eq.trans rfl (congrArg Value.bool (dAndF (by assumption))) | exact Eq.trans rfl (congrArg Value.bool (dOr (by assumption))) | exact Eq.trans rfl (congrArg Value.bool (dOrT (by assumption)))
  ·
    intro f_1 s24_1
    refine O.asg ?_
    refine O.nil ?_
    refine hK3 _ _ ?_
    refine C.ret ?_
    refine Outs.one rfl s24_1 ?_
    exact ⟨congrArg Value.bool (Bool.decide_and _ _), (Ext.trans (Ext.trans e1 e2) e3)⟩

theorem example_spec (w : World) :
    Ret Tryz.prog 37 #[] w (fun v w' => ∃ v1 v2 v3 : Value, v = .agg #[v1, v2, v3] ∧ Sl Dt.dotF.enc w' (fun k => w.heap.size ≤ k ∧ k < w'.heap.size) v1 Cn.exam.1.1 ∧ Sl Dt.dotF.enc w' (fun k => w.heap.size ≤ k ∧ k < w'.heap.size) v2 Cn.exam.1.2 ∧ Sl itemE w' (fun k => w.heap.size ≤ k ∧ k < w'.heap.size) v3 Cn.exam.2 ∧ Le w w') := by
  obtain ⟨ie51, ti51, ts51, tb51, tz51⟩ := inf51
  obtain ⟨ie53, ti53, ts53, tb53, tz53⟩ := inf53
  obtain ⟨ie56, ti56, ts56, tb56, tz56⟩ := inf56
  refine enter (args := []) (n := 12) Tryz.func37 rfl rfl (Nat.le_of_ble_eq_true rfl) ?_
  refine C.seqK fun K1 hK1 => ?_
  refine C.region ?_
  refine O.alloc Tryz.zeroValue28 (fun b0 w1 hb0 hz0 e1 => ?_)
  have z1 := e1.size
  have h0 := hz0.own
  have hl0 := h0.lt
  refine O.nil ?_
  refine hK1 _ _ ?_
  refine C.seqK fun K2 hK2 => ?_
  refine C.region ?_
  refine O.build (cells := #[.int .i64 2, .int .i64 3]) rfl (by kernel_rfl) ?_
  refine O.litG (G := Dt.dotF) [(2, 3)] Tryz.underlying23 ti51 ts51 tz51 rfl (by decide) (by decide) rfl (fun b2 w2 hb2 hz2 e2 => ?_)
  have z2 := e2.size
  have h2 := hz2.own
  have hq2 := Sl.litG (n := 1) h2 rfl (by unfold maxLen; omega)
  refine O.build (cells := #[.int .i64 5, .int .i64 9]) rfl (by kernel_rfl) ?_
  refine O.litG (G := Dt.dotF) [(5, 9)] Tryz.underlying22 ti51 ts51 tz51 rfl (by decide) (by decide) rfl (fun b4 w3 hb4 hz4 e3 => ?_)
  have z3 := e3.size
  have h4 := hz4.own
  have hq4 := Sl.litG (n := 1) h4 rfl (by unfold maxLen; omega)
  refine O.build (cells := #[.slice (some ⟨b2, 0, none⟩) 1 1, .slice (some ⟨b4, 0, none⟩) 1 1]) rfl (by kernel_rfl) ?_
  refine O.build (cells := #[.int .i64 2, .int .i64 3]) rfl (by kernel_rfl) ?_
  refine O.build (cells := #[.int .i64 2, .int .i64 3, .int .i64 200, .int .u64 1]) rfl (by kernel_rfl) ?_
  refine O.litG (G := markF) [((2, 3), 200, 1#64)] Tryz.underlying54 ti53 ts53 tz53 rfl (by decide) (by decide) rfl (fun b8 w4 hb8 hz8 e4 => ?_)
  have z4 := e4.size
  have h8 := hz8.own
  have hq8 := Sl.litG (n := 1) h8 rfl (by unfold maxLen; omega)
  refine O.build (cells := #[str [116, 101, 97], .slice (some ⟨b8, 0, none⟩) 1 1]) rfl (by kernel_rfl) ?_
  refine O.litG (G := itemF) [([116, 101, 97], (some ⟨b8, 0, none⟩, 1, 1))] Tryz.underlying26 ti56 ts56 tz56 rfl (by decide) (by decide) rfl (fun b10 w5 hb10 hz10 e5 => ?_)
  have z5 := e5.size
  have h10 := hz10.own
  have hq10 := Sl.litG (n := 1) h10 rfl (by unfold maxLen; omega)
  refine O.build (cells := #[.slice (some ⟨b2, 0, none⟩) 1 1, .slice (some ⟨b4, 0, none⟩) 1 1, .slice (some ⟨b10, 0, none⟩) 1 1]) rfl (by kernel_rfl) ?_
  refine O.storeA (vs := [.slice (some ⟨b2, 0, none⟩) 1 1, .slice (some ⟨b4, 0, none⟩) 1 1, .slice (some ⟨b10, 0, none⟩) 1 1]) Tryz.sizeOf28 rfl rfl rfl (ones3c rfl rfl rfl) ((((h0.keep e2).keep e3).keep e4).keep e5) (Nat.le_of_ble_eq_true rfl) (fun w6 hs6 e6 z6 => ?_)
  refine O.nil ?_
  refine hK2 _ _ ?_
  refine C.ret ?_
  refine Outs.cellA rfl Tryz.isAgg28 Tryz.sizeOf28 rfl hs6 rfl ?_
  have l2 := ((((h2.keep e3).keep e4).keep e5).keepM e6 (by intro h; (try dsimp only at h); omega)).lt
  have l4 := (((h4.keep e4).keep e5).keepM e6 (by intro h; (try dsimp only at h); omega)).lt
  have l8 := ((h8.keep e5).keepM e6 (by intro h; (try dsimp only at h); omega)).lt
  have l10 := (h10.keepM e6 (by intro h; (try dsimp only at h); omega)).lt
  exact ⟨_, _, _, rfl, (((((hq2.keep e3).keep e4).keep e5).keepM e6 (by intro k hk h; (try dsimp only at hk); (try dsimp only at h); omega))).weak (by intro k hk; (try dsimp only at hk); omega), ((((hq4.keep e4).keep e5).keepM e6 (by intro k hk h; (try dsimp only at hk); (try dsimp only at h); omega))).weak (by intro k hk; (try dsimp only at hk); omega), Items.sl (Items.snoc (Items.nil) rfl ((((hq8.keep e5).keepM e6 (by intro k hk h; (try dsimp only at hk); (try dsimp only at h); omega))).weak (by intro k hk; (try dsimp only at hk); omega))) (((hq10.keepM e6 (by intro k hk h; (try dsimp only at hk); (try dsimp only at h); omega))).weak (by intro k hk; (try dsimp only at hk); omega)), (Ext.new (Ext.trans (Ext.trans (Ext.trans (Ext.trans e1 e2) e3) e4) e5) e6 (by rintro i hi rfl; omega))⟩

end Go.Proofs.YtnkcmaoaagnopaaGreatDoor
