/-
  The walks of the reference's bytes of carts, and of its order of bytes. Conditions: slices as they lie in memory.
-/
import Derived.Test.YtnkcmaoaagnopaaGreatDoorC9
import Derived.Test.YtnkcmaoaagnopaaGreatDoorFw21
namespace Go.Proofs.YtnkcmaoaagnopaaGreatDoor
open Go.Pn Go.RowKit Go.Proofs
attribute [local irreducible] O C D

set_option maxHeartbeats 8000000 in
theorem rbytes_spec (va1 va2 va3 : Value) (a : Cn.Cart) (F : Nat → Prop) (w : World) (hav : Sl Dt.dotF.enc w F va1 a.1.1) (hac : Sl Dt.dotF.enc w F va2 a.1.2) (hai : Sl itemE w F va3 a.2) (hF : ∀ k, F k → k < w.heap.size) (hn : a.2.length ≤ 1000000) (hS : ∀ x ∈ a.2, x.1.length ≤ 1000000 ∧ x.2.length ≤ 1000000) (hp : a.1.1.length ≤ 1000000) (hq : a.1.2.length ≤ 1000000) :
    Ret Tryz.prog 22 #[.agg #[va1, va2, va3]] w (fun v w' => Le w w' ∧ OwnF byteF 5 w.heap.size w' v (Cn.bytes a)) := by
  have hle := hai.le
  have hd1 := Cn.dotsB_le hp
  have hd2 := Cn.dotsB_le hq
  have hcl : (Cn.ctxB a.1).length ≤ 40000020 := by unfold Cn.ctxB; rw [List.length_append]; omega
  have hnl := Cn.num_le a.2.length (by omega)
  obtain ⟨ie5, ti5, ts5, tb5, tz5⟩ := inf5
  obtain ⟨ie49, ti49, ts49, tb49, tz49⟩ := inf49
  refine enter (args := [.agg #[va1, va2, va3]]) (n := 79) Tryz.func22 rfl rfl (Nat.le_of_ble_eq_true rfl) ?_
  refine C.seqK fun K1 hK1 => ?_
  refine C.region ?_
  refine O.box (v := .agg #[va1, va2, va3]) rfl (fun b1 w1 hb1 hz1 e1 => ?_)
  have z1 := e1.size
  have h1 := hz1.own
  have hl1 := h1.lt
  refine O.asg ?_
  refine O.nil ?_
  refine hK1 _ _ ?_
  refine C.seqK fun K2 hK2 => ?_
  refine C.draw (by kernel_rfl) fun w2 e2 => ?_
  have z2 := e2.size
  refine D.take (i := 0) rfl rfl rfl rfl (by kernel_rfl) (Le.refl _) ⟨_, rfl⟩ (fun w_ hw_ N_ hN => (O.fieldAd Tryz.underlying28 rfl Tryz.sizeOf25 (by decide) rfl (O.nil hN))) ?_
  refine D.take (i := 1) rfl rfl rfl rfl (by kernel_rfl) (Le.refl _) ⟨_, rfl⟩ (fun w_ hw_ N_ hN => (O.loadOA Tryz.isAgg25 Tryz.sizeOf25 rfl ((h1.keep e2).keep hw_) (Nat.le_of_ble_eq_true rfl) (O.nil hN))) ?_
  refine D.take (i := 3) rfl rfl rfl rfl (by kernel_rfl) (Le.refl _) ⟨_, rfl⟩ (fun w_ hw_ N_ hN => (O.fieldAd Tryz.underlying28 rfl Tryz.sizeOf26 (by decide) rfl (O.nil hN))) ?_
  refine D.take (i := 4) rfl rfl rfl rfl (by kernel_rfl) (Le.refl _) ⟨_, rfl⟩ (fun w_ hw_ N_ hN => (O.loadO Tryz.isAgg26 rfl ((h1.keep e2).keep hw_) rfl (O.nil hN))) ?_
  refine D.take (i := 5) rfl rfl rfl rfl (by kernel_rfl) (Le.refl _) len_form (fun w_ hw_ N_ hN => (O.len Tryz.underlying26 rfl (((hai.keep e1).keep e2).keep hw_) (O.nil hN))) ?_
  refine D.take (i := 6) rfl rfl rfl rfl (by kernel_rfl) (Le.refl _) ⟨_, rfl⟩ (fun w_ hw_ N_ hN => (O.convIU (m' := 64) Tryz.underlying3 Tryz.underlying49 rfl rfl rfl (O.nil hN))) ?_
  refine D.one (i := 2) rfl rfl (by kernel_rfl) ?_
  refine O.call Tryz.call18 (args1 rfl) (rctx_spec va1 va2 a.1 F _ ((hav.keep e1).keep e2) ((hac.keep e1).keep e2) hp hq) ?_
  rintro v_12 w3 ⟨e3, h12⟩
  have z3 := e3.size
  refine O.nil ⟨e3, ?_⟩
  have h12s := h12.sl
  refine D.one (i := 7) rfl rfl (by kernel_rfl) ?_
  refine O.call Tryz.call33 (args1 rfl) (rnum_spec (BitVec.ofInt 64 (a.2.length : Int)) _) ?_
  rintro v_17 w4 ⟨e4, h17⟩
  have z4 := e4.size
  refine O.nil ⟨(Ext.trans e3 e4), ?_⟩
  rw [Cn.u_def, Cn.u_nat (by omega)] at h17
  have h17s := h17.sl
  refine D.one (i := 8) rfl rfl (by kernel_rfl) ?_
  refine O.appF (G := byteF) Tryz.underlying32 ti5 tz5 ts5 rfl rfl rfl (h12.keep e4) h17s (by rw [tb5]; (try simp only [List.length_append]); omega) (by unfold maxLen; (try simp only [List.length_append]); omega) (by omega) (fun v18 w5 h18 e5 => ?_)
  have z5 := e5.size
  have h18s := h18.sl
  refine O.nil ⟨(Ext.new (Ext.trans e3 e4) e5 (by intro i hi h; have := (h12.keep e4).bk_ge i h; omega)), ?_⟩
  obtain ⟨g18, ho18, hb18⟩ := OG.of h18 (by have := Cn.num_len a.2.length; simp only [List.length_append]; omega)
  have hc18 := ho18.2.2
  refine D.take (i := 9) rfl rfl rfl rfl (by kernel_rfl) (Ext.new (Ext.trans e3 e4) e5 (by intro i hi h; have := (h12.keep e4).bk_ge i h; omega)) ⟨pure _, rfl⟩ (fun w_ hw_ N_ hN => (O.asg (O.nil hN))) ?_
  refine D.done (by kernel_rfl) ?_
  refine hK2 _ _ ?_
  refine C.seqK fun K3 hK3 => ?_
  refine C.seqK fun K4 hK4 => ?_
  refine C.region ?_
  refine O.asg ?_
  refine O.nil ?_
  refine hK4 _ _ ?_
  refine C.block fun K5 hK5 => ?_
  refine C.loop0 (σ := Nat × Value × Nat) (fun f0 w0 ⟨k, o, gl⟩ f w => f 3 = o ∧ f 4 = .int .i64 (k) ∧ f 1 = f0 1 ∧ f 2 = f0 2 ∧ Ext (fun k => k = g18) w0 w ∧ OG byteF 5 w o gl (Cn.ctxB a.1 ++ (Cn.num a.2.length ++ (a.2.take k).flatMap Cn.itemB)) ∧ k ≤ a.2.length ∧ (gl = g18 ∨ w0.heap.size ≤ gl) ∧ gl < w.heap.size) (fun ⟨k, o, gl⟩ => a.2.length - k) (0, v18, g18) ?_ ?_
  ·
    refine ⟨rfl, rfl, rfl, rfl, Ext.refl _ _, ((ho18).lst (by simp)), ?_⟩
    exact ⟨Nat.zero_le _, .inl rfl, by omega⟩
  ·
    rintro ⟨k, o, gl⟩ f_1 w6 ⟨s3_1, s4_1, s1_1, s2_1, e_1, r0_1, ⟨hk, hbgl, hcgl⟩⟩
    have z_1 := e_1.size
    have hfl := Cn.flatMap_take_le (f := Cn.itemB) (b := 41000020) (l := a.2) (fun x hx => Cn.itemB_le (hS x hx)) hk
    refine C.seqK fun K6 hK6 => ?_
    refine C.seqK fun K7 hK7 => ?_
    refine C.region ?_
    refine O.mv ?_
    refine O.fieldAd Tryz.underlying28 rfl Tryz.sizeOf26 (by decide) s1_1 ?_
    refine O.loadO Tryz.isAgg26 rfl (((((h1.keep e2).keep e3).keep e4).keepM e5 (by intro h; have := (h12.keep e4).bk_ge _ h; omega)).keepM e_1 (by intro h; (try dsimp only at h); omega)) rfl ?_
    refine O.len Tryz.underlying26 rfl (hai.keep (Ext.new (Ext.new (Ext.trans (Ext.trans (Ext.trans e1 e2) e3) e4) e5 (by intro i hi h; have := (h12.keep e4).bk_ge i h; omega)) e_1 (by rintro i hi rfl; omega))) ?_
    refine O.lssI s4_1 rfl ?_
    refine O.nil ?_
    refine hK7 _ _ ?_
    refine C.condD rfl (fun c23 => ?_) (fun c23 => ?_)
    ·
      have hk2 : k < a.2.length := by omega
      refine C.skip ?_
      refine hK6 _ _ ?_
      refine C.seqK fun K8 hK8 => ?_
      refine C.block fun K9 hK9 => ?_
      refine C.seqK fun K10 hK10 => ?_
      refine C.region ?_
      refine O.fieldAd Tryz.underlying28 rfl Tryz.sizeOf26 (by decide) s1_1 ?_
      refine O.loadO Tryz.isAgg26 rfl (((((h1.keep e2).keep e3).keep e4).keepM e5 (by intro h; have := (h12.keep e4).bk_ge _ h; omega)).keepM e_1 (by intro h; (try dsimp only at h); omega)) rfl ?_
      refine O.mv ?_
      refine O.idx Tryz.underlying26 Tryz.sizeOf56 rfl rfl (hai.keep (Ext.new (Ext.new (Ext.trans (Ext.trans (Ext.trans e1 e2) e3) e4) e5 (by intro i hi h; have := (h12.keep e4).bk_ge i h; omega)) e_1 (by rintro i hi rfl; omega))) s4_1 (by omega) (fun a29 h29 => ?_)
      refine O.loadE (E := itemE) Tryz.isAgg56 Tryz.sizeOf56 rfl rfl h29 (fun cs30 hcs30 => ?_)
      obtain ⟨vm30, rfl, hm30⟩ := hcs30
      obtain ⟨u, hu⟩ : ∃ u : ItemT, u = a.2[k] := ⟨_, rfl⟩
      have hSu := hS u (by rw [hu]; exact List.getElem_mem _)
      refine O.cast (v' := .agg #[str u.1, vm30]) (by rw [hu]; rfl) ?_
      have hm30 : Sl markF.enc w6 F vm30 u.2 := by rw [hu]; exact hm30
      obtain ⟨ml, mc, rfl, hmc⟩ := hm30.val
      have hsl30 : (Cn.strB u.1).length ≤ 1000010 := by have := Cn.num_le u.1.length (by omega); unfold Cn.strB; rw [List.length_append]; omega
      have hnl30 := Cn.num_le u.2.length (by omega)
      refine O.alloc Tryz.zeroValue56 (fun b5 w7 hb5 hz5 e7 => ?_)
      have z7 := e7.size
      have h5 := hz5.own
      have hl5 := h5.lt
      refine O.storeA (vs := [str u.1, .slice ml u.2.length mc]) Tryz.sizeOf56 rfl rfl rfl (ones2 rfl) h5 (Nat.le_of_ble_eq_true rfl) (fun w8 hs8 e8 z8 => ?_)
      refine O.nil ?_
      refine hK10 _ _ ?_
      refine C.seqK fun K11 hK11 => ?_
      refine C.join (fun f w f' w' => Ext (fun k => k = gl) w w' ∧ f' 1 = f 1 ∧ f' 2 = f 2 ∧ f' 4 = f 4 ∧ f' 5 = f 5 ∧ ∃ (v3m : Value) (g3m : Nat), f' 3 = v3m ∧ OG byteF 5 w' v3m g3m (Cn.ctxB a.1 ++ (Cn.num a.2.length ++ (a.2.take k).flatMap Cn.itemB) ++ Cn.strB u.1 ++ Cn.num u.2.length) ∧ (g3m = gl ∨ w.heap.size ≤ g3m)) ?_ ?_
      ·
        refine C.drawB (wB := w) (by kernel_rfl) fun w9 e9 => ?_
        have z9 := e9.size
        refine D.take (i := 0) rfl rfl rfl rfl (by kernel_rfl) (Ext.trans (Ext.new (Ext.trans (Ext.new (Ext.new (Ext.trans (Ext.trans (Ext.trans e1 e2) e3) e4) e5 (by intro i hi h; have := (h12.keep e4).bk_ge i h; omega)) e_1 (by rintro i hi rfl; omega)) e7) e8 (by rintro i hi rfl; omega)) e9) ⟨pure _, rfl⟩ (fun w_ hw_ N_ hN => (O.mv (O.nil hN))) ?_
        refine D.take (i := 1) rfl rfl rfl rfl (by kernel_rfl) (Ext.trans (Ext.new (Ext.trans (Ext.new (Ext.new (Ext.trans (Ext.trans (Ext.trans e1 e2) e3) e4) e5 (by intro i hi h; have := (h12.keep e4).bk_ge i h; omega)) e_1 (by rintro i hi rfl; omega)) e7) e8 (by rintro i hi rfl; omega)) e9) ⟨_, rfl⟩ (fun w_ hw_ N_ hN => (O.fieldAd Tryz.underlying56 rfl Tryz.sizeOf9 (by decide) rfl (O.nil hN))) ?_
        refine D.take (i := 5) rfl rfl rfl rfl (by kernel_rfl) (Ext.trans (Ext.new (Ext.trans (Ext.new (Ext.new (Ext.trans (Ext.trans (Ext.trans e1 e2) e3) e4) e5 (by intro i hi h; have := (h12.keep e4).bk_ge i h; omega)) e_1 (by rintro i hi rfl; omega)) e7) e8 (by rintro i hi rfl; omega)) e9) ⟨_, rfl⟩ (fun w_ hw_ N_ hN => (O.fieldAd Tryz.underlying56 rfl Tryz.sizeOf54 (by decide) rfl (O.nil hN))) ?_
        refine D.many [2, 6] (by kernel_rfl) (by decide) ⟨?_, ?_, trivial⟩
        ·
          refine D.stepU rfl rfl ?_
          refine O.loadO Tryz.isAgg9 rfl (hs8.keep e9) rfl ?_
          refine O.nil ⟨(Ext.trans (Ext.new (Ext.trans (Ext.new (Ext.new (Ext.trans (Ext.trans (Ext.trans e1 e2) e3) e4) e5 (by intro i hi h; have := (h12.keep e4).bk_ge i h; omega)) e_1 (by rintro i hi rfl; omega)) e7) e8 (by rintro i hi rfl; omega)) e9), ?_⟩
          refine D.many [3, 6] (by kernel_rfl) (by decide) ⟨?_, ?_, trivial⟩
          ·
            refine D.stepU rfl rfl ?_
            refine O.call Tryz.call49 (args1 rfl) (rstr_spec u.1 _ (by omega)) ?_
            rintro v_34 w10 ⟨e10, h34⟩
            have z10 := e10.size
            refine O.nil ⟨(Ext.trans (Ext.trans (Ext.new (Ext.trans (Ext.new (Ext.new (Ext.trans (Ext.trans (Ext.trans e1 e2) e3) e4) e5 (by intro i hi h; have := (h12.keep e4).bk_ge i h; omega)) e_1 (by rintro i hi rfl; omega)) e7) e8 (by rintro i hi rfl; omega)) e9) e10), ?_⟩
            have h34s := h34.sl
            refine D.many [4, 6] (by kernel_rfl) (by decide) ⟨?_, ?_, trivial⟩
            ·
              refine D.stepU rfl rfl ?_
              refine O.appG (G := byteF) Tryz.underlying32 ti5 tz5 ts5 rfl s3_1 rfl ((((r0_1.keep e7).keepM e8 (by intro k hk h; (try dsimp only at h); omega)).keep e9).keep e10) h34s (by rw [tb5]; (try simp only [List.length_append]); omega) (by unfold maxLen; (try simp only [List.length_append]); omega) (fun v35 gg35 w11 h35 hg35 e11 hw35 => ?_)
              have e11m := e11.mono (M' := fun k => k = _) (fun k _ hk => ((((r0_1.keep e7).keepM e8 (by intro k hk h; (try dsimp only at h); omega)).keep e9).keep e10).2.1 k hk)
              have z11 := e11.size
              have hgl35 := h35.2.2
              refine O.nil ⟨(Ext.new (Ext.trans (Ext.trans (Ext.new (Ext.trans (Ext.new (Ext.new (Ext.trans (Ext.trans (Ext.trans e1 e2) e3) e4) e5 (by intro i hi h; have := (h12.keep e4).bk_ge i h; omega)) e_1 (by rintro i hi rfl; omega)) e7) e8 (by rintro i hi rfl; omega)) e9) e10) e11 (by intro i hi h; replace h := ((((r0_1.keep e7).keepM e8 (by intro k hk h; (try dsimp only at h); omega)).keep e9).keep e10).2.1 _ h; (try dsimp only at h); omega)), ?_⟩
              refine D.one (i := 6) rfl rfl (by kernel_rfl) ?_
              refine O.loadO Tryz.isAgg54 rfl (((hs8.keep e9).keep e10).keepM e11 (by intro h; replace h := ((((r0_1.keep e7).keepM e8 (by intro k hk h; (try dsimp only at h); omega)).keep e9).keep e10).2.1 _ h; (try dsimp only at h); omega)) rfl ?_
              refine O.nil ⟨(Ext.new (Ext.trans (Ext.trans (Ext.new (Ext.trans (Ext.new (Ext.new (Ext.trans (Ext.trans (Ext.trans e1 e2) e3) e4) e5 (by intro i hi h; have := (h12.keep e4).bk_ge i h; omega)) e_1 (by rintro i hi rfl; omega)) e7) e8 (by rintro i hi rfl; omega)) e9) e10) e11 (by intro i hi h; replace h := ((((r0_1.keep e7).keepM e8 (by intro k hk h; (try dsimp only at h); omega)).keep e9).keep e10).2.1 _ h; (try dsimp only at h); omega)), ?_⟩
              refine D.take (i := 7) rfl rfl rfl rfl (by kernel_rfl) (Ext.new (Ext.trans (Ext.trans (Ext.new (Ext.trans (Ext.new (Ext.new (Ext.trans (Ext.trans (Ext.trans e1 e2) e3) e4) e5 (by intro i hi h; have := (h12.keep e4).bk_ge i h; omega)) e_1 (by rintro i hi rfl; omega)) e7) e8 (by rintro i hi rfl; omega)) e9) e10) e11 (by intro i hi h; replace h := ((((r0_1.keep e7).keepM e8 (by intro k hk h; (try dsimp only at h); omega)).keep e9).keep e10).2.1 _ h; (try dsimp only at h); omega)) len_form (fun w_ hw_ N_ hN => (O.lenL Tryz.underlying54 rfl (O.nil hN))) ?_
              refine D.take (i := 8) rfl rfl rfl rfl (by kernel_rfl) (Ext.new (Ext.trans (Ext.trans (Ext.new (Ext.trans (Ext.new (Ext.new (Ext.trans (Ext.trans (Ext.trans e1 e2) e3) e4) e5 (by intro i hi h; have := (h12.keep e4).bk_ge i h; omega)) e_1 (by rintro i hi rfl; omega)) e7) e8 (by rintro i hi rfl; omega)) e9) e10) e11 (by intro i hi h; replace h := ((((r0_1.keep e7).keepM e8 (by intro k hk h; (try dsimp only at h); omega)).keep e9).keep e10).2.1 _ h; (try dsimp only at h); omega)) ⟨_, rfl⟩ (fun w_ hw_ N_ hN => (O.convIU (m' := 64) Tryz.underlying3 Tryz.underlying49 rfl rfl rfl (O.nil hN))) ?_
              refine D.one (i := 9) rfl rfl (by kernel_rfl) ?_
              refine O.call Tryz.call33 (args1 rfl) (rnum_spec (BitVec.ofInt 64 (u.2.length : Int)) _) ?_
              rintro v_40 w12 ⟨e12, h40⟩
              have z12 := e12.size
              refine O.nil ⟨(Ext.trans (Ext.new (Ext.trans (Ext.trans (Ext.new (Ext.trans (Ext.new (Ext.new (Ext.trans (Ext.trans (Ext.trans e1 e2) e3) e4) e5 (by intro i hi h; have := (h12.keep e4).bk_ge i h; omega)) e_1 (by rintro i hi rfl; omega)) e7) e8 (by rintro i hi rfl; omega)) e9) e10) e11 (by intro i hi h; replace h := ((((r0_1.keep e7).keepM e8 (by intro k hk h; (try dsimp only at h); omega)).keep e9).keep e10).2.1 _ h; (try dsimp only at h); omega)) e12), ?_⟩
              rw [Cn.u_def, Cn.u_nat (by omega)] at h40
              have h40s := h40.sl
              refine D.one (i := 10) rfl rfl (by kernel_rfl) ?_
              refine O.appG (G := byteF) Tryz.underlying32 ti5 tz5 ts5 rfl rfl rfl (h35.keep e12) h40s (by rw [tb5]; (try simp only [List.length_append]); omega) (by unfold maxLen; (try simp only [List.length_append]); omega) (fun v41 gg41 w13 h41 hg41 e13 hw41 => ?_)
              have e13m := e13.mono (M' := fun k => k = _) (fun k _ hk => (h35.keep e12).2.1 k hk)
              have z13 := e13.size
              have hgl41 := h41.2.2
              refine O.nil ⟨(Ext.new (Ext.trans (Ext.new (Ext.trans (Ext.trans (Ext.new (Ext.trans (Ext.new (Ext.new (Ext.trans (Ext.trans (Ext.trans e1 e2) e3) e4) e5 (by intro i hi h; have := (h12.keep e4).bk_ge i h; omega)) e_1 (by rintro i hi rfl; omega)) e7) e8 (by rintro i hi rfl; omega)) e9) e10) e11 (by intro i hi h; replace h := ((((r0_1.keep e7).keepM e8 (by intro k hk h; (try dsimp only at h); omega)).keep e9).keep e10).2.1 _ h; (try dsimp only at h); omega)) e12) e13 (by intro i hi h; replace h := (h35.keep e12).2.1 _ h; (try dsimp only at h); omega)), ?_⟩
              refine D.take (i := 11) rfl rfl rfl rfl (by kernel_rfl) (Ext.new (Ext.trans (Ext.new (Ext.trans (Ext.trans (Ext.new (Ext.trans (Ext.new (Ext.new (Ext.trans (Ext.trans (Ext.trans e1 e2) e3) e4) e5 (by intro i hi h; have := (h12.keep e4).bk_ge i h; omega)) e_1 (by rintro i hi rfl; omega)) e7) e8 (by rintro i hi rfl; omega)) e9) e10) e11 (by intro i hi h; replace h := ((((r0_1.keep e7).keepM e8 (by intro k hk h; (try dsimp only at h); omega)).keep e9).keep e10).2.1 _ h; (try dsimp only at h); omega)) e12) e13 (by intro i hi h; replace h := (h35.keep e12).2.1 _ h; (try dsimp only at h); omega)) ⟨pure _, rfl⟩ (fun w_ hw_ N_ hN => (O.asg (O.nil hN))) ?_
              refine D.done (by kernel_rfl) ?_
              exact ⟨(Ext.new (Ext.new (Ext.new (Ext.new (Ext.new (Ext.refl _ _) e9 (by intro i hi hk; first | exact hk.elim | ((try dsimp only at hk); (try dsimp only); omega))) e10 (by intro i hi hk; first | exact hk.elim | ((try dsimp only at hk); (try dsimp only); omega))) e11m (by intro i hi hk; first | exact hk.elim | ((try dsimp only at hk); (try dsimp only); omega))) e12 (by intro i hi hk; first | exact hk.elim | ((try dsimp only at hk); (try dsimp only); omega))) e13m (by intro i hi hk; first | exact hk.elim | ((try dsimp only at hk); (try dsimp only); omega))), rfl, rfl, rfl, rfl, ⟨_, _, rfl, ⟨h41, by omega⟩⟩⟩
            ·
              refine D.stepU rfl rfl ?_
              refine O.loadO Tryz.isAgg54 rfl ((hs8.keep e9).keep e10) rfl ?_
              refine O.nil ⟨(Ext.trans (Ext.trans (Ext.new (Ext.trans (Ext.new (Ext.new (Ext.trans (Ext.trans (Ext.trans e1 e2) e3) e4) e5 (by intro i hi h; have := (h12.keep e4).bk_ge i h; omega)) e_1 (by rintro i hi rfl; omega)) e7) e8 (by rintro i hi rfl; omega)) e9) e10), ?_⟩
              refine D.take (i := 7) rfl rfl rfl rfl (by kernel_rfl) (Ext.trans (Ext.trans (Ext.new (Ext.trans (Ext.new (Ext.new (Ext.trans (Ext.trans (Ext.trans e1 e2) e3) e4) e5 (by intro i hi h; have := (h12.keep e4).bk_ge i h; omega)) e_1 (by rintro i hi rfl; omega)) e7) e8 (by rintro i hi rfl; omega)) e9) e10) len_form (fun w_ hw_ N_ hN => (O.lenL Tryz.underlying54 rfl (O.nil hN))) ?_
              refine D.take (i := 8) rfl rfl rfl rfl (by kernel_rfl) (Ext.trans (Ext.trans (Ext.new (Ext.trans (Ext.new (Ext.new (Ext.trans (Ext.trans (Ext.trans e1 e2) e3) e4) e5 (by intro i hi h; have := (h12.keep e4).bk_ge i h; omega)) e_1 (by rintro i hi rfl; omega)) e7) e8 (by rintro i hi rfl; omega)) e9) e10) ⟨_, rfl⟩ (fun w_ hw_ N_ hN => (O.convIU (m' := 64) Tryz.underlying3 Tryz.underlying49 rfl rfl rfl (O.nil hN))) ?_
              refine D.one (i := 4) rfl rfl (by kernel_rfl) ?_
              refine O.appG (G := byteF) Tryz.underlying32 ti5 tz5 ts5 rfl s3_1 rfl ((((r0_1.keep e7).keepM e8 (by intro k hk h; (try dsimp only at h); omega)).keep e9).keep e10) h34s (by rw [tb5]; (try simp only [List.length_append]); omega) (by unfold maxLen; (try simp only [List.length_append]); omega) (fun v35 gg35 w14 h35 hg35 e14 hw35 => ?_)
              have e14m := e14.mono (M' := fun k => k = _) (fun k _ hk => ((((r0_1.keep e7).keepM e8 (by intro k hk h; (try dsimp only at h); omega)).keep e9).keep e10).2.1 k hk)
              have z14 := e14.size
              have hgl35 := h35.2.2
              refine O.nil ⟨(Ext.new (Ext.trans (Ext.trans (Ext.new (Ext.trans (Ext.new (Ext.new (Ext.trans (Ext.trans (Ext.trans e1 e2) e3) e4) e5 (by intro i hi h; have := (h12.keep e4).bk_ge i h; omega)) e_1 (by rintro i hi rfl; omega)) e7) e8 (by rintro i hi rfl; omega)) e9) e10) e14 (by intro i hi h; replace h := ((((r0_1.keep e7).keepM e8 (by intro k hk h; (try dsimp only at h); omega)).keep e9).keep e10).2.1 _ h; (try dsimp only at h); omega)), ?_⟩
              refine D.one (i := 9) rfl rfl (by kernel_rfl) ?_
              refine O.call Tryz.call33 (args1 rfl) (rnum_spec (BitVec.ofInt 64 (u.2.length : Int)) _) ?_
              rintro v_40 w15 ⟨e15, h40⟩
              have z15 := e15.size
              refine O.nil ⟨(Ext.trans (Ext.new (Ext.trans (Ext.trans (Ext.new (Ext.trans (Ext.new (Ext.new (Ext.trans (Ext.trans (Ext.trans e1 e2) e3) e4) e5 (by intro i hi h; have := (h12.keep e4).bk_ge i h; omega)) e_1 (by rintro i hi rfl; omega)) e7) e8 (by rintro i hi rfl; omega)) e9) e10) e14 (by intro i hi h; replace h := ((((r0_1.keep e7).keepM e8 (by intro k hk h; (try dsimp only at h); omega)).keep e9).keep e10).2.1 _ h; (try dsimp only at h); omega)) e15), ?_⟩
              rw [Cn.u_def, Cn.u_nat (by omega)] at h40
              have h40s := h40.sl
              refine D.one (i := 10) rfl rfl (by kernel_rfl) ?_
              refine O.appG (G := byteF) Tryz.underlying32 ti5 tz5 ts5 rfl rfl rfl (h35.keep e15) h40s (by rw [tb5]; (try simp only [List.length_append]); omega) (by unfold maxLen; (try simp only [List.length_append]); omega) (fun v41 gg41 w16 h41 hg41 e16 hw41 => ?_)
              have e16m := e16.mono (M' := fun k => k = _) (fun k _ hk => (h35.keep e15).2.1 k hk)
              have z16 := e16.size
              have hgl41 := h41.2.2
              refine O.nil ⟨(Ext.new (Ext.trans (Ext.new (Ext.trans (Ext.trans (Ext.new (Ext.trans (Ext.new (Ext.new (Ext.trans (Ext.trans (Ext.trans e1 e2) e3) e4) e5 (by intro i hi h; have := (h12.keep e4).bk_ge i h; omega)) e_1 (by rintro i hi rfl; omega)) e7) e8 (by rintro i hi rfl; omega)) e9) e10) e14 (by intro i hi h; replace h := ((((r0_1.keep e7).keepM e8 (by intro k hk h; (try dsimp only at h); omega)).keep e9).keep e10).2.1 _ h; (try dsimp only at h); omega)) e15) e16 (by intro i hi h; replace h := (h35.keep e15).2.1 _ h; (try dsimp only at h); omega)), ?_⟩
              refine D.take (i := 11) rfl rfl rfl rfl (by kernel_rfl) (Ext.new (Ext.trans (Ext.new (Ext.trans (Ext.trans (Ext.new (Ext.trans (Ext.new (Ext.new (Ext.trans (Ext.trans (Ext.trans e1 e2) e3) e4) e5 (by intro i hi h; have := (h12.keep e4).bk_ge i h; omega)) e_1 (by rintro i hi rfl; omega)) e7) e8 (by rintro i hi rfl; omega)) e9) e10) e14 (by intro i hi h; replace h := ((((r0_1.keep e7).keepM e8 (by intro k hk h; (try dsimp only at h); omega)).keep e9).keep e10).2.1 _ h; (try dsimp only at h); omega)) e15) e16 (by intro i hi h; replace h := (h35.keep e15).2.1 _ h; (try dsimp only at h); omega)) ⟨pure _, rfl⟩ (fun w_ hw_ N_ hN => (O.asg (O.nil hN))) ?_
              refine D.done (by kernel_rfl) ?_
              exact ⟨(Ext.new (Ext.new (Ext.new (Ext.new (Ext.new (Ext.refl _ _) e9 (by intro i hi hk; first | exact hk.elim | ((try dsimp only at hk); (try dsimp only); omega))) e10 (by intro i hi hk; first | exact hk.elim | ((try dsimp only at hk); (try dsimp only); omega))) e14m (by intro i hi hk; first | exact hk.elim | ((try dsimp only at hk); (try dsimp only); omega))) e15 (by intro i hi hk; first | exact hk.elim | ((try dsimp only at hk); (try dsimp only); omega))) e16m (by intro i hi hk; first | exact hk.elim | ((try dsimp only at hk); (try dsimp only); omega))), rfl, rfl, rfl, rfl, ⟨_, _, rfl, ⟨h41, by omega⟩⟩⟩
          ·
            refine D.stepU rfl rfl ?_
            refine O.loadO Tryz.isAgg54 rfl (hs8.keep e9) rfl ?_
            refine O.nil ⟨(Ext.trans (Ext.new (Ext.trans (Ext.new (Ext.new (Ext.trans (Ext.trans (Ext.trans e1 e2) e3) e4) e5 (by intro i hi h; have := (h12.keep e4).bk_ge i h; omega)) e_1 (by rintro i hi rfl; omega)) e7) e8 (by rintro i hi rfl; omega)) e9), ?_⟩
            refine D.take (i := 7) rfl rfl rfl rfl (by kernel_rfl) (Ext.trans (Ext.new (Ext.trans (Ext.new (Ext.new (Ext.trans (Ext.trans (Ext.trans e1 e2) e3) e4) e5 (by intro i hi h; have := (h12.keep e4).bk_ge i h; omega)) e_1 (by rintro i hi rfl; omega)) e7) e8 (by rintro i hi rfl; omega)) e9) len_form (fun w_ hw_ N_ hN => (O.lenL Tryz.underlying54 rfl (O.nil hN))) ?_
            refine D.take (i := 8) rfl rfl rfl rfl (by kernel_rfl) (Ext.trans (Ext.new (Ext.trans (Ext.new (Ext.new (Ext.trans (Ext.trans (Ext.trans e1 e2) e3) e4) e5 (by intro i hi h; have := (h12.keep e4).bk_ge i h; omega)) e_1 (by rintro i hi rfl; omega)) e7) e8 (by rintro i hi rfl; omega)) e9) ⟨_, rfl⟩ (fun w_ hw_ N_ hN => (O.convIU (m' := 64) Tryz.underlying3 Tryz.underlying49 rfl rfl rfl (O.nil hN))) ?_
            refine D.one (i := 3) rfl rfl (by kernel_rfl) ?_
            refine O.call Tryz.call49 (args1 rfl) (rstr_spec u.1 _ (by omega)) ?_
            rintro v_34 w17 ⟨e17, h34⟩
            have z17 := e17.size
            refine O.nil ⟨(Ext.trans (Ext.trans (Ext.new (Ext.trans (Ext.new (Ext.new (Ext.trans (Ext.trans (Ext.trans e1 e2) e3) e4) e5 (by intro i hi h; have := (h12.keep e4).bk_ge i h; omega)) e_1 (by rintro i hi rfl; omega)) e7) e8 (by rintro i hi rfl; omega)) e9) e17), ?_⟩
            have h34s := h34.sl
            refine D.one (i := 4) rfl rfl (by kernel_rfl) ?_
            refine O.appG (G := byteF) Tryz.underlying32 ti5 tz5 ts5 rfl s3_1 rfl ((((r0_1.keep e7).keepM e8 (by intro k hk h; (try dsimp only at h); omega)).keep e9).keep e17) h34s (by rw [tb5]; (try simp only [List.length_append]); omega) (by unfold maxLen; (try simp only [List.length_append]); omega) (fun v35 gg35 w18 h35 hg35 e18 hw35 => ?_)
            have e18m := e18.mono (M' := fun k => k = _) (fun k _ hk => ((((r0_1.keep e7).keepM e8 (by intro k hk h; (try dsimp only at h); omega)).keep e9).keep e17).2.1 k hk)
            have z18 := e18.size
            have hgl35 := h35.2.2
            refine O.nil ⟨(Ext.new (Ext.trans (Ext.trans (Ext.new (Ext.trans (Ext.new (Ext.new (Ext.trans (Ext.trans (Ext.trans e1 e2) e3) e4) e5 (by intro i hi h; have := (h12.keep e4).bk_ge i h; omega)) e_1 (by rintro i hi rfl; omega)) e7) e8 (by rintro i hi rfl; omega)) e9) e17) e18 (by intro i hi h; replace h := ((((r0_1.keep e7).keepM e8 (by intro k hk h; (try dsimp only at h); omega)).keep e9).keep e17).2.1 _ h; (try dsimp only at h); omega)), ?_⟩
            refine D.one (i := 9) rfl rfl (by kernel_rfl) ?_
            refine O.call Tryz.call33 (args1 rfl) (rnum_spec (BitVec.ofInt 64 (u.2.length : Int)) _) ?_
            rintro v_40 w19 ⟨e19, h40⟩
            have z19 := e19.size
            refine O.nil ⟨(Ext.trans (Ext.new (Ext.trans (Ext.trans (Ext.new (Ext.trans (Ext.new (Ext.new (Ext.trans (Ext.trans (Ext.trans e1 e2) e3) e4) e5 (by intro i hi h; have := (h12.keep e4).bk_ge i h; omega)) e_1 (by rintro i hi rfl; omega)) e7) e8 (by rintro i hi rfl; omega)) e9) e17) e18 (by intro i hi h; replace h := ((((r0_1.keep e7).keepM e8 (by intro k hk h; (try dsimp only at h); omega)).keep e9).keep e17).2.1 _ h; (try dsimp only at h); omega)) e19), ?_⟩
            rw [Cn.u_def, Cn.u_nat (by omega)] at h40
            have h40s := h40.sl
            refine D.one (i := 10) rfl rfl (by kernel_rfl) ?_
            refine O.appG (G := byteF) Tryz.underlying32 ti5 tz5 ts5 rfl rfl rfl (h35.keep e19) h40s (by rw [tb5]; (try simp only [List.length_append]); omega) (by unfold maxLen; (try simp only [List.length_append]); omega) (fun v41 gg41 w20 h41 hg41 e20 hw41 => ?_)
            have e20m := e20.mono (M' := fun k => k = _) (fun k _ hk => (h35.keep e19).2.1 k hk)
            have z20 := e20.size
            have hgl41 := h41.2.2
            refine O.nil ⟨(Ext.new (Ext.trans (Ext.new (Ext.trans (Ext.trans (Ext.new (Ext.trans (Ext.new (Ext.new (Ext.trans (Ext.trans (Ext.trans e1 e2) e3) e4) e5 (by intro i hi h; have := (h12.keep e4).bk_ge i h; omega)) e_1 (by rintro i hi rfl; omega)) e7) e8 (by rintro i hi rfl; omega)) e9) e17) e18 (by intro i hi h; replace h := ((((r0_1.keep e7).keepM e8 (by intro k hk h; (try dsimp only at h); omega)).keep e9).keep e17).2.1 _ h; (try dsimp only at h); omega)) e19) e20 (by intro i hi h; replace h := (h35.keep e19).2.1 _ h; (try dsimp only at h); omega)), ?_⟩
            refine D.take (i := 11) rfl rfl rfl rfl (by kernel_rfl) (Ext.new (Ext.trans (Ext.new (Ext.trans (Ext.trans (Ext.new (Ext.trans (Ext.new (Ext.new (Ext.trans (Ext.trans (Ext.trans e1 e2) e3) e4) e5 (by intro i hi h; have := (h12.keep e4).bk_ge i h; omega)) e_1 (by rintro i hi rfl; omega)) e7) e8 (by rintro i hi rfl; omega)) e9) e17) e18 (by intro i hi h; replace h := ((((r0_1.keep e7).keepM e8 (by intro k hk h; (try dsimp only at h); omega)).keep e9).keep e17).2.1 _ h; (try dsimp only at h); omega)) e19) e20 (by intro i hi h; replace h := (h35.keep e19).2.1 _ h; (try dsimp only at h); omega)) ⟨pure _, rfl⟩ (fun w_ hw_ N_ hN => (O.asg (O.nil hN))) ?_
            refine D.done (by kernel_rfl) ?_
            exact ⟨(Ext.new (Ext.new (Ext.new (Ext.new (Ext.new (Ext.refl _ _) e9 (by intro i hi hk; first | exact hk.elim | ((try dsimp only at hk); (try dsimp only); omega))) e17 (by intro i hi hk; first | exact hk.elim | ((try dsimp only at hk); (try dsimp only); omega))) e18m (by intro i hi hk; first | exact hk.elim | ((try dsimp only at hk); (try dsimp only); omega))) e19 (by intro i hi hk; first | exact hk.elim | ((try dsimp only at hk); (try dsimp only); omega))) e20m (by intro i hi hk; first | exact hk.elim | ((try dsimp only at hk); (try dsimp only); omega))), rfl, rfl, rfl, rfl, ⟨_, _, rfl, ⟨h41, by omega⟩⟩⟩
        ·
          refine D.stepU rfl rfl ?_
          refine O.loadO Tryz.isAgg54 rfl (hs8.keep e9) rfl ?_
          refine O.nil ⟨(Ext.trans (Ext.new (Ext.trans (Ext.new (Ext.new (Ext.trans (Ext.trans (Ext.trans e1 e2) e3) e4) e5 (by intro i hi h; have := (h12.keep e4).bk_ge i h; omega)) e_1 (by rintro i hi rfl; omega)) e7) e8 (by rintro i hi rfl; omega)) e9), ?_⟩
          refine D.take (i := 7) rfl rfl rfl rfl (by kernel_rfl) (Ext.trans (Ext.new (Ext.trans (Ext.new (Ext.new (Ext.trans (Ext.trans (Ext.trans e1 e2) e3) e4) e5 (by intro i hi h; have := (h12.keep e4).bk_ge i h; omega)) e_1 (by rintro i hi rfl; omega)) e7) e8 (by rintro i hi rfl; omega)) e9) len_form (fun w_ hw_ N_ hN => (O.lenL Tryz.underlying54 rfl (O.nil hN))) ?_
          refine D.take (i := 8) rfl rfl rfl rfl (by kernel_rfl) (Ext.trans (Ext.new (Ext.trans (Ext.new (Ext.new (Ext.trans (Ext.trans (Ext.trans e1 e2) e3) e4) e5 (by intro i hi h; have := (h12.keep e4).bk_ge i h; omega)) e_1 (by rintro i hi rfl; omega)) e7) e8 (by rintro i hi rfl; omega)) e9) ⟨_, rfl⟩ (fun w_ hw_ N_ hN => (O.convIU (m' := 64) Tryz.underlying3 Tryz.underlying49 rfl rfl rfl (O.nil hN))) ?_
          refine D.one (i := 2) rfl rfl (by kernel_rfl) ?_
          refine O.loadO Tryz.isAgg9 rfl (hs8.keep e9) rfl ?_
          refine O.nil ⟨(Ext.trans (Ext.new (Ext.trans (Ext.new (Ext.new (Ext.trans (Ext.trans (Ext.trans e1 e2) e3) e4) e5 (by intro i hi h; have := (h12.keep e4).bk_ge i h; omega)) e_1 (by rintro i hi rfl; omega)) e7) e8 (by rintro i hi rfl; omega)) e9), ?_⟩
          refine D.one (i := 3) rfl rfl (by kernel_rfl) ?_
          refine O.call Tryz.call49 (args1 rfl) (rstr_spec u.1 _ (by omega)) ?_
          rintro v_34 w21 ⟨e21, h34⟩
          have z21 := e21.size
          refine O.nil ⟨(Ext.trans (Ext.trans (Ext.new (Ext.trans (Ext.new (Ext.new (Ext.trans (Ext.trans (Ext.trans e1 e2) e3) e4) e5 (by intro i hi h; have := (h12.keep e4).bk_ge i h; omega)) e_1 (by rintro i hi rfl; omega)) e7) e8 (by rintro i hi rfl; omega)) e9) e21), ?_⟩
          have h34s := h34.sl
          refine D.one (i := 4) rfl rfl (by kernel_rfl) ?_
          refine O.appG (G := byteF) Tryz.underlying32 ti5 tz5 ts5 rfl s3_1 rfl ((((r0_1.keep e7).keepM e8 (by intro k hk h; (try dsimp only at h); omega)).keep e9).keep e21) h34s (by rw [tb5]; (try simp only [List.length_append]); omega) (by unfold maxLen; (try simp only [List.length_append]); omega) (fun v35 gg35 w22 h35 hg35 e22 hw35 => ?_)
          have e22m := e22.mono (M' := fun k => k = _) (fun k _ hk => ((((r0_1.keep e7).keepM e8 (by intro k hk h; (try dsimp only at h); omega)).keep e9).keep e21).2.1 k hk)
          have z22 := e22.size
          have hgl35 := h35.2.2
          refine O.nil ⟨(Ext.new (Ext.trans (Ext.trans (Ext.new (Ext.trans (Ext.new (Ext.new (Ext.trans (Ext.trans (Ext.trans e1 e2) e3) e4) e5 (by intro i hi h; have := (h12.keep e4).bk_ge i h; omega)) e_1 (by rintro i hi rfl; omega)) e7) e8 (by rintro i hi rfl; omega)) e9) e21) e22 (by intro i hi h; replace h := ((((r0_1.keep e7).keepM e8 (by intro k hk h; (try dsimp only at h); omega)).keep e9).keep e21).2.1 _ h; (try dsimp only at h); omega)), ?_⟩
          refine D.one (i := 9) rfl rfl (by kernel_rfl) ?_
          refine O.call Tryz.call33 (args1 rfl) (rnum_spec (BitVec.ofInt 64 (u.2.length : Int)) _) ?_
          rintro v_40 w23 ⟨e23, h40⟩
          have z23 := e23.size
          refine O.nil ⟨(Ext.trans (Ext.new (Ext.trans (Ext.trans (Ext.new (Ext.trans (Ext.new (Ext.new (Ext.trans (Ext.trans (Ext.trans e1 e2) e3) e4) e5 (by intro i hi h; have := (h12.keep e4).bk_ge i h; omega)) e_1 (by rintro i hi rfl; omega)) e7) e8 (by rintro i hi rfl; omega)) e9) e21) e22 (by intro i hi h; replace h := ((((r0_1.keep e7).keepM e8 (by intro k hk h; (try dsimp only at h); omega)).keep e9).keep e21).2.1 _ h; (try dsimp only at h); omega)) e23), ?_⟩
          rw [Cn.u_def, Cn.u_nat (by omega)] at h40
          have h40s := h40.sl
          refine D.one (i := 10) rfl rfl (by kernel_rfl) ?_
          refine O.appG (G := byteF) Tryz.underlying32 ti5 tz5 ts5 rfl rfl rfl (h35.keep e23) h40s (by rw [tb5]; (try simp only [List.length_append]); omega) (by unfold maxLen; (try simp only [List.length_append]); omega) (fun v41 gg41 w24 h41 hg41 e24 hw41 => ?_)
          have e24m := e24.mono (M' := fun k => k = _) (fun k _ hk => (h35.keep e23).2.1 k hk)
          have z24 := e24.size
          have hgl41 := h41.2.2
          refine O.nil ⟨(Ext.new (Ext.trans (Ext.new (Ext.trans (Ext.trans (Ext.new (Ext.trans (Ext.new (Ext.new (Ext.trans (Ext.trans (Ext.trans e1 e2) e3) e4) e5 (by intro i hi h; have := (h12.keep e4).bk_ge i h; omega)) e_1 (by rintro i hi rfl; omega)) e7) e8 (by rintro i hi rfl; omega)) e9) e21) e22 (by intro i hi h; replace h := ((((r0_1.keep e7).keepM e8 (by intro k hk h; (try dsimp only at h); omega)).keep e9).keep e21).2.1 _ h; (try dsimp only at h); omega)) e23) e24 (by intro i hi h; replace h := (h35.keep e23).2.1 _ h; (try dsimp only at h); omega)), ?_⟩
          refine D.take (i := 11) rfl rfl rfl rfl (by kernel_rfl) (Ext.new (Ext.trans (Ext.new (Ext.trans (Ext.trans (Ext.new (Ext.trans (Ext.new (Ext.new (Ext.trans (Ext.trans (Ext.trans e1 e2) e3) e4) e5 (by intro i hi h; have := (h12.keep e4).bk_ge i h; omega)) e_1 (by rintro i hi rfl; omega)) e7) e8 (by rintro i hi rfl; omega)) e9) e21) e22 (by intro i hi h; replace h := ((((r0_1.keep e7).keepM e8 (by intro k hk h; (try dsimp only at h); omega)).keep e9).keep e21).2.1 _ h; (try dsimp only at h); omega)) e23) e24 (by intro i hi h; replace h := (h35.keep e23).2.1 _ h; (try dsimp only at h); omega)) ⟨pure _, rfl⟩ (fun w_ hw_ N_ hN => (O.asg (O.nil hN))) ?_
          refine D.done (by kernel_rfl) ?_
          exact ⟨(Ext.new (Ext.new (Ext.new (Ext.new (Ext.new (Ext.refl _ _) e9 (by intro i hi hk; first | exact hk.elim | ((try dsimp only at hk); (try dsimp only); omega))) e21 (by intro i hi hk; first | exact hk.elim | ((try dsimp only at hk); (try dsimp only); omega))) e22m (by intro i hi hk; first | exact hk.elim | ((try dsimp only at hk); (try dsimp only); omega))) e23 (by intro i hi hk; first | exact hk.elim | ((try dsimp only at hk); (try dsimp only); omega))) e24m (by intro i hi hk; first | exact hk.elim | ((try dsimp only at hk); (try dsimp only); omega))), rfl, rfl, rfl, rfl, ⟨_, _, rfl, ⟨h41, by omega⟩⟩⟩
      ·
        rintro f_2 w25 ⟨e_2, s1_2, s2_2, s4_2, s5_2, ⟨v3m, g3m, s3_2, q0_2⟩⟩
        have z_2 := e_2.size
        obtain ⟨h41, hg41⟩ := q0_2
        have hgl41 := h41.2.2
        refine hK11 _ _ ?_
        refine C.seqK fun K12 hK12 => ?_
        refine C.region ?_
        refine O.asg ?_
        refine O.nil ?_
        refine hK12 _ _ ?_
        refine C.block fun K13 hK13 => ?_
        refine C.loop0 (σ := Nat × Value × Nat) (fun f0 w0 ⟨j, o1, gm⟩ f w => f 3 = o1 ∧ f 6 = .int .i64 (j) ∧ f 1 = f0 1 ∧ f 2 = f0 2 ∧ f 4 = f0 4 ∧ f 5 = f0 5 ∧ Ext (fun k => k = g3m) w0 w ∧ OG byteF 5 w o1 gm (Cn.ctxB a.1 ++ (Cn.num a.2.length ++ (a.2.take k).flatMap Cn.itemB) ++ Cn.strB u.1 ++ (Cn.num u.2.length ++ (u.2.take j).flatMap Cn.markB)) ∧ j ≤ u.2.length ∧ (gm = g3m ∨ w0.heap.size ≤ gm) ∧ gm < w.heap.size) (fun ⟨j, o1, gm⟩ => u.2.length - j) (0, v3m, g3m) ?_ ?_
        ·
          refine ⟨s3_2, rfl, rfl, rfl, rfl, rfl, Ext.refl _ _, ((h41).lst (by simp)), ?_⟩
          exact ⟨Nat.zero_le _, .inl rfl, by omega⟩
        ·
          rintro ⟨j, o1, gm⟩ f_3 w26 ⟨s3_3, s6_3, s1_3, s2_3, s4_3, s5_3, e_3, r0_3, ⟨hj, hbgm, hcgm⟩⟩
          have z_3 := e_3.size
          have hfm := Cn.flatMap_take_le (f := Cn.markB) (b := 40) (l := u.2) (fun x _ => Cn.markB_le x) hj
          refine C.seqK fun K14 hK14 => ?_
          refine C.seqK fun K15 hK15 => ?_
          refine C.region ?_
          refine O.mv ?_
          refine O.fieldAd Tryz.underlying56 rfl Tryz.sizeOf54 (by decide) (Eq.trans s5_3 s5_2) ?_
          refine O.loadO Tryz.isAgg54 rfl ((hs8.keepM e_2 (by intro h; (try dsimp only at h); omega)).keepM e_3 (by intro h; (try dsimp only at h); omega)) rfl ?_
          refine O.len Tryz.underlying54 rfl ((((hm30.keep e7).keepM e8 (by intro k hk h; first | (have q1 := hF k hk; (try dsimp only at h); omega) | (have q1 := hF2 k hk; (try dsimp only at h); omega) | (have q1 := hFb k hk; (try dsimp only at h); omega) | ((try dsimp only at hk); (try dsimp only at h); omega))).keepM e_2 (by intro k hk h; have q1 := hF k hk; (try dsimp only at h); omega)).keepM e_3 (by intro k hk h; have q1 := hF k hk; (try dsimp only at h); omega)) ?_
          refine O.lssI s6_3 rfl ?_
          refine O.nil ?_
          refine hK15 _ _ ?_
          refine C.condD rfl (fun c46 => ?_) (fun c46 => ?_)
          ·
            have hj2 : j < u.2.length := by omega
            refine C.skip ?_
            refine hK14 _ _ ?_
            refine C.seqK fun K16 hK16 => ?_
            refine C.block fun K17 hK17 => ?_
            refine C.seqK fun K18 hK18 => ?_
            refine C.region ?_
            refine O.fieldAd Tryz.underlying56 rfl Tryz.sizeOf54 (by decide) (Eq.trans s5_3 s5_2) ?_
            refine O.loadO Tryz.isAgg54 rfl ((hs8.keepM e_2 (by intro h; (try dsimp only at h); omega)).keepM e_3 (by intro h; (try dsimp only at h); omega)) rfl ?_
            refine O.mv ?_
            refine O.idx Tryz.underlying54 Tryz.sizeOf53 rfl rfl ((((hm30.keep e7).keepM e8 (by intro k hk h; first | (have q1 := hF k hk; (try dsimp only at h); omega) | (have q1 := hF2 k hk; (try dsimp only at h); omega) | (have q1 := hFb k hk; (try dsimp only at h); omega) | ((try dsimp only at hk); (try dsimp only at h); omega))).keepM e_2 (by intro k hk h; have q1 := hF k hk; (try dsimp only at h); omega)).keepM e_3 (by intro k hk h; have q1 := hF k hk; (try dsimp only at h); omega)) s6_3 (by omega) (fun a52 h52 => ?_)
            refine O.loadG (G := markF) Tryz.isAgg53 Tryz.sizeOf53 rfl h52 ?_
            obtain ⟨m, hm⟩ : ∃ m : MarkT, m = u.2[j] := ⟨_, rfl⟩
            refine O.cast (v' := mv m) (by rw [hm]; rfl) ?_
            refine O.alloc Tryz.zeroValue53 (fun b7 w27 hb7 hz7 e27 => ?_)
            have z27 := e27.size
            have h7 := hz7.own
            have hl7 := h7.lt
            refine O.storeA (vs := [.int .i64 m.1.1, .int .i64 m.1.2, .int .i64 m.2.1, .int .u64 (m.2.2.toNat : Int)]) Tryz.sizeOf53 rfl rfl rfl (by simp [Value.oneCell']) h7 (Nat.le_of_ble_eq_true rfl) (fun w28 hs28 e28 z28 => ?_)
            refine O.nil ?_
            refine hK18 _ _ ?_
            refine C.seqK fun K19 hK19 => ?_
            refine C.region ?_
            refine O.fieldAd Tryz.underlying53 rfl Tryz.sizeOf51 (by decide) rfl ?_
            refine O.fieldAd Tryz.underlying51 rfl Tryz.sizeOf3 (by decide) rfl ?_
            refine O.loadO Tryz.isAgg3 rfl hs28 rfl ?_
            refine O.convIU (m' := 64) Tryz.underlying3 Tryz.underlying49 rfl rfl rfl ?_
            refine O.fieldAd Tryz.underlying53 rfl Tryz.sizeOf51 (by decide) rfl ?_
            refine O.fieldAd Tryz.underlying51 rfl Tryz.sizeOf3 (by decide) rfl ?_
            refine O.loadO Tryz.isAgg3 rfl hs28 rfl ?_
            refine O.convIU (m' := 64) Tryz.underlying3 Tryz.underlying49 rfl rfl rfl ?_
            refine O.fieldAd Tryz.underlying53 rfl Tryz.sizeOf3 (by decide) rfl ?_
            refine O.loadO Tryz.isAgg3 rfl hs28 rfl ?_
            refine O.convIU (m' := 64) Tryz.underlying3 Tryz.underlying49 rfl rfl rfl ?_
            refine O.fieldAd Tryz.underlying53 rfl Tryz.sizeOf49 (by decide) rfl ?_
            refine O.loadO Tryz.isAgg49 rfl hs28 rfl ?_
            refine O.litn [.int .u64 ((BitVec.ofInt 64 m.1.1).toNat : Int), .int .u64 ((BitVec.ofInt 64 m.1.2).toNat : Int), .int .u64 ((BitVec.ofInt 64 m.2.1).toNat : Int), .int .u64 (m.2.2.toNat : Int)] Tryz.underlying90 ti49 ts49 tz49 rfl (by decide) (by decide) rfl (by simp [Value.oneCell']) (fun b67 w29 hb67 hz67 e29 => ?_)
            have z29 := e29.size
            have h67 := hz67.own
            have hl67 := h67.lt
            obtain ⟨ys, hys⟩ : ∃ ys : List (BitVec 64), ys = [BitVec.ofInt 64 m.1.1, BitVec.ofInt 64 m.1.2, BitVec.ofInt 64 m.2.1, m.2.2] := ⟨_, rfl⟩
            have hy4 : ys.length = 4 := by rw [hys]; rfl
            have hq67 : Sl u64F.enc w29 (fun k => k = b67) (.slice (some ⟨b67, 0, none⟩) 4 4) ys := by
              rw [hys]
              exact Sl.of_own (G := u64F) h67 rfl (Nat.le_refl _) (by unfold maxLen; omega) (by simp [u64F])
            refine O.len Tryz.underlying90 rfl hq67 ?_
            refine O.mv ?_
            refine O.nil ?_
            refine hK19 _ _ ?_
            refine C.block fun K20 hK20 => ?_
            refine C.loop0 (σ := Nat × Value × Nat) (fun f0 w0 ⟨i, o2, gq⟩ f w => f 3 = o2 ∧ f 69 = .int .i64 (i) ∧ f 1 = f0 1 ∧ f 2 = f0 2 ∧ f 4 = f0 4 ∧ f 5 = f0 5 ∧ f 6 = f0 6 ∧ f 67 = f0 67 ∧ f 68 = f0 68 ∧ Ext (fun k => k = gm) w0 w ∧ OG byteF 5 w o2 gq (Cn.ctxB a.1 ++ (Cn.num a.2.length ++ (a.2.take k).flatMap Cn.itemB) ++ Cn.strB u.1 ++ (Cn.num u.2.length ++ (u.2.take j).flatMap Cn.markB) ++ (ys.take i).flatMap (fun x : BitVec 64 => Cn.num x.toNat)) ∧ i ≤ ys.length ∧ (gq = gm ∨ w0.heap.size ≤ gq) ∧ gq < w.heap.size) (fun ⟨i, o2, gq⟩ => ys.length - i) (0, o1, gm) ?_ ?_
            ·
              refine ⟨s3_3, rfl, rfl, rfl, rfl, rfl, rfl, rfl, rfl, Ext.refl _ _, (((((r0_3.keep e27).keepM e28 (by intro k hk h; (try dsimp only at h); omega)).keep e29)).lst (by simp)), ?_⟩
              exact ⟨Nat.zero_le _, .inl rfl, by omega⟩
            ·
              rintro ⟨i, o2, gq⟩ f_4 w30 ⟨s3_4, s69_4, s1_4, s2_4, s4_4, s5_4, s6_4, s67_4, s68_4, e_4, r0_4, ⟨hi, hbgq, hcgq⟩⟩
              have z_4 := e_4.size
              have hfi := Cn.flatMap_take_le (f := fun x : BitVec 64 => Cn.num x.toNat) (b := 10) (l := ys) (fun x _ => Cn.num_u x) hi
              refine C.seqK fun K21 hK21 => ?_
              refine C.region ?_
              refine O.lssI s69_4 s68_4 ?_
              refine O.nil ?_
              refine hK21 _ _ ?_
              refine C.seqK fun K22 hK22 => ?_
              refine C.condD rfl (fun c70 => ?_) (fun c70 => ?_)
              ·
                have hi2 : i < ys.length := by omega
                have hni := Cn.num_u ys[i]
                refine C.skip ?_
                refine hK22 _ _ ?_
                refine C.seqK fun K23 hK23 => ?_
                refine C.block fun K24 hK24 => ?_
                refine C.seqK fun K25 hK25 => ?_
                refine C.region ?_
                refine O.idx Tryz.underlying90 Tryz.sizeOf49 rfl s67_4 (hq67.keepM e_4 (by intro k hk h; (try dsimp only at hk); (try dsimp only at h); omega)) s69_4 (by omega) (fun a71 h71 => ?_)
                refine O.loadU64 Tryz.isAgg49 rfl h71 ?_
                refine O.asg ?_
                refine O.nil ?_
                refine hK25 _ _ ?_
                refine C.region ?_
                refine O.mv ?_
                refine O.mv ?_
                refine O.call Tryz.call33 (args1 rfl) (rnum_spec (ys[i]'hi2) _) ?_
                rintro v_75 w31 ⟨e31, h75⟩
                have z31 := e31.size
                have h75s := h75.sl
                refine O.appG (G := byteF) Tryz.underlying32 ti5 tz5 ts5 rfl s3_4 rfl (r0_4.keep e31) h75s (by rw [tb5]; (try simp only [List.length_append]); omega) (by unfold maxLen; (try simp only [List.length_append]); omega) (fun v76 gg76 w32 h76 hg76 e32 hw76 => ?_)
                have e32m := e32.mono (M' := fun k => k = _) (fun k _ hk => (r0_4.keep e31).2.1 k hk)
                have z32 := e32.size
                have hgl76 := h76.2.2
                refine O.asg ?_
                refine O.nil ?_
                refine hK24 _ _ ?_
                refine hK23 _ _ ?_
                refine C.region ?_
                refine O.addI s69_4 rfl (by unfold InI; omega) ?_
                refine O.mv ?_
                refine O.nil ?_
                refine ⟨(i + 1, _, _), ⟨rfl, rfl, s1_4, s2_4, s4_4, s5_4, s6_4, s67_4, s68_4, (Ext.new (Ext.new (Ext.new (Ext.refl _ _) e_4 (by intro i hi hk; first | exact hk.elim | ((try dsimp only at hk); (try dsimp only); omega))) e31 (by intro i hi hk; first | exact hk.elim | ((try dsimp only at hk); (try dsimp only); omega))) e32m (by intro i hi hk; first | exact hk.elim | ((try dsimp only at hk); (try dsimp only); omega))), ((h76).lst (by rw [Cn.flatMap_take _ hi2, List.append_assoc])), ?_⟩, by first | omega | (simp only []; omega)⟩
                exact ⟨by omega, by omega, by omega⟩
              ·
                have hi4 : i = ys.length := by omega
                refine C.exit ?_
                refine hK20 _ _ ?_
                refine hK17 _ _ ?_
                refine hK16 _ _ ?_
                refine C.region ?_
                refine O.mv ?_
                refine O.addI (Eq.trans s6_4 s6_3) rfl (by unfold InI; omega) ?_
                refine O.asg ?_
                refine O.nil ?_
                refine ⟨(j + 1, _, _), ⟨s3_4, rfl, (Eq.trans s1_4 s1_3), (Eq.trans s2_4 s2_3), (Eq.trans s4_4 s4_3), (Eq.trans s5_4 s5_3), (Ext.new (Ext.new (Ext.new (Ext.new (Ext.new (Ext.refl _ _) e_3 (by intro i hi hk; first | exact hk.elim | ((try dsimp only at hk); (try dsimp only); omega))) e27 (by intro i hi hk; first | exact hk.elim | ((try dsimp only at hk); (try dsimp only); omega))) e28 (by intro i hi hk; first | exact hk.elim | ((try dsimp only at hk); (try dsimp only); omega))) e29 (by intro i hi hk; first | exact hk.elim | ((try dsimp only at hk); (try dsimp only); omega))) e_4 (by intro i hi hk; first | exact hk.elim | ((try dsimp only at hk); (try dsimp only); omega))), ((r0_4).lst (by rw [Cn.flatMap_take _ hj2, ← hm, hi4, List.take_length, hys]; unfold Cn.markB Cn.u; simp)), ?_⟩, by first | omega | (simp only []; omega)⟩
                exact ⟨by omega, by omega, by omega⟩
          ·
            have hj3 : j = u.2.length := by omega
            refine C.exit ?_
            refine hK13 _ _ ?_
            refine hK9 _ _ ?_
            refine hK8 _ _ ?_
            refine C.region ?_
            refine O.mv ?_
            refine O.addI (Eq.trans s4_3 (Eq.trans s4_2 s4_1)) rfl (by unfold InI; omega) ?_
            refine O.asg ?_
            refine O.nil ?_
            refine ⟨(k + 1, _, _), ⟨s3_3, rfl, (Eq.trans s1_3 (Eq.trans s1_2 s1_1)), (Eq.trans s2_3 (Eq.trans s2_2 s2_1)), (Ext.new (Ext.new (Ext.new (Ext.new (Ext.new (Ext.refl _ _) e_1 (by intro i hi hk; first | exact hk.elim | ((try dsimp only at hk); (try dsimp only); omega))) e7 (by intro i hi hk; first | exact hk.elim | ((try dsimp only at hk); (try dsimp only); omega))) e8 (by intro i hi hk; first | exact hk.elim | ((try dsimp only at hk); (try dsimp only); omega))) e_2 (by intro i hi hk; first | exact hk.elim | ((try dsimp only at hk); (try dsimp only); omega))) e_3 (by intro i hi hk; first | exact hk.elim | ((try dsimp only at hk); (try dsimp only); omega))), ((r0_3).lst (by rw [Cn.flatMap_take _ hk2, ← hu, hj3, List.take_length]; unfold Cn.itemB; simp only [List.append_assoc])), ?_⟩, by first | omega | (simp only []; omega)⟩
            exact ⟨by omega, by omega, by omega⟩
    ·
      have hk3 : k = a.2.length := by omega
      refine C.exit ?_
      refine hK5 _ _ ?_
      refine hK3 _ _ ?_
      refine C.seqK fun K26 hK26 => ?_
      refine C.region ?_
      refine O.mv ?_
      refine O.asg ?_
      refine O.nil ?_
      refine hK26 _ _ ?_
      refine C.ret ?_
      refine Outs.one rfl s3_1 ?_
      exact ⟨(Ext.new (Ext.new (Ext.trans (Ext.trans (Ext.trans e1 e2) e3) e4) e5 (by intro i hi h; have := (h12.keep e4).bk_ge i h; omega)) e_1 (by rintro i hi rfl; omega)), ((r0_1).own (by omega)).lst (by rw [hk3, List.take_length]; rfl)⟩

end Go.Proofs.YtnkcmaoaagnopaaGreatDoor
