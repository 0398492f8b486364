/-
  The walks of carts' bytes. Conditions: slices as they lie in memory.
-/
import Derived.Test.YtnkcmaoaagnopaaGreatDoorC6
namespace Go.Proofs.YtnkcmaoaagnopaaGreatDoor
open Go.Pn Go.RowKit Go.Proofs
attribute [local irreducible] O C D

theorem seen_spec (bw g : Nat) (xs : List UInt8) (v1 v2 : Value) (x : Cn.Ctx) (F : Nat → Prop) (w : World) (hv : Sl Dt.dotF.enc w F v1 x.1) (hc : Sl Dt.dotF.enc w F v2 x.2) (hw : Wr 77 5 w bw g (xs)) (hx : xs.length ≤ 90000000000000) (hF : ∀ k, F k → k ≠ bw ∧ k ≠ g ∧ k < w.heap.size) (hn1 : x.1.length ≤ 1000000) (hn2 : x.2.length ≤ 1000000) :
    Ret Tryz.prog 38 #[.pointer (some ⟨bw, 0, none⟩), .agg #[v1, v2]] w (fun v w' => v = .tuple #[] ∧ ∃ g', Wr 77 5 w' bw g' (xs ++ (Cn.ctxB x)) ∧ (g' = g ∨ g' = bw ∨ w.heap.size ≤ g') ∧ (bw < w'.heap.size ∧ g' < w'.heap.size) ∧ Ext (fun k => k = bw ∨ k = g) w w') := by
  have hwl := hw.lt
  have hd1 := Cn.dotsB_le hn1
  refine enter (args := [.pointer (some ⟨bw, 0, none⟩), .agg #[v1, v2]]) (n := 14) Tryz.func38 rfl rfl (Nat.le_of_ble_eq_true rfl) ?_
  refine C.seqK fun K1 hK1 => ?_
  refine C.region ?_
  refine O.box (v := .pointer (some ⟨bw, 0, none⟩)) rfl (fun b2 w1 hb2 hz2 e1 => ?_)
  have z1 := e1.size
  have h2 := hz2.own
  have hl2 := h2.lt
  refine O.box (v := .agg #[v1, v2]) rfl (fun b3 w2 hb3 hz3 e2 => ?_)
  have z2 := e2.size
  have h3 := hz3.own
  have hl3 := h3.lt
  refine O.nil ?_
  refine hK1 _ _ ?_
  refine C.seqK fun K2 hK2 => ?_
  refine C.region ?_
  refine O.makeF (v1 := []) rfl rfl ?_
  refine O.asg ?_
  refine O.nil ?_
  refine hK2 _ _ ?_
  refine C.seqK fun K3 hK3 => ?_
  refine C.region ?_
  refine O.mv ?_
  refine O.fieldAd Tryz.underlying25 rfl Tryz.sizeOf23 (by decide) rfl ?_
  refine O.loadO Tryz.isAgg23 rfl h3 rfl ?_
  refine O.callV (vs := [v1]) Tryz.call59 rfl (args1 rfl) (seen1_spec v1 x.1 F b2 bw g xs _ ((hv.keep e1).keep e2) (h2.keep e2) ((hw.keep e1).keep e2) (by omega) (fun k hk => by have q1 := hF k hk; omega) (by omega) hn1) ?_
  rintro v_9 w3 ⟨rfl, gv9, hv9, hgv9, hlv9, e3⟩
  have z3 := e3.size
  refine O.nil ?_
  refine hK3 _ _ ?_
  refine C.region ?_
  refine O.mv ?_
  refine O.fieldAd Tryz.underlying25 rfl Tryz.sizeOf22 (by decide) rfl ?_
  refine O.loadO Tryz.isAgg22 rfl (h3.keepM e3 (by intro h; (try dsimp only at h); omega)) rfl ?_
  refine O.callV (vs := [v2]) Tryz.call59 rfl (args1 rfl) (seen1_spec v2 x.2 F b2 bw gv9 _ _ (((hc.keep e1).keep e2).keepM e3 (by intro k hk h; have q1 := hF k hk; (try dsimp only at h); omega)) ((h2.keep e2).keepM e3 (by intro h; (try dsimp only at h); omega)) hv9 (by simp only [List.length_append]; omega) (fun k hk => by have q1 := hF k hk; omega) (by omega) hn2) ?_
  rintro v_13 w4 ⟨rfl, gv13, hv13, hgv13, hlv13, e4⟩
  have z4 := e4.size
  refine O.nil ?_
  refine Outs.none rfl ?_
  refine ⟨rfl, gv13, hv13.lst ?_, by omega, hlv13, (Ext.new (Ext.new (Ext.new (Ext.new (Ext.refl _ _) e1 (by intro i hi hk; first | exact hk.elim | ((try dsimp only at hk); (try dsimp only); omega))) e2 (by intro i hi hk; first | exact hk.elim | ((try dsimp only at hk); (try dsimp only); omega))) e3 (by intro i hi hk; first | exact hk.elim | ((try dsimp only at hk); (try dsimp only); omega))) e4 (by intro i hi hk; first | exact hk.elim | ((try dsimp only at hk); (try dsimp only); omega)))⟩
  unfold Cn.ctxB
  rw [List.append_assoc]


theorem arr_get (ys : List (BitVec 64)) (i : Nat) (h : i < ys.length) : (ys.map fun x => Value.int .u64 (x.toNat : Int))[((i : Nat) : Int).toNat]? = some (.int .u64 (ys[i].toNat : Int)) := by
  rw [Int.toNat_natCast, List.getElem?_map, List.getElem?_eq_getElem h]
  rfl

set_option maxHeartbeats 4000000 in
theorem whole_spec (bw g : Nat) (xs : List UInt8) (va1 va2 va3 : Value) (a : Cn.Cart) (F : Nat → Prop) (w : World) (hav : Sl Dt.dotF.enc w F va1 a.1.1) (hac : Sl Dt.dotF.enc w F va2 a.1.2) (hai : Sl itemE w F va3 a.2) (hw : Wr 77 5 w bw g (xs)) (hx : xs.length ≤ 1000000) (hF : ∀ k, F k → k ≠ bw ∧ k ≠ g ∧ k < w.heap.size) (hn : a.2.length ≤ 1000000) (hS : ∀ x ∈ a.2, x.1.length ≤ 1000000 ∧ x.2.length ≤ 1000000) (hn1 : a.1.1.length ≤ 1000000) (hn2 : a.1.2.length ≤ 1000000) :
    Ret Tryz.prog 51 #[.pointer (some ⟨bw, 0, none⟩), .agg #[va1, va2, va3]] w (fun v w' => v = .tuple #[] ∧ ∃ g', Wr 77 5 w' bw g' (xs ++ (Cn.bytes a)) ∧ (g' = g ∨ g' = bw ∨ w.heap.size ≤ g') ∧ (bw < w'.heap.size ∧ g' < w'.heap.size) ∧ Ext (fun k => k = bw ∨ k = g) w w') := by
  have hwl := hw.lt
  have hle := hai.le
  have hd1 := Cn.dotsB_le hn1
  have hd2 := Cn.dotsB_le hn2
  have hcl : (Cn.ctxB a.1).length ≤ 40000020 := by unfold Cn.ctxB; rw [List.length_append]; omega
  have hnl := Cn.num_le a.2.length (by omega)
  refine enter (args := [.pointer (some ⟨bw, 0, none⟩), .agg #[va1, va2, va3]]) (n := 67) Tryz.func51 rfl rfl (Nat.le_of_ble_eq_true rfl) ?_
  refine C.seqK fun K1 hK1 => ?_
  refine C.region ?_
  refine O.box (v := .agg #[va1, va2, va3]) rfl (fun b3 w1 hb3 hz3 e1 => ?_)
  have z1 := e1.size
  have h3 := hz3.own
  have hl3 := h3.lt
  refine O.nil ?_
  refine hK1 _ _ ?_
  refine C.seqK fun K2 hK2 => ?_
  refine C.region ?_
  refine O.mv ?_
  refine O.fieldAd Tryz.underlying28 rfl Tryz.sizeOf25 (by decide) rfl ?_
  refine O.loadOA Tryz.isAgg25 Tryz.sizeOf25 rfl h3 (Nat.le_of_ble_eq_true rfl) ?_
  refine O.call Tryz.call38 (args2 rfl rfl) (seen_spec bw g xs va1 va2 a.1 F _ (hav.keep e1) (hac.keep e1) (hw.keep e1) (by omega) (fun k hk => by have q1 := hF k hk; omega) hn1 hn2) ?_
  rintro v_13 w2 ⟨rfl, gv13, hv13, hgv13, hlv13, e2⟩
  have z2 := e2.size
  refine O.nil ?_
  refine hK2 _ _ ?_
  refine C.seqK fun K3 hK3 => ?_
  refine C.region ?_
  refine O.mv ?_
  refine O.fieldAd Tryz.underlying28 rfl Tryz.sizeOf26 (by decide) rfl ?_
  refine O.loadO Tryz.isAgg26 rfl (h3.keepM e2 (by intro h; (try dsimp only at h); omega)) rfl ?_
  refine O.len Tryz.underlying26 rfl ((hai.keep e1).keepM e2 (by intro k hk h; have q1 := hF k hk; (try dsimp only at h); omega)) ?_
  refine O.convIU (m' := 64) Tryz.underlying3 Tryz.underlying49 rfl rfl rfl ?_
  refine O.call Tryz.call60 (args2 rfl rfl) (wnum_spec bw gv13 _ (BitVec.ofInt 64 (a.2.length : Int)) _ hv13 (by simp only [List.length_append]; omega)) ?_
  rintro v_19 w3 ⟨rfl, gv19, hv19, hgv19, hlv19, e3⟩
  have z3 := e3.size
  rw [Cn.u_def, Cn.u_nat (by omega)] at hv19
  refine O.nil ?_
  refine hK3 _ _ ?_
  refine C.seqK fun K4 hK4 => ?_
  refine C.region ?_
  refine O.fieldAd Tryz.underlying28 rfl Tryz.sizeOf26 (by decide) rfl ?_
  refine O.loadO Tryz.isAgg26 rfl ((h3.keepM e2 (by intro h; (try dsimp only at h); omega)).keepM e3 (by intro h; (try dsimp only at h); omega)) rfl ?_
  refine O.len Tryz.underlying26 rfl (((hai.keep e1).keepM e2 (by intro k hk h; have q1 := hF k hk; (try dsimp only at h); omega)).keepM e3 (by intro k hk h; have q1 := hF k hk; (try dsimp only at h); omega)) ?_
  refine O.mv ?_
  refine O.nil ?_
  refine hK4 _ _ ?_
  refine C.block fun K5 hK5 => ?_
  refine C.loop0 (σ := Nat × Nat) (fun f0 w0 ⟨k, gl⟩ f w => f 23 = .int .i64 (k) ∧ f 0 = f0 0 ∧ f 21 = f0 21 ∧ f 22 = f0 22 ∧ Ext (fun k => k = bw ∨ k = gv19) w0 w ∧ Wr 77 5 w bw gl (xs ++ (Cn.ctxB a.1 ++ (Cn.num a.2.length ++ (a.2.take k).flatMap Cn.itemB))) ∧ k ≤ a.2.length ∧ (gl = gv19 ∨ gl = bw ∨ w0.heap.size ≤ gl) ∧ bw < w.heap.size ∧ gl < w.heap.size) (fun ⟨k, gl⟩ => a.2.length - k) (0, gv19) ?_ ?_
  ·
    refine ⟨rfl, rfl, rfl, rfl, Ext.refl _ _, (hv19.lst (by simp)), ?_⟩
    exact ⟨Nat.zero_le _, .inl rfl, by omega, by omega⟩
  ·
    rintro ⟨k, gl⟩ f_1 w4 ⟨s23_1, s0_1, s21_1, s22_1, e_1, r0_1, ⟨hkk, hgk, hgbk, hgck⟩⟩
    have z_1 := e_1.size
    have hfl := Cn.flatMap_take_le (f := Cn.itemB) (b := 41000020) (l := a.2) (fun x hx => Cn.itemB_le (hS x hx)) hkk
    refine C.seqK fun K6 hK6 => ?_
    refine C.region ?_
    refine O.lssI s23_1 s22_1 ?_
    refine O.nil ?_
    refine hK6 _ _ ?_
    refine C.seqK fun K7 hK7 => ?_
    refine C.condD rfl (fun c24 => ?_) (fun c24 => ?_)
    ·
      have hk2 : k < a.2.length := by omega
      refine C.skip ?_
      refine hK7 _ _ ?_
      refine C.seqK fun K8 hK8 => ?_
      refine C.block fun K9 hK9 => ?_
      refine C.seqK fun K10 hK10 => ?_
      refine C.region ?_
      refine O.idx Tryz.underlying26 Tryz.sizeOf56 rfl s21_1 ((((hai.keep e1).keepM e2 (by intro k hk h; have q1 := hF k hk; (try dsimp only at h); omega)).keepM e3 (by intro k hk h; have q1 := hF k hk; (try dsimp only at h); omega)).keepM e_1 (by intro k hk h; have q1 := hF k hk; (try dsimp only at h); omega)) s23_1 (by omega) (fun a25 h25 => ?_)
      refine O.loadE (E := itemE) Tryz.isAgg56 Tryz.sizeOf56 rfl rfl h25 (fun cs26 hcs26 => ?_)
      obtain ⟨vm26, rfl, hm26⟩ := hcs26
      obtain ⟨u, hu⟩ : ∃ u : ItemT, u = a.2[k] := ⟨_, rfl⟩
      have hSu := hS u (by rw [hu]; exact List.getElem_mem _)
      refine O.cast (v' := .agg #[str u.1, vm26]) (by rw [hu]; rfl) ?_
      have hm26 : Sl markF.enc w4 F vm26 u.2 := by rw [hu]; exact hm26
      refine O.alloc Tryz.zeroValue56 (fun b5 w5 hb5 hz5 e5 => ?_)
      have z5 := e5.size
      have h5 := hz5.own
      have hl5 := h5.lt
      refine O.storeA (vs := [str u.1, vm26]) Tryz.sizeOf56 rfl rfl rfl (ones2 hm26.oneC) h5 (Nat.le_of_ble_eq_true rfl) (fun w6 hs6 e6 z6 => ?_)
      refine O.nil ?_
      refine hK10 _ _ ?_
      refine C.seqK fun K11 hK11 => ?_
      refine C.region ?_
      refine O.mv ?_
      refine O.fieldAd Tryz.underlying56 rfl Tryz.sizeOf9 (by decide) rfl ?_
      refine O.loadO Tryz.isAgg9 rfl hs6 rfl ?_
      refine O.call Tryz.call75 (args2 s0_1 rfl) (wstr_spec bw gl _ u.1 _ ((r0_1.keep e5).keepM e6 (by intro k hk h; (try dsimp only at h); omega)) (by simp only [List.length_append]; omega) (by omega)) ?_
      rintro v_30 w7 ⟨rfl, gv30, hv30, hgv30, hlv30, e7⟩
      have z7 := e7.size
      have hsl30 : (Cn.strB u.1).length ≤ 1000010 := by have := Cn.num_le u.1.length (by omega); unfold Cn.strB; rw [List.length_append]; omega
      refine O.nil ?_
      refine hK11 _ _ ?_
      refine C.seqK fun K12 hK12 => ?_
      refine C.region ?_
      refine O.mv ?_
      refine O.fieldAd Tryz.underlying56 rfl Tryz.sizeOf54 (by decide) rfl ?_
      refine O.loadO Tryz.isAgg54 rfl (hs6.keepM e7 (by intro h; (try dsimp only at h); omega)) rfl ?_
      refine O.len Tryz.underlying54 rfl (((hm26.keep e5).keepM e6 (by intro k hk h; first | (have q1 := hF k hk; (try dsimp only at h); omega) | (have q1 := hF2 k hk; (try dsimp only at h); omega) | (have q1 := hFb k hk; (try dsimp only at h); omega) | ((try dsimp only at hk); (try dsimp only at h); omega))).keepM e7 (by intro k hk h; have q1 := hF k hk; (try dsimp only at h); omega)) ?_
      refine O.convIU (m' := 64) Tryz.underlying3 Tryz.underlying49 rfl rfl rfl ?_
      refine O.call Tryz.call60 (args2 s0_1 rfl) (wnum_spec bw gv30 _ (BitVec.ofInt 64 (u.2.length : Int)) _ hv30 (by simp only [List.length_append]; omega)) ?_
      rintro v_36 w8 ⟨rfl, gv36, hv36, hgv36, hlv36, e8⟩
      have z8 := e8.size
      have hnl36 := Cn.num_le u.2.length (by omega)
      rw [Cn.u_def, Cn.u_nat (by omega)] at hv36
      refine O.nil ?_
      refine hK12 _ _ ?_
      refine C.seqK fun K13 hK13 => ?_
      refine C.region ?_
      refine O.fieldAd Tryz.underlying56 rfl Tryz.sizeOf54 (by decide) rfl ?_
      refine O.loadO Tryz.isAgg54 rfl ((hs6.keepM e7 (by intro h; (try dsimp only at h); omega)).keepM e8 (by intro h; (try dsimp only at h); omega)) rfl ?_
      refine O.len Tryz.underlying54 rfl ((((hm26.keep e5).keepM e6 (by intro k hk h; first | (have q1 := hF k hk; (try dsimp only at h); omega) | (have q1 := hF2 k hk; (try dsimp only at h); omega) | (have q1 := hFb k hk; (try dsimp only at h); omega) | ((try dsimp only at hk); (try dsimp only at h); omega))).keepM e7 (by intro k hk h; have q1 := hF k hk; (try dsimp only at h); omega)).keepM e8 (by intro k hk h; have q1 := hF k hk; (try dsimp only at h); omega)) ?_
      refine O.mv ?_
      refine O.nil ?_
      refine hK13 _ _ ?_
      refine C.block fun K14 hK14 => ?_
      refine C.loop0 (σ := Nat × Nat) (fun f0 w0 ⟨j, gm⟩ f w => f 40 = .int .i64 (j) ∧ f 0 = f0 0 ∧ f 21 = f0 21 ∧ f 22 = f0 22 ∧ f 23 = f0 23 ∧ f 38 = f0 38 ∧ f 39 = f0 39 ∧ Ext (fun k => k = bw ∨ k = gv36) w0 w ∧ Wr 77 5 w bw gm (xs ++ (Cn.ctxB a.1 ++ (Cn.num a.2.length ++ (a.2.take k).flatMap Cn.itemB)) ++ Cn.strB u.1 ++ (Cn.num u.2.length ++ (u.2.take j).flatMap Cn.markB)) ∧ j ≤ u.2.length ∧ (gm = gv36 ∨ gm = bw ∨ w0.heap.size ≤ gm) ∧ bw < w.heap.size ∧ gm < w.heap.size) (fun ⟨j, gm⟩ => u.2.length - j) (0, gv36) ?_ ?_
      ·
        refine ⟨rfl, rfl, rfl, rfl, rfl, rfl, rfl, Ext.refl _ _, (hv36.lst (by simp)), ?_⟩
        exact ⟨Nat.zero_le _, .inl rfl, by omega, by omega⟩
      ·
        rintro ⟨j, gm⟩ f_2 w9 ⟨s40_2, s0_2, s21_2, s22_2, s23_2, s38_2, s39_2, e_2, r0_2, ⟨hkj, hgj, hgbj, hgcj⟩⟩
        have z_2 := e_2.size
        have hfm := Cn.flatMap_take_le (f := Cn.markB) (b := 40) (l := u.2) (fun x _ => Cn.markB_le x) hkj
        refine C.seqK fun K15 hK15 => ?_
        refine C.region ?_
        refine O.lssI s40_2 s39_2 ?_
        refine O.nil ?_
        refine hK15 _ _ ?_
        refine C.seqK fun K16 hK16 => ?_
        refine C.condD rfl (fun c41 => ?_) (fun c41 => ?_)
        ·
          have hj2 : j < u.2.length := by omega
          refine C.skip ?_
          refine hK16 _ _ ?_
          refine C.seqK fun K17 hK17 => ?_
          refine C.block fun K18 hK18 => ?_
          refine C.seqK fun K19 hK19 => ?_
          refine C.region ?_
          refine O.idx Tryz.underlying54 Tryz.sizeOf53 rfl s38_2 (((((hm26.keep e5).keepM e6 (by intro k hk h; first | (have q1 := hF k hk; (try dsimp only at h); omega) | (have q1 := hF2 k hk; (try dsimp only at h); omega) | (have q1 := hFb k hk; (try dsimp only at h); omega) | ((try dsimp only at hk); (try dsimp only at h); omega))).keepM e7 (by intro k hk h; have q1 := hF k hk; (try dsimp only at h); omega)).keepM e8 (by intro k hk h; have q1 := hF k hk; (try dsimp only at h); omega)).keepM e_2 (by intro k hk h; have q1 := hF k hk; (try dsimp only at h); omega)) s40_2 (by omega) (fun a42 h42 => ?_)
          refine O.loadG (G := markF) Tryz.isAgg53 Tryz.sizeOf53 rfl h42 ?_
          obtain ⟨m, hm⟩ : ∃ m : MarkT, m = u.2[j] := ⟨_, rfl⟩
          refine O.cast (v' := mv m) (by rw [hm]; rfl) ?_
          refine O.alloc Tryz.zeroValue53 (fun b7 w10 hb7 hz7 e10 => ?_)
          have z10 := e10.size
          have h7 := hz7.own
          have hl7 := h7.lt
          refine O.storeA (vs := [.int .i64 m.1.1, .int .i64 m.1.2, .int .i64 m.2.1, .int .u64 (m.2.2.toNat : Int)]) Tryz.sizeOf53 rfl rfl rfl (by simp [Value.oneCell']) h7 (Nat.le_of_ble_eq_true rfl) (fun w11 hs11 e11 z11 => ?_)
          refine O.nil ?_
          refine hK19 _ _ ?_
          refine C.seqK fun K20 hK20 => ?_
          refine C.region ?_
          refine O.fieldAd Tryz.underlying53 rfl Tryz.sizeOf51 (by decide) rfl ?_
          refine O.fieldAd Tryz.underlying51 rfl Tryz.sizeOf3 (by decide) rfl ?_
          refine O.loadO Tryz.isAgg3 rfl hs11 rfl ?_
          refine O.convIU (m' := 64) Tryz.underlying3 Tryz.underlying49 rfl rfl rfl ?_
          refine O.fieldAd Tryz.underlying53 rfl Tryz.sizeOf51 (by decide) rfl ?_
          refine O.fieldAd Tryz.underlying51 rfl Tryz.sizeOf3 (by decide) rfl ?_
          refine O.loadO Tryz.isAgg3 rfl hs11 rfl ?_
          refine O.convIU (m' := 64) Tryz.underlying3 Tryz.underlying49 rfl rfl rfl ?_
          refine O.fieldAd Tryz.underlying53 rfl Tryz.sizeOf3 (by decide) rfl ?_
          refine O.loadO Tryz.isAgg3 rfl hs11 rfl ?_
          refine O.convIU (m' := 64) Tryz.underlying3 Tryz.underlying49 rfl rfl rfl ?_
          refine O.fieldAd Tryz.underlying53 rfl Tryz.sizeOf49 (by decide) rfl ?_
          refine O.loadO Tryz.isAgg49 rfl hs11 rfl ?_
          refine O.build (cells := #[.int .u64 ((BitVec.ofInt 64 m.1.1).toNat : Int), .int .u64 ((BitVec.ofInt 64 m.1.2).toNat : Int), .int .u64 ((BitVec.ofInt 64 m.2.1).toNat : Int), .int .u64 (m.2.2.toNat : Int)]) rfl (by kernel_rfl) ?_
          obtain ⟨ys, hys⟩ : ∃ ys : List (BitVec 64), ys = [BitVec.ofInt 64 m.1.1, BitVec.ofInt 64 m.1.2, BitVec.ofInt 64 m.2.1, m.2.2] := ⟨_, rfl⟩
          have hy4 : ys.length = 4 := by rw [hys]; rfl
          refine O.cast (v' := .agg (ys.map fun x => Value.int .u64 (x.toNat : Int)).toArray) (by rw [hys]; rfl) ?_
          refine O.mv ?_
          refine O.nil ?_
          refine hK20 _ _ ?_
          refine C.block fun K21 hK21 => ?_
          refine C.loop0 (σ := Nat × Nat) (fun f0 w0 ⟨i, gq⟩ f w => f 58 = .int .i64 (i) ∧ f 0 = f0 0 ∧ f 21 = f0 21 ∧ f 22 = f0 22 ∧ f 23 = f0 23 ∧ f 38 = f0 38 ∧ f 39 = f0 39 ∧ f 40 = f0 40 ∧ f 57 = f0 57 ∧ Ext (fun k => k = bw ∨ k = gm) w0 w ∧ Wr 77 5 w bw gq (xs ++ (Cn.ctxB a.1 ++ (Cn.num a.2.length ++ (a.2.take k).flatMap Cn.itemB)) ++ Cn.strB u.1 ++ (Cn.num u.2.length ++ (u.2.take j).flatMap Cn.markB) ++ (ys.take i).flatMap (fun x : BitVec 64 => Cn.num x.toNat)) ∧ i ≤ ys.length ∧ (gq = gm ∨ gq = bw ∨ w0.heap.size ≤ gq) ∧ bw < w.heap.size ∧ gq < w.heap.size) (fun ⟨i, gq⟩ => ys.length - i) (0, gm) ?_ ?_
          ·
            refine ⟨rfl, rfl, rfl, rfl, rfl, rfl, rfl, rfl, rfl, Ext.refl _ _, (((r0_2.keep e10).keepM e11 (by intro k hk h; (try dsimp only at h); omega)).lst (by simp)), ?_⟩
            exact ⟨Nat.zero_le _, .inl rfl, by omega, by omega⟩
          ·
            rintro ⟨i, gq⟩ f_3 w12 ⟨s58_3, s0_3, s21_3, s22_3, s23_3, s38_3, s39_3, s40_3, s57_3, e_3, r0_3, ⟨hki, hgi, hgbi, hgci⟩⟩
            have z_3 := e_3.size
            have hfi := Cn.flatMap_take_le (f := fun x : BitVec 64 => Cn.num x.toNat) (b := 10) (l := ys) (fun x _ => Cn.num_u x) hki
            refine C.seqK fun K22 hK22 => ?_
            refine C.region ?_
            refine O.lssI s58_3 rfl ?_
            refine O.nil ?_
            refine hK22 _ _ ?_
            refine C.seqK fun K23 hK23 => ?_
            refine C.condD rfl (fun c59 => ?_) (fun c59 => ?_)
            ·
              have hi2 : i < ys.length := by omega
              refine C.skip ?_
              refine hK23 _ _ ?_
              refine C.seqK fun K24 hK24 => ?_
              refine C.block fun K25 hK25 => ?_
              refine C.seqK fun K26 hK26 => ?_
              refine C.region ?_
              refine O.indexA Tryz.underlying116 Tryz.isAgg49 Tryz.sizeOf49 s57_3 s58_3 (by omega) (arr_get ys i (by omega)) ?_
              refine O.asg ?_
              refine O.nil ?_
              refine hK26 _ _ ?_
              refine C.region ?_
              refine O.mv ?_
              refine O.mv ?_
              refine O.call Tryz.call60 (args2 (Eq.trans s0_3 (Eq.trans s0_2 s0_1)) rfl) (wnum_spec bw gq _ ys[i] _ r0_3 (by simp only [List.length_append]; omega)) ?_
              rintro v_63 w13 ⟨rfl, gv63, hv63, hgv63, hlv63, e13⟩
              have z13 := e13.size
              refine O.nil ?_
              refine hK25 _ _ ?_
              refine hK24 _ _ ?_
              refine C.region ?_
              refine O.addI s58_3 rfl (by unfold InI; omega) ?_
              refine O.mv ?_
              refine O.nil ?_
              refine ⟨(i + 1, gv63), ⟨rfl, s0_3, s21_3, s22_3, s23_3, s38_3, s39_3, s40_3, s57_3, (Ext.new (Ext.new (Ext.refl _ _) e_3 (by intro i hi hk; first | exact hk.elim | ((try dsimp only at hk); (try dsimp only); omega))) e13 (by intro i hi hk; first | exact hk.elim | ((try dsimp only at hk); (try dsimp only); omega))), (hv63.lst (by rw [Cn.flatMap_take _ hi2, List.append_assoc])), ?_⟩, by first | omega | (simp only []; omega)⟩
              refine ⟨by omega, by omega, by omega, by omega⟩
            ·
              have hi4 : i = ys.length := by omega
              refine C.exit ?_
              refine hK21 _ _ ?_
              refine hK18 _ _ ?_
              refine hK17 _ _ ?_
              refine C.region ?_
              refine O.addI (Eq.trans s40_3 s40_2) rfl (by unfold InI; omega) ?_
              refine O.mv ?_
              refine O.nil ?_
              refine ⟨(j + 1, gq), ⟨rfl, (Eq.trans s0_3 s0_2), (Eq.trans s21_3 s21_2), (Eq.trans s22_3 s22_2), (Eq.trans s23_3 s23_2), (Eq.trans s38_3 s38_2), (Eq.trans s39_3 s39_2), (Ext.new (Ext.new (Ext.new (Ext.new (Ext.refl _ _) e_2 (by intro i hi hk; first | exact hk.elim | ((try dsimp only at hk); (try dsimp only); omega))) e10 (by intro i hi hk; first | exact hk.elim | ((try dsimp only at hk); (try dsimp only); omega))) e11 (by intro i hi hk; first | exact hk.elim | ((try dsimp only at hk); (try dsimp only); omega))) e_3 (by intro i hi hk; first | exact hk.elim | ((try dsimp only at hk); (try dsimp only); omega))), (r0_3.lst (by rw [Cn.flatMap_take _ hj2, ← hm, hi4, List.take_length, hys]; unfold Cn.markB Cn.u; simp)), ?_⟩, by first | omega | (simp only []; omega)⟩
              refine ⟨by omega, by omega, by omega, by omega⟩
        ·
          have hj3 : j = u.2.length := by omega
          refine C.exit ?_
          refine hK14 _ _ ?_
          refine hK9 _ _ ?_
          refine hK8 _ _ ?_
          refine C.region ?_
          refine O.addI (Eq.trans s23_2 s23_1) rfl (by unfold InI; omega) ?_
          refine O.mv ?_
          refine O.nil ?_
          refine ⟨(k + 1, gm), ⟨rfl, (Eq.trans s0_2 s0_1), (Eq.trans s21_2 s21_1), (Eq.trans s22_2 s22_1), (Ext.new (Ext.new (Ext.new (Ext.new (Ext.new (Ext.new (Ext.refl _ _) e_1 (by intro i hi hk; first | exact hk.elim | ((try dsimp only at hk); (try dsimp only); omega))) e5 (by intro i hi hk; first | exact hk.elim | ((try dsimp only at hk); (try dsimp only); omega))) e6 (by intro i hi hk; first | exact hk.elim | ((try dsimp only at hk); (try dsimp only); omega))) e7 (by intro i hi hk; first | exact hk.elim | ((try dsimp only at hk); (try dsimp only); omega))) e8 (by intro i hi hk; first | exact hk.elim | ((try dsimp only at hk); (try dsimp only); omega))) e_2 (by intro i hi hk; first | exact hk.elim | ((try dsimp only at hk); (try dsimp only); omega))), (r0_2.lst (by rw [Cn.flatMap_take _ hk2, ← hu, hj3, List.take_length]; unfold Cn.itemB; simp only [List.append_assoc])), ?_⟩, by first | omega | (simp only []; omega)⟩
          refine ⟨by omega, by omega, by omega, by omega⟩
    ·
      have hk3 : k = a.2.length := by omega
      refine C.exit ?_
      refine hK5 _ _ ?_
      refine Outs.none rfl ?_
      refine ⟨rfl, gl, r0_1.lst ?_, by omega, ⟨by omega, by omega⟩, (Ext.new (Ext.new (Ext.new (Ext.new (Ext.refl _ _) e1 (by intro i hi hk; first | exact hk.elim | ((try dsimp only at hk); (try dsimp only); omega))) e2 (by intro i hi hk; first | exact hk.elim | ((try dsimp only at hk); (try dsimp only); omega))) e3 (by intro i hi hk; first | exact hk.elim | ((try dsimp only at hk); (try dsimp only); omega))) e_1 (by intro i hi hk; first | exact hk.elim | ((try dsimp only at hk); (try dsimp only); omega)))⟩
      rw [hk3, List.take_length]
      rfl

end Go.Proofs.YtnkcmaoaagnopaaGreatDoor
