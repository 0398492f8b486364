/-
  The walks of floats: copies, lists in order, sums. Conditions: slices as they lie in memory.
-/
import Derived.Test.YtbadfphdniliaaaDoorFw10
import Derived.Test.YtbadfphdniliaaaDoorHold
import Derived.Test.YtbadfphdniliaaaDoorFl3
import Derived.Test.YtbadfphdniliaaaDoorShelf
import Derived.Test.YtbadfphdniliaaaDoorSortLay
namespace Go.Proofs.YtbadfphdniliaaaDoor
open Go.Pn Go.RowKit Go.Proofs


theorem blen_spec (w : World) : Ret Tryd.prog 45 #[.int .u64 ((0#64).toNat : Int)] w (fun v w' => (∃ k : Int, v = .int .i64 k) ∧ w' = w) := by
  refine Ret.of (Tryd.bits_Len 0 w (by decide) (by decide)) ?_
  rintro e w' ⟨rfl, rfl⟩
  exact ⟨_, rfl, ⟨_, rfl⟩, rfl⟩

theorem ins0_spec (w : World) :
    Ret Tryd.prog 54 #[.slice none 0 0, .int .i64 (0), .int .i64 (0), .func (.func 15) #[] #[]] w (fun v w' => v = .tuple #[] ∧ w' = w) := by
  refine enter (args := [.slice none 0 0, .int .i64 (0), .int .i64 (0), .func (.func 15) #[] #[]]) (n := 53) Tryd.func54 rfl rfl (Nat.le_of_ble_eq_true rfl) ?_
  refine C.seqK fun K1 hK1 => ?_
  refine C.region ?_
  refine O.mv ?_
  refine O.addI rfl rfl (by unfold InI; omega) ?_
  refine O.cast (v' := .int .i64 (1)) rfl ?_
  refine O.asg ?_
  refine O.nil ?_
  refine hK1 _ _ ?_
  refine C.block fun K2 hK2 => ?_
  refine C.loop0 (σ := Nat) (fun f0 w0 z f w => f 8 = .int .i64 (1) ∧ f 0 = f0 0 ∧ f 1 = f0 1 ∧ f 2 = f0 2 ∧ f 3 = f0 3 ∧ w = w0) (fun z => z) 0 ?_ ?_
  ·
    exact ⟨rfl, rfl, rfl, rfl, rfl, rfl⟩
  ·
    rintro z f_1 wx ⟨s8_1, s0_1, s1_1, s2_1, s3_1, rfl⟩
    refine C.seqK fun K3 hK3 => ?_
    refine C.seqK fun K4 hK4 => ?_
    refine C.region ?_
    refine O.mv ?_
    refine O.mv ?_
    refine O.lssI s8_1 s2_1 ?_
    refine O.cast (v' := .bool false) rfl ?_
    refine O.nil ?_
    refine hK4 _ _ ?_
    refine C.condF rfl ?_
    refine C.exit ?_
    refine hK2 _ _ ?_
    refine Outs.none rfl ?_
    exact ⟨rfl, rfl⟩

theorem pdq0_spec (lim : Int) (w : World) :
    Ret Tryd.prog 44 #[.slice none 0 0, .int .i64 (0), .int .i64 (0), .int .i64 (lim), .func (.func 15) #[] #[]] w (fun v w' => v = .tuple #[] ∧ w' = w) := by
  refine enter (args := [.slice none 0 0, .int .i64 (0), .int .i64 (0), .int .i64 (lim), .func (.func 15) #[] #[]]) (n := 148) Tryd.func44 rfl rfl (Nat.le_of_ble_eq_true rfl) ?_
  refine C.seqK fun K1 hK1 => ?_
  refine C.region ?_
  refine O.asg ?_
  refine O.nil ?_
  refine hK1 _ _ ?_
  refine C.seqK fun K2 hK2 => ?_
  refine C.region ?_
  refine O.asg ?_
  refine O.nil ?_
  refine hK2 _ _ ?_
  refine C.block fun K3 hK3 => ?_
  refine C.loop0 (σ := Nat) (fun f0 w0 z f w => f 1 = .int .i64 (0) ∧ f 2 = .int .i64 (0) ∧ f 10 = .bool (true) ∧ f 11 = .bool (true) ∧ f 0 = f0 0 ∧ f 4 = f0 4 ∧ w = w0) (fun z => z) 0 ?_ ?_
  ·
    exact ⟨rfl, rfl, rfl, rfl, rfl, rfl, rfl⟩
  ·
    rintro z f_1 wx ⟨s1_1, s2_1, s10_1, s11_1, s0_1, s4_1, rfl⟩
    refine C.block fun K4 hK4 => ?_
    refine C.seqK fun K5 hK5 => ?_
    refine C.region ?_
    refine O.mv ?_
    refine O.mv ?_
    refine O.subI s2_1 s1_1 (by unfold InI; omega) ?_
    refine O.cast (v' := .int .i64 (0)) rfl ?_
    refine O.asg ?_
    refine O.nil ?_
    refine hK5 _ _ ?_
    refine C.seqK fun K6 hK6 => ?_
    refine C.seqK fun K7 hK7 => ?_
    refine C.region ?_
    refine O.mv ?_
    refine O.leqI rfl rfl ?_
    refine O.cast (v' := .bool true) rfl ?_
    refine O.nil ?_
    refine hK7 _ _ ?_
    refine C.condT rfl ?_
    refine C.seqK fun K8 hK8 => ?_
    refine C.region ?_
    refine O.mv ?_
    refine O.mv ?_
    refine O.mv ?_
    refine O.mv ?_
    refine O.call Tryd.call54 (args4 s0_1 s1_1 s2_1 s4_1) (ins0_spec _) ?_
    rintro v_30 w1 ⟨rfl, hw_⟩
    replace hw_ := hw_.symm
    subst hw_
    refine O.nil ?_
    refine hK8 _ _ ?_
    refine C.ret ?_
    refine Outs.none rfl ?_
    exact ⟨rfl, rfl⟩

theorem sort0_spec (w : World) :
    Ret Tryd.prog 38 #[.slice none 0 0, .func (.func 15) #[] #[]] w (fun v w' => v = .tuple #[] ∧ w' = w) := by
  refine enter (args := [.slice none 0 0, .func (.func 15) #[] #[]]) (n := 14) Tryd.func38 rfl rfl (Nat.le_of_ble_eq_true rfl) ?_
  refine C.seqK fun K1 hK1 => ?_
  refine C.region ?_
  refine O.mv ?_
  refine O.lenL Tryd.underlying35 rfl ?_
  refine O.cast (v' := .int .i64 0) rfl ?_
  refine O.asg ?_
  refine O.nil ?_
  refine hK1 _ _ ?_
  refine C.region ?_
  refine O.mv ?_
  refine O.mv ?_
  refine O.mv ?_
  refine O.convIU (m' := 64) Tryd.underlying3 Tryd.underlying63 rfl rfl rfl ?_
  refine O.cast (v' := .int .u64 ((0#64).toNat : Int)) rfl ?_
  refine O.call Tryd.call45 (args1 rfl) (blen_spec _) ?_
  rintro v_11 w1 ⟨⟨kv11, rfl⟩, rfl⟩
  refine O.mv ?_
  refine O.call Tryd.call44 (args5 rfl rfl rfl rfl rfl) (pdq0_spec _ _) ?_
  rintro v_13 w1 ⟨rfl, hw_⟩
  replace hw_ := hw_.symm
  subst hw_
  refine O.nil ?_
  refine Outs.none rfl ?_
  exact ⟨rfl, rfl⟩


theorem swoF : Go.Sort.SWO (ltOf Fl.cmp) where
  irrefl x := by unfold ltOf; exact decide_eq_false (by rw [Fl.cmp_self]; decide)
  trans x y z h1 h2 := by
    unfold ltOf at *
    simp only [decide_eq_true_eq] at *
    rw [Fl.cmp_lt_iff] at *
    rw [BitVec.lt_def] at *
    omega
  ntrans x y z h1 h2 := by
    unfold ltOf at *
    simp only [decide_eq_false_iff_not] at *
    rw [Fl.cmp_lt_iff] at *
    rw [BitVec.lt_def] at *
    omega
theorem sortF_spec (v : Value) (l : List (BitVec 64)) (B : Nat) (w : World) (h : OwnF flF 23 B w v l) (hn : l.length ≤ 1000000) :
    Ret Tryd.prog 38 #[v, .func (.func 15) #[] #[]] w (fun r w' => r = .tuple #[] ∧ OwnF flF 23 B w' v (Fl.sorted l) ∧ Ext (bk v) w w') := by
  rcases h.1.2 with ⟨rfl, h0⟩ | ⟨g, cap, cur, rfl, _⟩
  · obtain rfl : l = [] := List.eq_nil_of_length_eq_zero h0
    refine (sort0_spec w).mono ?_
    rintro e w' ⟨rfl, rfl⟩
    exact ⟨rfl, h, Ext.refl _ _⟩
  · obtain ⟨hH, hlt⟩ := h.holds (enc := fl) rfl (fun _ => rfl)
    have eg : ∀ args w, (callFunc 15 args).run Tryd.prog w = .ok (.enter 15 args) w := enters_of Tryd.func15 (by kernel_rfl) rfl
    have hcmp : CmpReads Tryd.prog 15 #[] fl Fl.cmp g 0 l.toArray.size w := fun m os dk hs x y =>
      (cmp_spec x y _).calls.mono fun e w' ⟨v, he, hv, hw⟩ => ⟨by rw [he, hv], 0, hw⟩
    have hs : l.toArray.size < 4611686018427387904 := by simp; omega
    have hcon := Any.slices_SortFunc Tryd.sortF fl (fun _ => rfl) Fl.cmp swoF 15 #[] g 0 cap l.toArray w eg hcmp.lays hH hlt hs
    refine Ret.of hcon ?_
    rintro e w' ⟨rfl, d', m, os, hp, hso, rfl⟩
    obtain ⟨hd, _, hperm⟩ := hp
    have hd2 : d'.size = l.length := by simpa using hd
    obtain ⟨h1, h2⟩ := h.sorted (enc := fl) rfl (fun _ => rfl) hd2 m os
    have hq : d'.toList = Fl.sorted l := by
      refine Fl.sorted_of_asc ?_ ?_
      · have e1 : (l.toArray.extract 0 l.toArray.size).toList = l := by simp
        have e2 : (d'.extract 0 l.toArray.size).toList = d'.toList := by rw [← hd]; simp
        rw [e1, e2] at hperm
        exact hperm
      · unfold Fl.Asc
        rw [List.pairwise_iff_getElem]
        intro i j hi hj hij
        have hi2 : i < d'.size := by simpa using hi
        have hj2 : j < d'.size := by simpa using hj
        have h3 := hso i j (Nat.zero_le _) hij (by simpa [hd2] using hj)
        unfold ltOf at h3
        simp only [decide_eq_false_iff_not] at h3
        rw [Fl.cmp_lt_iff, getElem!_pos d' i hi2, getElem!_pos d' j hj2, BitVec.lt_def] at h3
        rw [BitVec.le_def]
        simp only [Array.getElem_toList]
        omega
    rw [hq] at h1
    exact ⟨_, rfl, rfl, h1, h2.mono fun k _ hk => hk⟩

theorem clone_spec (v0 : Value) (l : List (BitVec 64)) (F : Nat → Prop) (w : World) (hl : Sl flE w F v0 l) (hn : l.length ≤ 1000000) :
    Ret Tryd.prog 37 #[v0] w (fun v w' => Le w w' ∧ OwnF flF 23 w.heap.size w' v l) := by
  have hle := hl.le
  obtain ⟨ie23, hi23, hs23, hb23, hz23⟩ := inf23
  refine enter (args := [v0]) (n := 8) Tryd.func37 rfl rfl (Nat.le_of_ble_eq_true rfl) ?_
  refine C.seqK fun K1 hK1 => ?_
  refine C.region ?_
  refine O.asg ?_
  refine O.nil ?_
  refine hK1 _ _ ?_
  refine C.seqK fun K2 hK2 => ?_
  refine C.seqK fun K3 hK3 => ?_
  refine C.region ?_
  refine O.mv ?_
  refine O.eqlNilS Tryd.underlying35 rfl hl ?_
  refine O.nil ?_
  refine hK3 _ _ ?_
  refine C.cond rfl (fun c4 => ?_) (fun c4 => ?_)
  ·
    refine C.seqK fun K4 hK4 => ?_
    refine C.region ?_
    refine O.asg ?_
    refine O.nil ?_
    refine hK4 _ _ ?_
    refine C.ret ?_
    refine Outs.one rfl rfl ?_
    first
    | (obtain rfl := isNilS_nil hl c4
       exact ⟨(Le.refl _), OwnF.nil _ _ _ _⟩)
    | exact ⟨(Le.refl _), {app:7}⟩
  ·
    refine C.skip ?_
    refine hK2 _ _ ?_
    refine C.seqK fun K5 hK5 => ?_
    refine C.region ?_
    refine O.lit0 Tryd.underlying35 hi23 (fun b5 w1 hb5 hz5 e1 => ?_)
    have z1 := e1.size
    have h5 := hz5.own
    have hl5 := h5.lt
    have h1005 : OwnF flF 23 w.heap.size w1 _ [] := OwnF.lit0 hz5 hb5
    refine O.mv ?_
    refine O.appF (G := flF) Tryd.underlying35 hi23 hz23 hs23 rfl rfl rfl h1005 (hl.keep e1) (by rw [hb23]; simp; omega) (by unfold maxLen; simp; omega) (by omega) (fun v7 w2 h7 e2 => ?_)
    have z2 := e2.size
    have h7s := h7.sl
    refine O.asg ?_
    refine O.nil ?_
    refine hK5 _ _ ?_
    refine C.ret ?_
    refine Outs.one rfl rfl ?_
    first
    | (obtain rfl := isNilS_nil hl c4
       exact ⟨(Ext.new e1 e2 (by intro i hi h; have := h1005.bk_ge i h; omega)), OwnF.nil _ _ _ _⟩)
    | exact ⟨(Ext.new e1 e2 (by intro i hi h; have := h1005.bk_ge i h; omega)), h7⟩

theorem fsorted_spec (v0 : Value) (l : List (BitVec 64)) (F : Nat → Prop) (w : World) (hl : Sl flE w F v0 l) (hn : l.length ≤ 1000000) :
    Ret Tryd.prog 22 #[v0] w (fun v w' => Le w w' ∧ OwnF flF 23 w.heap.size w' v (Fl.sorted l)) := by
  refine enter (args := [v0]) (n := 9) Tryd.func22 rfl rfl (Nat.le_of_ble_eq_true rfl) ?_
  refine C.seqK fun K1 hK1 => ?_
  refine C.region ?_
  refine O.asg ?_
  refine O.nil ?_
  refine hK1 _ _ ?_
  refine C.seqK fun K2 hK2 => ?_
  refine C.region ?_
  refine O.mv ?_
  refine O.call Tryd.call37 (args1 rfl) (clone_spec _ _ _ _ hl hn) ?_
  rintro v_5 w1 ⟨e1, h5⟩
  have z1 := e1.size
  refine O.asg ?_
  refine O.nil ?_
  refine hK2 _ _ ?_
  refine C.seqK fun K3 hK3 => ?_
  refine C.region ?_
  refine O.mv ?_
  refine O.call Tryd.call38 (args2 rfl rfl) (sortF_spec _ _ _ _ h5 hn) ?_
  rintro v_7 w2 ⟨rfl, h7, e2⟩
  have z2 := e2.size
  refine O.nil ?_
  refine hK3 _ _ ?_
  refine C.seqK fun K4 hK4 => ?_
  refine C.region ?_
  refine O.mv ?_
  refine O.asg ?_
  refine O.nil ?_
  refine hK4 _ _ ?_
  refine C.ret ?_
  refine Outs.one rfl rfl ?_
  exact ⟨(Ext.new e1 e2 (by intro i hi h; have := h5.bk_ge i h; omega)), h7⟩

set_option maxHeartbeats 1000000 in
theorem fsum_spec (v0 : Value) (l : List (BitVec 64)) (F : Nat → Prop) (w : World) (hl : Sl flE w F v0 l) (hn : l.length ≤ 1000000) :
    Ret Tryd.prog 26 #[v0] w (fun v w' => Le w w' ∧ v = fl (Fl.tot l)) := by
  have hle := hl.le
  obtain ⟨ie23, hi23, hs23, hb23, hz23⟩ := inf23
  refine enter (args := [v0]) (n := 38) Tryd.func26 rfl rfl (Nat.le_of_ble_eq_true rfl) ?_
  refine C.seqK fun K1 hK1 => ?_
  refine C.region ?_
  refine O.asg ?_
  refine O.nil ?_
  refine hK1 _ _ ?_
  refine C.seqK fun K2 hK2 => ?_
  refine C.region ?_
  refine O.mv ?_
  refine O.len Tryd.underlying35 rfl hl ?_
  refine O.mkF (G := flF) (zx := 0#64) Tryd.underlying35 hi23 hz23 hs23 rfl rfl rfl (by rw [hb23]; omega) (by unfold maxLen; omega) (Nat.le_refl _) (fun b11 w1 hb11 hz11 ho11 e1 => ?_)
  have z1 := e1.size
  have ho11s := ho11.sl
  have h1011 : Own w1 b11 23 (Fl.part 0 l) := by rw [Fl.part_zero]; exact hz11.own
  refine O.asg ?_
  refine O.nil ?_
  refine hK2 _ _ ?_
  refine C.seqK fun K3 hK3 => ?_
  refine C.seqK fun K4 hK4 => ?_
  refine C.region ?_
  refine O.mv ?_
  refine O.len Tryd.underlying35 rfl (hl.keep e1) ?_
  refine O.mv ?_
  refine O.nil ?_
  refine hK4 _ _ ?_
  refine C.block fun K5 hK5 => ?_
  refine C.loop0 (σ := Nat) (fun f0 w0 k f w => f 14 = .int .i64 (k) ∧ f 2 = f0 2 ∧ f 3 = f0 3 ∧ f 12 = f0 12 ∧ f 13 = f0 13 ∧ Ext (fun k => k = b11) w0 w ∧ Own w b11 23 (Fl.part k l) ∧ k ≤ l.length) (fun k => l.length - k) 0 ?_ ?_
  ·
    refine ⟨rfl, rfl, rfl, rfl, rfl, Ext.refl _ _, h1011, ?_⟩
    exact Nat.zero_le _
  ·
    rintro k f_1 w2 ⟨s14_1, s2_1, s3_1, s12_1, s13_1, e_1, r0_1, hk⟩
    have z_1 := e_1.size
    refine C.seqK fun K6 hK6 => ?_
    refine C.region ?_
    refine O.lssI s14_1 s13_1 ?_
    refine O.nil ?_
    refine hK6 _ _ ?_
    refine C.seqK fun K7 hK7 => ?_
    refine C.condD rfl (fun c15 => ?_) (fun c15 => ?_)
    ·
      have hk2 : k < l.length := by omega
      refine C.skip ?_
      refine hK7 _ _ ?_
      refine C.seqK fun K8 hK8 => ?_
      refine C.block fun K9 hK9 => ?_
      refine C.seqK fun K10 hK10 => ?_
      refine C.region ?_
      refine O.mv ?_
      refine O.idx Tryd.underlying35 Tryd.sizeOf23 rfl s12_1 (hl.keep (Ext.new e1 e_1 (by rintro i hi rfl; omega))) s14_1 (by omega) (fun a17 h17 => ?_)
      refine O.loadF Tryd.isAgg23 rfl h17 ?_
      refine O.asg ?_
      refine O.asg ?_
      refine O.nil ?_
      refine hK10 _ _ ?_
      refine C.region ?_
      refine O.mv ?_
      refine O.mv ?_
      refine O.mv ?_
      refine O.call Tryd.call18 (args1 rfl) (canon_spec _ _) ?_
      rintro v_22 w3 ⟨rfl, hw_⟩
      replace hw_ := hw_.symm
      subst hw_
      refine O.idxO Tryd.underlying35 Tryd.sizeOf23 s3_1 s14_1 (by omega) ?_
      refine O.store Tryd.sizeOf23 rfl rfl rfl r0_1 (by rw [Fl.part_length (by omega)]; simp; omega) (fun w3 hs3 e3 z3 => ?_)
      try simp only [Int.toNat_natCast, Nat.zero_add, Nat.mul_one] at hs3
      replace hs3 : Own w3 b11 23 (Fl.part (k + 1) l) := by rw [← Fl.part_set hk2]; exact hs3
      refine O.nil ?_
      refine hK9 _ _ ?_
      refine hK8 _ _ ?_
      refine C.region ?_
      refine O.addI s14_1 rfl (by unfold InI; omega) ?_
      refine O.mv ?_
      refine O.nil ?_
      refine ⟨k + 1, ⟨rfl, s2_1, s3_1, s12_1, s13_1, (Ext.trans e_1 (e3)), hs3, ?_⟩, by first | omega | (simp only []; omega)⟩
      omega
    ·
      refine C.exit ?_
      refine hK5 _ _ ?_
      refine hK3 _ _ ?_
      refine C.seqK fun K11 hK11 => ?_
      refine C.region ?_
      refine O.asg ?_
      refine O.nil ?_
      refine hK11 _ _ ?_
      refine C.seqK fun K12 hK12 => ?_
      refine C.seqK fun K13 hK13 => ?_
      refine C.region ?_
      refine O.mv ?_
      obtain rfl : k = l.length := by omega
      have h1025 : Sl flE w2 (fun k => k = b11) (.slice (some ⟨b11, 0, none⟩) l.length l.length) (l.map Fl.canon) := by
        have hq := Sl.of_own (G := flF) (xs := l.map Fl.canon) (cap := l.length) r0_1 (by rw [Fl.part_end, ← flF.length, List.take_length]) (by simp) (by have := hl.1; exact this) (by rw [Fl.part_length (Nat.le_refl _)]; show l.length * 1 ≤ _; omega)
        rw [List.length_map] at hq
        exact hq
      refine O.call Tryd.call22 (args1 s3_1) (fsorted_spec _ _ _ _ h1025 (by rw [List.length_map]; exact hn)) ?_
      rintro v_26 w4 ⟨e4, h26⟩
      have z4 := e4.size
      have h26s := h26.sl
      replace h26 := h26.low (B' := w.heap.size) (by omega)
      refine O.len Tryd.underlying35 rfl h26s ?_
      refine O.mv ?_
      refine O.nil ?_
      refine hK13 _ _ ?_
      refine C.block fun K14 hK14 => ?_
      refine C.loop0 (σ := Nat × BitVec 64) (fun f0 w0 ⟨j, s⟩ f wz => f 6 = fl (s) ∧ f 28 = .int .i64 (j) ∧ f 2 = f0 2 ∧ f 26 = f0 26 ∧ f 27 = f0 27 ∧ Le w wz ∧ OwnF flF 23 w.heap.size wz v_26 (Fl.sorted (l.map Fl.canon)) ∧ j ≤ (Fl.sorted (l.map Fl.canon)).length ∧ Fl.Sum ((Fl.sorted (l.map Fl.canon)).take j) s) (fun ⟨j, s⟩ => (Fl.sorted (l.map Fl.canon)).length - j) (0, 0#64) ?_ ?_
      ·
        refine ⟨rfl, rfl, rfl, rfl, rfl, (Ext.trans (Ext.new e1 e_1 (by rintro i hi rfl; omega)) e4), h26, ?_⟩
        exact ⟨Nat.zero_le _, Fl.Sum.nil⟩
      ·
        rintro ⟨j, s⟩ f_2 w5 ⟨s6_2, s28_2, s2_2, s26_2, s27_2, e_2, r0_2, ⟨hj, hS⟩⟩
        have z_2 := e_2.size
        have r0_2s := r0_2.sl
        refine C.seqK fun K15 hK15 => ?_
        refine C.region ?_
        refine O.lssI s28_2 s27_2 ?_
        refine O.nil ?_
        refine hK15 _ _ ?_
        refine C.seqK fun K16 hK16 => ?_
        refine C.condD rfl (fun c29 => ?_) (fun c29 => ?_)
        ·
          refine C.skip ?_
          refine hK16 _ _ ?_
          refine C.seqK fun K17 hK17 => ?_
          refine C.block fun K18 hK18 => ?_
          refine C.seqK fun K19 hK19 => ?_
          refine C.region ?_
          refine O.idx Tryd.underlying35 Tryd.sizeOf23 rfl s26_2 r0_2s s28_2 (by omega) (fun a30 h30 => ?_)
          refine O.loadF Tryd.isAgg23 rfl h30 ?_
          refine O.asg ?_
          refine O.nil ?_
          refine hK19 _ _ ?_
          refine C.region ?_
          refine O.mv ?_
          refine O.mv ?_
          refine O.addF s6_2 rfl (fun r34 w6 e6 hf34 => ?_)
          have z6 := e6.size
          refine O.asg ?_
          refine O.nil ?_
          refine hK18 _ _ ?_
          refine hK17 _ _ ?_
          refine C.region ?_
          refine O.addI s28_2 rfl (by have hq := Fl.sorted_length (l.map Fl.canon); rw [List.length_map] at hq; unfold InI; omega) ?_
          refine O.mv ?_
          refine O.nil ?_
          refine ⟨(j + 1, _), ⟨rfl, rfl, s2_2, s26_2, s27_2, (Ext.trans e_2 e6), (r0_2.keep e6), ?_⟩, by first | omega | (simp only []; omega)⟩
          have hjl : j < (Fl.sorted (l.map Fl.canon)).length := by omega
          refine ⟨by omega, ?_⟩
          rw [List.take_succ_eq_append_getElem hjl]
          exact Fl.Sum.snoc hS hf34
        ·
          refine C.exit ?_
          refine hK14 _ _ ?_
          refine hK12 _ _ ?_
          refine C.seqK fun K20 hK20 => ?_
          refine C.region ?_
          refine O.mv ?_
          refine O.call Tryd.call18 (args1 s6_2) (canon_spec _ _) ?_
          rintro v_37 w7 ⟨rfl, hw_⟩
          replace hw_ := hw_.symm
          subst hw_
          refine O.asg ?_
          refine O.nil ?_
          refine hK20 _ _ ?_
          refine C.ret ?_
          refine Outs.one rfl rfl ?_
          obtain rfl : j = (Fl.sorted (l.map Fl.canon)).length := by omega
          refine ⟨e_2, congrArg fl ?_⟩
          rw [List.take_length] at hS
          exact Fl.tot_eq hS


theorem rsum_tot (v0 : Value) (l : List (BitVec 64)) (F : Nat → Prop) (w : World) (hl : Sl u64E w F v0 l) (hn : l.length ≤ 1000000) : Ret Tryd.prog 27 #[v0] w (fun v w' => Le w w' ∧ v = .int .u64 ((Fl.tot l).toNat : Int)) :=
  (rsum_spec v0 l F w hl hn).mono fun v w' h => by
    obtain ⟨e, r, h1, rfl⟩ := h
    exact ⟨e, by rw [Fl.tot_eq h1]⟩

end Go.Proofs.YtbadfphdniliaaaDoor
