/-
  The walks of dots: sets of lists. Conditions: slices as they lie in memory.
-/
import Derived.Test.YtbmbaajfkmejgaaDoorD3
import Derived.Test.YtbmbaajfkmejgaaDoorFw12
import Derived.Test.YtbmbaajfkmejgaaDoorFw16
import Derived.Test.YtbmbaajfkmejgaaDoorSortLay
import Derived.Test.YtbmbaajfkmejgaaDoorShelf
namespace Go.Proofs.YtbmbaajfkmejgaaDoor
open Go.Pn Go.RowKit Go.Proofs
theorem _root_.Go.Pn.OwnF.lst {α : Type} {G : Flat α} {ty : TypeId} {B : Nat} {w : World} {v : Value} {xs ys : List α} (h : OwnF G ty B w v xs) (e : xs = ys) : OwnF G ty B w v ys := e ▸ h


theorem blen_spec (w : World) : Ret Tryd.prog 48 #[.int .u64 ((0#64).toNat : Int)] w (fun v w' => (∃ k : Int, v = .int .i64 k) ∧ w' = w) := by
  refine Ret.of (Tryd.bits_Len 0 w (by decide) (by decide)) ?_
  rintro e w' ⟨rfl, rfl⟩
  exact ⟨_, rfl, ⟨_, rfl⟩, rfl⟩

theorem ins0_spec (w : World) :
    Ret Tryd.prog 55 #[.slice none 0 0, .int .i64 (0), .int .i64 (0), .func (.func 8) #[] #[]] w (fun v w' => v = .tuple #[] ∧ w' = w) := by
  refine enter (args := [.slice none 0 0, .int .i64 (0), .int .i64 (0), .func (.func 8) #[] #[]]) (n := 53) Tryd.func55 rfl rfl (Nat.le_of_ble_eq_true rfl) ?_
  refine C.seqK fun K1 hK1 => ?_
  refine C.region ?_
  refine O.mv ?_
  refine O.addI rfl rfl (by unfold InI; omega) ?_
  refine O.cast (v' := .int .i64 (1)) rfl ?_
  refine O.asg ?_
  refine O.nil ?_
  refine hK1 _ _ ?_
  refine C.block fun K2 hK2 => ?_
  refine C.loop0 (σ := Nat) (fun f0 w0 z f w => f 8 = .int .i64 (1) ∧ f 0 = f0 0 ∧ f 1 = f0 1 ∧ f 2 = f0 2 ∧ f 3 = f0 3 ∧ w = w0) (fun z => z) 0 ?_ ?_
  ·
    exact ⟨rfl, rfl, rfl, rfl, rfl, rfl⟩
  ·
    rintro z f_1 wx ⟨s8_1, s0_1, s1_1, s2_1, s3_1, rfl⟩
    refine C.seqK fun K3 hK3 => ?_
    refine C.seqK fun K4 hK4 => ?_
    refine C.region ?_
    refine O.mv ?_
    refine O.mv ?_
    refine O.lssI s8_1 s2_1 ?_
    refine O.cast (v' := .bool false) rfl ?_
    refine O.nil ?_
    refine hK4 _ _ ?_
    refine C.condF rfl ?_
    refine C.exit ?_
    refine hK2 _ _ ?_
    refine Outs.none rfl ?_
    exact ⟨rfl, rfl⟩

theorem pdq0_spec (lim : Int) (w : World) :
    Ret Tryd.prog 47 #[.slice none 0 0, .int .i64 (0), .int .i64 (0), .int .i64 (lim), .func (.func 8) #[] #[]] w (fun v w' => v = .tuple #[] ∧ w' = w) := by
  refine enter (args := [.slice none 0 0, .int .i64 (0), .int .i64 (0), .int .i64 (lim), .func (.func 8) #[] #[]]) (n := 148) Tryd.func47 rfl rfl (Nat.le_of_ble_eq_true rfl) ?_
  refine C.seqK fun K1 hK1 => ?_
  refine C.region ?_
  refine O.asg ?_
  refine O.nil ?_
  refine hK1 _ _ ?_
  refine C.seqK fun K2 hK2 => ?_
  refine C.region ?_
  refine O.asg ?_
  refine O.nil ?_
  refine hK2 _ _ ?_
  refine C.block fun K3 hK3 => ?_
  refine C.loop0 (σ := Nat) (fun f0 w0 z f w => f 1 = .int .i64 (0) ∧ f 2 = .int .i64 (0) ∧ f 10 = .bool (true) ∧ f 11 = .bool (true) ∧ f 0 = f0 0 ∧ f 4 = f0 4 ∧ w = w0) (fun z => z) 0 ?_ ?_
  ·
    exact ⟨rfl, rfl, rfl, rfl, rfl, rfl, rfl⟩
  ·
    rintro z f_1 wx ⟨s1_1, s2_1, s10_1, s11_1, s0_1, s4_1, rfl⟩
    refine C.block fun K4 hK4 => ?_
    refine C.seqK fun K5 hK5 => ?_
    refine C.region ?_
    refine O.mv ?_
    refine O.mv ?_
    refine O.subI s2_1 s1_1 (by unfold InI; omega) ?_
    refine O.cast (v' := .int .i64 (0)) rfl ?_
    refine O.asg ?_
    refine O.nil ?_
    refine hK5 _ _ ?_
    refine C.seqK fun K6 hK6 => ?_
    refine C.seqK fun K7 hK7 => ?_
    refine C.region ?_
    refine O.mv ?_
    refine O.leqI rfl rfl ?_
    refine O.cast (v' := .bool true) rfl ?_
    refine O.nil ?_
    refine hK7 _ _ ?_
    refine C.condT rfl ?_
    refine C.seqK fun K8 hK8 => ?_
    refine C.region ?_
    refine O.mv ?_
    refine O.mv ?_
    refine O.mv ?_
    refine O.mv ?_
    refine O.call Tryd.call55 (args4 s0_1 s1_1 s2_1 s4_1) (ins0_spec _) ?_
    rintro v_30 w1 ⟨rfl, hw_⟩
    replace hw_ := hw_.symm
    subst hw_
    refine O.nil ?_
    refine hK8 _ _ ?_
    refine C.ret ?_
    refine Outs.none rfl ?_
    exact ⟨rfl, rfl⟩

theorem sort0_spec (w : World) :
    Ret Tryd.prog 33 #[.slice none 0 0, .func (.func 8) #[] #[]] w (fun v w' => v = .tuple #[] ∧ w' = w) := by
  refine enter (args := [.slice none 0 0, .func (.func 8) #[] #[]]) (n := 14) Tryd.func33 rfl rfl (Nat.le_of_ble_eq_true rfl) ?_
  refine C.seqK fun K1 hK1 => ?_
  refine C.region ?_
  refine O.mv ?_
  refine O.lenL Tryd.underlying35 rfl ?_
  refine O.cast (v' := .int .i64 0) rfl ?_
  refine O.asg ?_
  refine O.nil ?_
  refine hK1 _ _ ?_
  refine C.region ?_
  refine O.mv ?_
  refine O.mv ?_
  refine O.mv ?_
  refine O.convIU (m' := 64) Tryd.underlying3 Tryd.underlying63 rfl rfl rfl ?_
  refine O.cast (v' := .int .u64 ((0#64).toNat : Int)) rfl ?_
  refine O.call Tryd.call48 (args1 rfl) (blen_spec _) ?_
  rintro v_11 w1 ⟨⟨kv11, rfl⟩, rfl⟩
  refine O.mv ?_
  refine O.call Tryd.call47 (args5 rfl rfl rfl rfl rfl) (pdq0_spec _ _) ?_
  rintro v_13 w1 ⟨rfl, hw_⟩
  replace hw_ := hw_.symm
  subst hw_
  refine O.nil ?_
  refine Outs.none rfl ?_
  exact ⟨rfl, rfl⟩

theorem compact0_spec (w : World) :
    Ret Tryd.prog 34 #[.slice none 0 0] w (fun v w' => v = .slice none 0 0 ∧ w' = w) := by
  refine enter (args := [.slice none 0 0]) (n := 61) Tryd.func34 rfl rfl (Nat.le_of_ble_eq_true rfl) ?_
  refine C.seqK fun K1 hK1 => ?_
  refine C.region ?_
  refine O.asg ?_
  refine O.nil ?_
  refine hK1 _ _ ?_
  refine C.seqK fun K2 hK2 => ?_
  refine C.seqK fun K3 hK3 => ?_
  refine C.region ?_
  refine O.mv ?_
  refine O.lenL Tryd.underlying35 rfl ?_
  refine O.cast (v' := .int .i64 0) rfl ?_
  refine O.lssI rfl rfl ?_
  refine O.cast (v' := .bool true) rfl ?_
  refine O.nil ?_
  refine hK3 _ _ ?_
  refine C.condT rfl ?_
  refine C.seqK fun K4 hK4 => ?_
  refine C.region ?_
  refine O.mv ?_
  refine O.asg ?_
  refine O.nil ?_
  refine hK4 _ _ ?_
  refine C.ret ?_
  refine Outs.one rfl rfl ?_
  exact ⟨rfl, rfl⟩


theorem swoD : Go.Sort.SWO (ltOf Dt.cmp) where
  irrefl x := by unfold ltOf; exact decide_eq_false (fun h => Dt.less_irrefl x ((Dt.cmp_lt x x).1 h))
  trans x y z h1 h2 := by
    unfold ltOf at *
    simp only [decide_eq_true_eq, Dt.cmp_lt] at *
    exact Dt.less_trans h1 h2
  ntrans x y z h1 h2 := by
    unfold ltOf at *
    simp only [decide_eq_false_iff_not, Dt.cmp_lt] at *
    intro h
    rcases Dt.less_total y z with k | k | k
    · exact h2 k
    · subst k; exact h1 h
    · exact h1 (Dt.less_trans h k)
theorem sortD_spec (v : Value) (l : List Dt.Dot) (B : Nat) (w : World) (h : OwnF Dt.dotF 23 B w v l) (hn : l.length ≤ 1000000) :
    Ret Tryd.prog 33 #[v, .func (.func 8) #[] #[]] w (fun r w' => r = .tuple #[] ∧ (∃ l' : List Dt.Dot, OwnF Dt.dotF 23 B w' v l' ∧ l'.Perm l ∧ l'.Pairwise (fun a b => ¬ Dt.Less b a)) ∧ Ext (bk v) w w') := by
  rcases h.1.2 with ⟨rfl, h0⟩ | ⟨g, cap, cur, rfl, _⟩
  · obtain rfl : l = [] := List.eq_nil_of_length_eq_zero h0
    refine (sort0_spec w).mono ?_
    rintro e w' ⟨rfl, rfl⟩
    exact ⟨rfl, ⟨[], h, List.Perm.refl _, List.Pairwise.nil⟩, Ext.refl _ _⟩
  · obtain ⟨hH, hlt⟩ := h.holdsK
    have eg : ∀ args w, (callFunc 8 args).run Tryd.prog w = .ok (.enter 8 args) w := enters_of Tryd.func8 (by kernel_rfl) rfl
    have hcmp : CmpLays Tryd.prog 8 #[] Dt.dotF.e Dt.dotF.sz Dt.cmp g 0 l.toArray.size w := fun m os dk hs x y =>
      (cmp_spec x y _).calls.mono fun e w' hh => by
        obtain ⟨v, he, hv, hle, hd⟩ := hh
        exact ⟨by rw [he, hv], grow_of_le hle hd⟩
    have hs : l.toArray.size < 4611686018427387904 := by simp; omega
    have hcon := AnyQ.slices_SortFunc Tryd.sortF Dt.dotF.sz Tryd.isAgg23 Tryd.sizeOf23 Dt.dotF.e Dt.dotF.len Dt.dotF.one Dt.cmp swoD 8 #[] g 0 cap l.toArray w eg hcmp hH hlt hs
    refine Ret.of hcon ?_
    rintro e w' ⟨rfl, d', m, os, hp, hso, rfl⟩
    obtain ⟨hd, _, hperm⟩ := hp
    have hd2 : d'.size = l.length := by simpa using hd
    obtain ⟨h1, h2⟩ := h.sortedK hd2 m os
    refine ⟨_, rfl, rfl, ⟨d'.toList, h1, ?_, ?_⟩, h2.mono fun k _ hk => hk⟩
    · have e1 : (l.toArray.extract 0 l.toArray.size).toList = l := by simp
      have e2 : (d'.extract 0 l.toArray.size).toList = d'.toList := by rw [← hd]; simp
      rw [e1, e2] at hperm
      exact hperm
    · rw [List.pairwise_iff_getElem]
      intro i j hi hj hij
      have hi2 : i < d'.size := by simpa using hi
      have hj2 : j < d'.size := by simpa using hj
      have h3 := hso i j (Nat.zero_le _) hij (by simpa [hd2] using hj)
      unfold ltOf at h3
      simp only [decide_eq_false_iff_not] at h3
      rw [Dt.cmp_lt, getElem!_pos d' i hi2, getElem!_pos d' j hj2] at h3
      simpa using h3
theorem compactD_spec (v : Value) (l : List Dt.Dot) (B : Nat) (w : World) (h : OwnF Dt.dotF 23 B w v l) (hn : l.length ≤ 1000000) :
    Ret Tryd.prog 34 #[v] w (fun r w' => OwnF Dt.dotF 23 B w' r (Dt.compact l) ∧ Ext (bk v) w w') := by
  rcases h.1.2 with ⟨rfl, h0⟩ | ⟨g, cap, cur, rfl, _⟩
  · obtain rfl : l = [] := List.eq_nil_of_length_eq_zero h0
    refine (compact0_spec w).mono ?_
    rintro e w' ⟨rfl, rfl⟩
    exact ⟨h, Ext.refl _ _⟩
  · refine (compact_a_spec g cap B l w h hn).mono ?_
    rintro e w' ⟨rfl, h1, h2⟩
    exact ⟨h1, h2.mono fun k _ hk => hk⟩

theorem set_spec (v0 : Value) (l : List Dt.Dot) (F : Nat → Prop) (w : World) (hl : Sl Dt.dotF.enc w F v0 l) (hn : l.length ≤ 1000000) :
    Ret Tryd.prog 15 #[v0] w (fun v w' => Le w w' ∧ OwnF Dt.dotF 23 w.heap.size w' v (Dt.set l)) := by
  refine enter (args := [v0]) (n := 10) Tryd.func15 rfl rfl (Nat.le_of_ble_eq_true rfl) ?_
  refine C.seqK fun K1 hK1 => ?_
  refine C.region ?_
  refine O.asg ?_
  refine O.nil ?_
  refine hK1 _ _ ?_
  refine C.seqK fun K2 hK2 => ?_
  refine C.region ?_
  refine O.mv ?_
  refine O.call Tryd.call32 (args1 rfl) (clone_spec _ _ _ _ hl hn) ?_
  rintro v_5 w1 ⟨e1, h5⟩
  have z1 := e1.size
  refine O.asg ?_
  refine O.nil ?_
  refine hK2 _ _ ?_
  refine C.seqK fun K3 hK3 => ?_
  refine C.region ?_
  refine O.mv ?_
  refine O.call Tryd.call33 (args2 rfl rfl) (sortD_spec _ _ _ _ h5 hn) ?_
  rintro v_7 w2 ⟨rfl, ⟨l7, hs7, hp7, ha7⟩, e2⟩
  have z2 := e2.size
  refine O.nil ?_
  refine hK3 _ _ ?_
  refine C.seqK fun K4 hK4 => ?_
  refine C.region ?_
  refine O.mv ?_
  refine O.call Tryd.call34 (args1 rfl) (compactD_spec _ _ _ _ hs7 (by rw [hp7.length_eq]; exact hn)) ?_
  rintro v_9 w3 ⟨h9, e3⟩
  have z3 := e3.size
  refine O.asg ?_
  refine O.nil ?_
  refine hK4 _ _ ?_
  refine C.ret ?_
  refine Outs.one rfl rfl ?_
  refine ⟨(Ext.new (Ext.new e1 e2 (by intro i hi h; have := h5.bk_ge i h; omega)) e3 (by intro i hi h; have := hs7.bk_ge i h; omega)), ?_⟩
  rw [← Dt.set_of_sorted hp7 ha7]
  exact h9

set_option maxHeartbeats 1000000 in
theorem with_spec (v0 : Value) (l : List Dt.Dot) (d : Dt.Dot) (B : Nat) (w : World) (ho : OwnF Dt.dotF 23 B w v0 l) (hB : B ≤ w.heap.size) (hn : l.length ≤ 1000000) :
    Ret Tryd.prog 49 #[v0, Dt.dv (d)] w (fun v w' => Le w w' ∧ OwnF Dt.dotF 23 B w' v (Dt.withD l d)) := by
  have hs0 := ho.sl
  have hle := hs0.le
  obtain ⟨ie23, ti23, ts23, tb23, tz23⟩ := inf23
  refine enter (args := [v0, Dt.dv (d)]) (n := 35) Tryd.func49 rfl rfl (Nat.le_of_ble_eq_true rfl) ?_
  refine C.seqK fun K1 hK1 => ?_
  refine C.region ?_
  refine O.box (v := Dt.dv (d)) rfl (fun b3 w1 hb3 hz3 e1 => ?_)
  have z1 := e1.size
  have h3 := hz3.own
  have hl3 := h3.lt
  refine O.asg ?_
  refine O.nil ?_
  refine hK1 _ _ ?_
  refine C.seqK fun K2 hK2 => ?_
  refine C.seqK fun K3 hK3 => ?_
  refine C.region ?_
  refine O.mv ?_
  refine O.loadOA Tryd.isAgg23 Tryd.sizeOf23 rfl h3 (Nat.le_of_ble_eq_true rfl) ?_
  refine O.call Tryd.call21 (args2 rfl rfl) (rhas_spec _ _ _ d _ (hs0.keep e1)) ?_
  rintro v_8 w2 ⟨rfl, e2⟩
  have z2 := e2.size
  refine O.nil ?_
  refine hK3 _ _ ?_
  refine C.condD rfl (fun c8 => ?_) (fun c8 => ?_)
  ·
    refine C.seqK fun K4 hK4 => ?_
    refine C.region ?_
    refine O.mv ?_
    refine O.asg ?_
    refine O.nil ?_
    refine hK4 _ _ ?_
    refine C.ret ?_
    refine Outs.one rfl rfl ?_
    first
    | (refine ⟨(Ext.trans e1 e2), ?_⟩
       have hw : Dt.withD l d = l := by unfold Dt.withD; exact if_pos c8
       rw [hw]
       exact ((ho.keep e1).keep e2))
    | (refine ⟨(Ext.trans e1 e2), ?_⟩
       have hw : [] ++ (l.take j).drop 0 ++ [d] ++ (l.take l.length).drop j = Dt.withD l d := by
         rw [List.nil_append, List.drop_zero, List.take_length, List.append_assoc, List.singleton_append]
         exact Dt.with_at c8 hj hall (by first | exact .inr ⟨by omega, c21⟩ | exact .inl (by omega))
       rw [← hw]
       exact {app:34}.low (by omega))
  ·
    refine C.skip ?_
    refine hK2 _ _ ?_
    refine C.seqK fun K5 hK5 => ?_
    refine C.region ?_
    refine O.asg ?_
    refine O.nil ?_
    refine hK5 _ _ ?_
    refine C.seqK fun K6 hK6 => ?_
    refine C.block fun K7 hK7 => ?_
    refine C.loop0 (σ := Nat) (fun f0 w0 j f wz => f 5 = .int .i64 (j) ∧ f 0 = f0 0 ∧ f 3 = f0 3 ∧ f 4 = f0 4 ∧ Le w wz ∧ Own wz b3 23 (Dt.dv d).cells.toList ∧ j ≤ l.length ∧ ∀ y ∈ l.take j, Dt.Less y d) (fun j => l.length - j) 0 ?_ ?_
    ·
      refine ⟨rfl, rfl, rfl, rfl, (Ext.trans e1 e2), (h3.keep e2), ?_⟩
      exact ⟨Nat.zero_le _, by simp⟩
    ·
      rintro j f_1 w3 ⟨s5_1, s0_1, s3_1, s4_1, e_1, r0_1, ⟨hj, hall⟩⟩
      have z_1 := e_1.size
      refine C.seqK fun K8 hK8 => ?_
      refine C.seqK fun K9 hK9 => ?_
      refine C.draw (by kernel_rfl) fun w4 e4 => ?_
      have z4 := e4.size
      refine D.take (i := 0) rfl rfl rfl rfl (by kernel_rfl) (Le.refl _) ⟨pure _, rfl⟩ (fun w_ hw_ N_ hN => (O.mv (O.nil hN))) ?_
      refine D.take (i := 1) rfl rfl rfl rfl (by kernel_rfl) (Le.refl _) ⟨pure _, rfl⟩ (fun w_ hw_ N_ hN => (O.mv (O.nil hN))) ?_
      refine D.take (i := 2) rfl rfl rfl rfl (by kernel_rfl) (Le.refl _) len_form (fun w_ hw_ N_ hN => (O.len Tryd.underlying35 s0_1 (((hs0.keep e_1).keep e4).keep hw_) (O.nil hN))) ?_
      refine D.take (i := 3) rfl rfl rfl rfl (by kernel_rfl) (Le.refl _) ⟨_, rfl⟩ (fun w_ hw_ N_ hN => (O.lssI s5_1 rfl (O.nil hN))) ?_
      refine D.take (i := 4) rfl rfl rfl rfl (by kernel_rfl) (Le.refl _) ⟨pure _, rfl⟩ (fun w_ hw_ N_ hN => (O.mv (O.nil hN))) ?_
      refine D.splitD (x := .tmp 14) rfl (fun c14 => ?_) (fun c14 => ?_)
      ·
        refine D.takeYes (i := 5) rfl rfl rfl (by kernel_rfl) rfl (isT rfl c14) (Le.refl _) ⟨pure _, rfl⟩ (fun w_ hw_ N_ hN => (O.mv (O.nil hN))) ?_
        refine D.takeYes (i := 6) rfl rfl rfl (by kernel_rfl) rfl (isT rfl c14) (Le.refl _) ⟨pure _, rfl⟩ (fun w_ hw_ N_ hN => (O.mv (O.nil hN))) ?_
        obtain ⟨a17, h17, hr17⟩ := Sl.at (i := (j : Int)) (P := Tryd.prog) Tryd.underlying35 Tryd.sizeOf23 rfl ((hs0.keep e_1).keep e4) (by omega)
        refine D.takeYes (i := 7) rfl rfl rfl (by kernel_rfl) rfl (isT rfl c14) (Le.refl _) ⟨_, rfl⟩ (fun w_ hw_ N_ hN => (O.idxR s0_1 s5_1 hr17 (O.nil hN))) ?_
        refine D.takeYes (i := 8) rfl rfl rfl (by kernel_rfl) rfl (isT rfl c14) (Le.refl _) ⟨_, rfl⟩ (fun w_ hw_ N_ hN => (O.loadG (G := Dt.dotF) Tryd.isAgg23 Tryd.sizeOf23 rfl (h17.keep hw_) (O.nil hN))) ?_
        refine D.takeYes (i := 9) rfl rfl rfl (by kernel_rfl) rfl (isT rfl c14) (Le.refl _) ⟨_, rfl⟩ (fun w_ hw_ N_ hN => (O.loadOA Tryd.isAgg23 Tryd.sizeOf23 s3_1 ((r0_1.keep e4).keep hw_) (Nat.le_of_ble_eq_true rfl) (O.nil hN))) ?_
        refine D.oneYes (i := 10) rfl rfl (isT rfl c14) (by kernel_rfl) ?_
        refine O.call Tryd.call24 (args2 rfl rfl) (less_spec _ _ _) ?_
        rintro v_20 w5 ⟨rfl, e5⟩
        have z5 := e5.size
        refine O.nil ⟨e5, ?_⟩
        refine D.take (i := 11) rfl rfl rfl rfl (by kernel_rfl) e5 pick_form (fun w_ hw_ N_ hN => (O.pickT (isT rfl c14) (O.nil hN))) ?_
        refine D.done (by kernel_rfl) ?_
        refine hK9 _ _ ?_
        refine C.condD rfl (fun c21 => ?_) (fun c21 => ?_)
        ·
          refine C.skip ?_
          refine hK8 _ _ ?_
          refine C.block fun K10 hK10 => ?_
          refine C.region ?_
          refine O.mv ?_
          refine O.addI s5_1 rfl (by unfold InI; omega) ?_
          refine O.asg ?_
          refine O.nil ?_
          refine hK10 _ _ ?_
          refine ⟨j + 1, ⟨rfl, s0_1, s3_1, s4_1, (Ext.trans (Ext.trans e_1 e4) e5), ((r0_1.keep e4).keep e5), ?_⟩, by first | omega | (simp only []; omega)⟩
          have hjl : j < l.length := by omega
          refine ⟨by omega, ?_⟩
          intro y hy
          rw [List.take_succ_eq_append_getElem hjl, List.mem_append, List.mem_singleton] at hy
          rcases hy with hy | rfl
          · exact hall y hy
          · exact c21
        ·
          refine C.exit ?_
          refine hK7 _ _ ?_
          refine hK6 _ _ ?_
          refine C.seqK fun K11 hK11 => ?_
          refine C.draw (by kernel_rfl) fun w6 e6 => ?_
          have z6 := e6.size
          refine D.take (i := 0) rfl rfl rfl rfl (by kernel_rfl) (Le.refl _) ⟨pure _, rfl⟩ (fun w_ hw_ N_ hN => (O.mv (O.nil hN))) ?_
          refine D.take (i := 1) rfl rfl rfl rfl (by kernel_rfl) (Le.refl _) ⟨pure _, rfl⟩ (fun w_ hw_ N_ hN => (O.mv (O.nil hN))) ?_
          obtain ⟨v26, hs26, hr26⟩ := Sl.sub (P := Tryd.prog) (0) (j) Tryd.underlying35 Tryd.sizeOf23 rfl ((((hs0.keep e_1).keep e4).keep e5).keep e6) (Nat.zero_le _) (by omega)
          refine D.take (i := 2) rfl rfl rfl rfl (by kernel_rfl) (Le.refl _) ⟨_, rfl⟩ (fun w_ hw_ N_ hN => (O.subR s0_1 hr26 (.inl ⟨rfl, rfl⟩) (.inr ⟨_, _, rfl, s5_1⟩) (O.nil hN))) ?_
          refine D.take (i := 4) rfl rfl rfl rfl (by kernel_rfl) (Le.refl _) ⟨_, rfl⟩ (fun w_ hw_ N_ hN => (O.loadOA Tryd.isAgg23 Tryd.sizeOf23 s3_1 ((((r0_1.keep e4).keep e5).keep e6).keep hw_) (Nat.le_of_ble_eq_true rfl) (O.nil hN))) ?_
          refine D.take (i := 7) rfl rfl rfl rfl (by kernel_rfl) (Le.refl _) ⟨pure _, rfl⟩ (fun w_ hw_ N_ hN => (O.mv (O.nil hN))) ?_
          refine D.take (i := 8) rfl rfl rfl rfl (by kernel_rfl) (Le.refl _) ⟨pure _, rfl⟩ (fun w_ hw_ N_ hN => (O.mv (O.nil hN))) ?_
          obtain ⟨v33, hs33, hr33⟩ := Sl.sub (P := Tryd.prog) (j) (l.length) Tryd.underlying35 Tryd.sizeOf23 rfl ((((hs0.keep e_1).keep e4).keep e5).keep e6) (by omega) (Nat.le_refl _)
          refine D.take (i := 9) rfl rfl rfl rfl (by kernel_rfl) (Le.refl _) ⟨_, rfl⟩ (fun w_ hw_ N_ hN => (O.subR s0_1 hr33 (.inr ⟨_, _, rfl, s5_1⟩) (.inl ⟨rfl, rfl⟩) (O.nil hN))) ?_
          refine D.many [3, 5] (by kernel_rfl) (by decide) ⟨?_, ?_, trivial⟩
          ·
            refine D.stepU rfl rfl ?_
            refine O.appF (G := Dt.dotF) Tryd.underlying35 ti23 tz23 ts23 rfl rfl rfl (OwnF.nil _ _ _ _) hs26 (by rw [tb23]; simp; omega) (by unfold maxLen; simp; omega) (Nat.le_refl _) (fun v27 w7 h27 e7 => ?_)
            replace e7 : Le w6 w7 := e7.mono (fun _ _ h => h)
            have z7 := e7.size
            have h27s := h27.sl
            refine O.nil ⟨e7, ?_⟩
            refine D.one (i := 5) rfl rfl (by kernel_rfl) ?_
            refine O.litG (G := Dt.dotF) [d] Tryd.underlying35 ti23 ts23 tz23 rfl (by decide) (by decide) rfl (fun b29 w8 hb29 hz29 e8 => ?_)
            have z8 := e8.size
            have h29 := hz29.own
            have hq29 := Sl.litG (n := 1) h29 rfl (by unfold maxLen; omega)
            refine O.nil ⟨(Ext.trans e7 e8), ?_⟩
            refine D.one (i := 6) rfl rfl (by kernel_rfl) ?_
            refine O.appF (G := Dt.dotF) Tryd.underlying35 ti23 tz23 ts23 rfl rfl rfl (h27.keep e8) hq29 (by rw [tb23]; simp; omega) (by unfold maxLen; simp; omega) (by omega) (fun v30 w9 h30 e9 => ?_)
            have z9 := e9.size
            have h30s := h30.sl
            refine O.nil ⟨(Ext.new (Ext.trans e7 e8) e9 (by intro i hi h; have := (h27.keep e8).bk_ge i h; omega)), ?_⟩
            refine D.one (i := 10) rfl rfl (by kernel_rfl) ?_
            refine O.appF (G := Dt.dotF) Tryd.underlying35 ti23 tz23 ts23 rfl rfl rfl h30 (((hs33.keep e7).keep e8).keepM e9 (by intro k hk h; have q1 := (h27.keep e8).bk_ge k h; first | (have q2 := ho.bk_ge k hk; omega) | (dsimp only at hk; omega))) (by rw [tb23]; simp; omega) (by unfold maxLen; simp; omega) (by omega) (fun v34 w10 h34 e10 => ?_)
            have z10 := e10.size
            have h34s := h34.sl
            refine O.nil ⟨(Ext.new (Ext.new (Ext.trans e7 e8) e9 (by intro i hi h; have := (h27.keep e8).bk_ge i h; omega)) e10 (by intro i hi h; have := h30.bk_ge i h; omega)), ?_⟩
            refine D.take (i := 11) rfl rfl rfl rfl (by kernel_rfl) (Ext.new (Ext.new (Ext.trans e7 e8) e9 (by intro i hi h; have := (h27.keep e8).bk_ge i h; omega)) e10 (by intro i hi h; have := h30.bk_ge i h; omega)) ⟨pure _, rfl⟩ (fun w_ hw_ N_ hN => (O.asg (O.nil hN))) ?_
            refine D.done (by kernel_rfl) ?_
            refine hK11 _ _ ?_
            refine C.ret ?_
            refine Outs.one rfl rfl ?_
            first
            | (refine ⟨(Ext.new (Ext.new (Ext.trans (Ext.trans (Ext.trans (Ext.trans (Ext.trans e_1 e4) e5) e6) e7) e8) e9 (by intro i hi h; have := (h27.keep e8).bk_ge i h; omega)) e10 (by intro i hi h; have := h30.bk_ge i h; omega)), ?_⟩
               have hw : Dt.withD l d = l := by unfold Dt.withD; exact if_pos c8
               rw [hw]
               exact ((((((((ho.keep e_1).keep e4).keep e5).keep e6).keep e7).keep e8).keepM e9 (by intro k hk h; have q1 := (h27.keep e8).bk_ge k h; first | (have q2 := ho.bk_ge k hk; omega) | (dsimp only at hk; omega))).keepM e10 (by intro k hk h; have q1 := h30.bk_ge k h; first | (have q2 := ho.bk_ge k hk; omega) | (dsimp only at hk; omega))))
            | (refine ⟨(Ext.new (Ext.new (Ext.trans (Ext.trans (Ext.trans (Ext.trans (Ext.trans e_1 e4) e5) e6) e7) e8) e9 (by intro i hi h; have := (h27.keep e8).bk_ge i h; omega)) e10 (by intro i hi h; have := h30.bk_ge i h; omega)), ?_⟩
               have hw : [] ++ (l.take j).drop 0 ++ [d] ++ (l.take l.length).drop j = Dt.withD l d := by
                 rw [List.nil_append, List.drop_zero, List.take_length, List.append_assoc, List.singleton_append]
                 exact Dt.with_at c8 hj hall (by first | exact .inr ⟨by omega, c21⟩ | exact .inl (by omega))
               rw [← hw]
               exact h34.low (by omega))
          ·
            refine D.stepU rfl rfl ?_
            refine O.litG (G := Dt.dotF) [d] Tryd.underlying35 ti23 ts23 tz23 rfl (by decide) (by decide) rfl (fun b29 w11 hb29 hz29 e11 => ?_)
            have z11 := e11.size
            have h29 := hz29.own
            have hq29 := Sl.litG (n := 1) h29 rfl (by unfold maxLen; omega)
            refine O.nil ⟨e11, ?_⟩
            refine D.one (i := 3) rfl rfl (by kernel_rfl) ?_
            refine O.appF (G := Dt.dotF) Tryd.underlying35 ti23 tz23 ts23 rfl rfl rfl (OwnF.nil _ _ _ _) (hs26.keep e11) (by rw [tb23]; simp; omega) (by unfold maxLen; simp; omega) (Nat.le_refl _) (fun v27 w12 h27 e12 => ?_)
            replace e12 : Le w11 w12 := e12.mono (fun _ _ h => h)
            have z12 := e12.size
            have h27s := h27.sl
            refine O.nil ⟨(Ext.trans e11 e12), ?_⟩
            refine D.one (i := 6) rfl rfl (by kernel_rfl) ?_
            refine O.appF (G := Dt.dotF) Tryd.underlying35 ti23 tz23 ts23 rfl rfl rfl h27 (hq29.keep e12) (by rw [tb23]; simp; omega) (by unfold maxLen; simp; omega) (by omega) (fun v30 w13 h30 e13 => ?_)
            have z13 := e13.size
            have h30s := h30.sl
            refine O.nil ⟨(Ext.new (Ext.trans e11 e12) e13 (by intro i hi h; have := h27.bk_ge i h; omega)), ?_⟩
            refine D.one (i := 10) rfl rfl (by kernel_rfl) ?_
            refine O.appF (G := Dt.dotF) Tryd.underlying35 ti23 tz23 ts23 rfl rfl rfl h30 (((hs33.keep e11).keep e12).keepM e13 (by intro k hk h; have q1 := h27.bk_ge k h; first | (have q2 := ho.bk_ge k hk; omega) | (dsimp only at hk; omega))) (by rw [tb23]; simp; omega) (by unfold maxLen; simp; omega) (by omega) (fun v34 w14 h34 e14 => ?_)
            have z14 := e14.size
            have h34s := h34.sl
            refine O.nil ⟨(Ext.new (Ext.new (Ext.trans e11 e12) e13 (by intro i hi h; have := h27.bk_ge i h; omega)) e14 (by intro i hi h; have := h30.bk_ge i h; omega)), ?_⟩
            refine D.take (i := 11) rfl rfl rfl rfl (by kernel_rfl) (Ext.new (Ext.new (Ext.trans e11 e12) e13 (by intro i hi h; have := h27.bk_ge i h; omega)) e14 (by intro i hi h; have := h30.bk_ge i h; omega)) ⟨pure _, rfl⟩ (fun w_ hw_ N_ hN => (O.asg (O.nil hN))) ?_
            refine D.done (by kernel_rfl) ?_
            refine hK11 _ _ ?_
            refine C.ret ?_
            refine Outs.one rfl rfl ?_
            first
            | (refine ⟨(Ext.new (Ext.new (Ext.trans (Ext.trans (Ext.trans (Ext.trans (Ext.trans e_1 e4) e5) e6) e11) e12) e13 (by intro i hi h; have := h27.bk_ge i h; omega)) e14 (by intro i hi h; have := h30.bk_ge i h; omega)), ?_⟩
               have hw : Dt.withD l d = l := by unfold Dt.withD; exact if_pos c8
               rw [hw]
               exact ((((((((ho.keep e_1).keep e4).keep e5).keep e6).keep e11).keep e12).keepM e13 (by intro k hk h; have q1 := h27.bk_ge k h; first | (have q2 := ho.bk_ge k hk; omega) | (dsimp only at hk; omega))).keepM e14 (by intro k hk h; have q1 := h30.bk_ge k h; first | (have q2 := ho.bk_ge k hk; omega) | (dsimp only at hk; omega))))
            | (refine ⟨(Ext.new (Ext.new (Ext.trans (Ext.trans (Ext.trans (Ext.trans (Ext.trans e_1 e4) e5) e6) e11) e12) e13 (by intro i hi h; have := h27.bk_ge i h; omega)) e14 (by intro i hi h; have := h30.bk_ge i h; omega)), ?_⟩
               have hw : [] ++ (l.take j).drop 0 ++ [d] ++ (l.take l.length).drop j = Dt.withD l d := by
                 rw [List.nil_append, List.drop_zero, List.take_length, List.append_assoc, List.singleton_append]
                 exact Dt.with_at c8 hj hall (by first | exact .inr ⟨by omega, c21⟩ | exact .inl (by omega))
               rw [← hw]
               exact h34.low (by omega))
      ·
        refine D.takeNo (i := 5) rfl rfl (by kernel_rfl) (Le.refl _) rfl (noB (isF rfl c14) rfl) ?_
        refine D.takeNo (i := 6) rfl rfl (by kernel_rfl) (Le.refl _) rfl (noB (isF rfl c14) rfl) ?_
        refine D.takeNo (i := 7) rfl rfl (by kernel_rfl) (Le.refl _) rfl (noB (isF rfl c14) rfl) ?_
        refine D.takeNo (i := 8) rfl rfl (by kernel_rfl) (Le.refl _) rfl (noB (isF rfl c14) rfl) ?_
        refine D.takeNo (i := 9) rfl rfl (by kernel_rfl) (Le.refl _) rfl (noB (isF rfl c14) rfl) ?_
        refine D.takeNo (i := 10) rfl rfl (by kernel_rfl) (Le.refl _) rfl (noB (isF rfl c14) rfl) ?_
        refine D.take (i := 11) rfl rfl rfl rfl (by kernel_rfl) (Le.refl _) pick_form (fun w_ hw_ N_ hN => (O.pickF (isF rfl c14) (O.nil hN))) ?_
        refine D.done (by kernel_rfl) ?_
        refine hK9 _ _ ?_
        refine C.condF rfl ?_
        refine C.exit ?_
        refine hK7 _ _ ?_
        refine hK6 _ _ ?_
        refine C.seqK fun K12 hK12 => ?_
        refine C.draw (by kernel_rfl) fun w15 e15 => ?_
        have z15 := e15.size
        refine D.take (i := 0) rfl rfl rfl rfl (by kernel_rfl) (Le.refl _) ⟨pure _, rfl⟩ (fun w_ hw_ N_ hN => (O.mv (O.nil hN))) ?_
        refine D.take (i := 1) rfl rfl rfl rfl (by kernel_rfl) (Le.refl _) ⟨pure _, rfl⟩ (fun w_ hw_ N_ hN => (O.mv (O.nil hN))) ?_
        obtain ⟨v26, hs26, hr26⟩ := Sl.sub (P := Tryd.prog) (0) (j) Tryd.underlying35 Tryd.sizeOf23 rfl (((hs0.keep e_1).keep e4).keep e15) (Nat.zero_le _) (by omega)
        refine D.take (i := 2) rfl rfl rfl rfl (by kernel_rfl) (Le.refl _) ⟨_, rfl⟩ (fun w_ hw_ N_ hN => (O.subR s0_1 hr26 (.inl ⟨rfl, rfl⟩) (.inr ⟨_, _, rfl, s5_1⟩) (O.nil hN))) ?_
        refine D.take (i := 4) rfl rfl rfl rfl (by kernel_rfl) (Le.refl _) ⟨_, rfl⟩ (fun w_ hw_ N_ hN => (O.loadOA Tryd.isAgg23 Tryd.sizeOf23 s3_1 (((r0_1.keep e4).keep e15).keep hw_) (Nat.le_of_ble_eq_true rfl) (O.nil hN))) ?_
        refine D.take (i := 7) rfl rfl rfl rfl (by kernel_rfl) (Le.refl _) ⟨pure _, rfl⟩ (fun w_ hw_ N_ hN => (O.mv (O.nil hN))) ?_
        refine D.take (i := 8) rfl rfl rfl rfl (by kernel_rfl) (Le.refl _) ⟨pure _, rfl⟩ (fun w_ hw_ N_ hN => (O.mv (O.nil hN))) ?_
        obtain ⟨v33, hs33, hr33⟩ := Sl.sub (P := Tryd.prog) (j) (l.length) Tryd.underlying35 Tryd.sizeOf23 rfl (((hs0.keep e_1).keep e4).keep e15) (by omega) (Nat.le_refl _)
        refine D.take (i := 9) rfl rfl rfl rfl (by kernel_rfl) (Le.refl _) ⟨_, rfl⟩ (fun w_ hw_ N_ hN => (O.subR s0_1 hr33 (.inr ⟨_, _, rfl, s5_1⟩) (.inl ⟨rfl, rfl⟩) (O.nil hN))) ?_
        refine D.many [3, 5] (by kernel_rfl) (by decide) ⟨?_, ?_, trivial⟩
        ·
          refine D.stepU rfl rfl ?_
          refine O.appF (G := Dt.dotF) Tryd.underlying35 ti23 tz23 ts23 rfl rfl rfl (OwnF.nil _ _ _ _) hs26 (by rw [tb23]; simp; omega) (by unfold maxLen; simp; omega) (Nat.le_refl _) (fun v27 w16 h27 e16 => ?_)
          replace e16 : Le w15 w16 := e16.mono (fun _ _ h => h)
          have z16 := e16.size
          have h27s := h27.sl
          refine O.nil ⟨e16, ?_⟩
          refine D.one (i := 5) rfl rfl (by kernel_rfl) ?_
          refine O.litG (G := Dt.dotF) [d] Tryd.underlying35 ti23 ts23 tz23 rfl (by decide) (by decide) rfl (fun b29 w17 hb29 hz29 e17 => ?_)
          have z17 := e17.size
          have h29 := hz29.own
          have hq29 := Sl.litG (n := 1) h29 rfl (by unfold maxLen; omega)
          refine O.nil ⟨(Ext.trans e16 e17), ?_⟩
          refine D.one (i := 6) rfl rfl (by kernel_rfl) ?_
          refine O.appF (G := Dt.dotF) Tryd.underlying35 ti23 tz23 ts23 rfl rfl rfl (h27.keep e17) hq29 (by rw [tb23]; simp; omega) (by unfold maxLen; simp; omega) (by omega) (fun v30 w18 h30 e18 => ?_)
          have z18 := e18.size
          have h30s := h30.sl
          refine O.nil ⟨(Ext.new (Ext.trans e16 e17) e18 (by intro i hi h; have := (h27.keep e17).bk_ge i h; omega)), ?_⟩
          refine D.one (i := 10) rfl rfl (by kernel_rfl) ?_
          refine O.appF (G := Dt.dotF) Tryd.underlying35 ti23 tz23 ts23 rfl rfl rfl h30 (((hs33.keep e16).keep e17).keepM e18 (by intro k hk h; have q1 := (h27.keep e17).bk_ge k h; first | (have q2 := ho.bk_ge k hk; omega) | (dsimp only at hk; omega))) (by rw [tb23]; simp; omega) (by unfold maxLen; simp; omega) (by omega) (fun v34 w19 h34 e19 => ?_)
          have z19 := e19.size
          have h34s := h34.sl
          refine O.nil ⟨(Ext.new (Ext.new (Ext.trans e16 e17) e18 (by intro i hi h; have := (h27.keep e17).bk_ge i h; omega)) e19 (by intro i hi h; have := h30.bk_ge i h; omega)), ?_⟩
          refine D.take (i := 11) rfl rfl rfl rfl (by kernel_rfl) (Ext.new (Ext.new (Ext.trans e16 e17) e18 (by intro i hi h; have := (h27.keep e17).bk_ge i h; omega)) e19 (by intro i hi h; have := h30.bk_ge i h; omega)) ⟨pure _, rfl⟩ (fun w_ hw_ N_ hN => (O.asg (O.nil hN))) ?_
          refine D.done (by kernel_rfl) ?_
          refine hK12 _ _ ?_
          refine C.ret ?_
          refine Outs.one rfl rfl ?_
          first
          | (refine ⟨(Ext.new (Ext.new (Ext.trans (Ext.trans (Ext.trans (Ext.trans e_1 e4) e15) e16) e17) e18 (by intro i hi h; have := (h27.keep e17).bk_ge i h; omega)) e19 (by intro i hi h; have := h30.bk_ge i h; omega)), ?_⟩
             have hw : Dt.withD l d = l := by unfold Dt.withD; exact if_pos c8
             rw [hw]
             exact (((((((ho.keep e_1).keep e4).keep e15).keep e16).keep e17).keepM e18 (by intro k hk h; have q1 := (h27.keep e17).bk_ge k h; first | (have q2 := ho.bk_ge k hk; omega) | (dsimp only at hk; omega))).keepM e19 (by intro k hk h; have q1 := h30.bk_ge k h; first | (have q2 := ho.bk_ge k hk; omega) | (dsimp only at hk; omega))))
          | (refine ⟨(Ext.new (Ext.new (Ext.trans (Ext.trans (Ext.trans (Ext.trans e_1 e4) e15) e16) e17) e18 (by intro i hi h; have := (h27.keep e17).bk_ge i h; omega)) e19 (by intro i hi h; have := h30.bk_ge i h; omega)), ?_⟩
             have hw : [] ++ (l.take j).drop 0 ++ [d] ++ (l.take l.length).drop j = Dt.withD l d := by
               rw [List.nil_append, List.drop_zero, List.take_length, List.append_assoc, List.singleton_append]
               exact Dt.with_at c8 hj hall (by first | exact .inr ⟨by omega, c21⟩ | exact .inl (by omega))
             rw [← hw]
             exact h34.low (by omega))
        ·
          refine D.stepU rfl rfl ?_
          refine O.litG (G := Dt.dotF) [d] Tryd.underlying35 ti23 ts23 tz23 rfl (by decide) (by decide) rfl (fun b29 w20 hb29 hz29 e20 => ?_)
          have z20 := e20.size
          have h29 := hz29.own
          have hq29 := Sl.litG (n := 1) h29 rfl (by unfold maxLen; omega)
          refine O.nil ⟨e20, ?_⟩
          refine D.one (i := 3) rfl rfl (by kernel_rfl) ?_
          refine O.appF (G := Dt.dotF) Tryd.underlying35 ti23 tz23 ts23 rfl rfl rfl (OwnF.nil _ _ _ _) (hs26.keep e20) (by rw [tb23]; simp; omega) (by unfold maxLen; simp; omega) (Nat.le_refl _) (fun v27 w21 h27 e21 => ?_)
          replace e21 : Le w20 w21 := e21.mono (fun _ _ h => h)
          have z21 := e21.size
          have h27s := h27.sl
          refine O.nil ⟨(Ext.trans e20 e21), ?_⟩
          refine D.one (i := 6) rfl rfl (by kernel_rfl) ?_
          refine O.appF (G := Dt.dotF) Tryd.underlying35 ti23 tz23 ts23 rfl rfl rfl h27 (hq29.keep e21) (by rw [tb23]; simp; omega) (by unfold maxLen; simp; omega) (by omega) (fun v30 w22 h30 e22 => ?_)
          have z22 := e22.size
          have h30s := h30.sl
          refine O.nil ⟨(Ext.new (Ext.trans e20 e21) e22 (by intro i hi h; have := h27.bk_ge i h; omega)), ?_⟩
          refine D.one (i := 10) rfl rfl (by kernel_rfl) ?_
          refine O.appF (G := Dt.dotF) Tryd.underlying35 ti23 tz23 ts23 rfl rfl rfl h30 (((hs33.keep e20).keep e21).keepM e22 (by intro k hk h; have q1 := h27.bk_ge k h; first | (have q2 := ho.bk_ge k hk; omega) | (dsimp only at hk; omega))) (by rw [tb23]; simp; omega) (by unfold maxLen; simp; omega) (by omega) (fun v34 w23 h34 e23 => ?_)
          have z23 := e23.size
          have h34s := h34.sl
          refine O.nil ⟨(Ext.new (Ext.new (Ext.trans e20 e21) e22 (by intro i hi h; have := h27.bk_ge i h; omega)) e23 (by intro i hi h; have := h30.bk_ge i h; omega)), ?_⟩
          refine D.take (i := 11) rfl rfl rfl rfl (by kernel_rfl) (Ext.new (Ext.new (Ext.trans e20 e21) e22 (by intro i hi h; have := h27.bk_ge i h; omega)) e23 (by intro i hi h; have := h30.bk_ge i h; omega)) ⟨pure _, rfl⟩ (fun w_ hw_ N_ hN => (O.asg (O.nil hN))) ?_
          refine D.done (by kernel_rfl) ?_
          refine hK12 _ _ ?_
          refine C.ret ?_
          refine Outs.one rfl rfl ?_
          first
          | (refine ⟨(Ext.new (Ext.new (Ext.trans (Ext.trans (Ext.trans (Ext.trans e_1 e4) e15) e20) e21) e22 (by intro i hi h; have := h27.bk_ge i h; omega)) e23 (by intro i hi h; have := h30.bk_ge i h; omega)), ?_⟩
             have hw : Dt.withD l d = l := by unfold Dt.withD; exact if_pos c8
             rw [hw]
             exact (((((((ho.keep e_1).keep e4).keep e15).keep e20).keep e21).keepM e22 (by intro k hk h; have q1 := h27.bk_ge k h; first | (have q2 := ho.bk_ge k hk; omega) | (dsimp only at hk; omega))).keepM e23 (by intro k hk h; have q1 := h30.bk_ge k h; first | (have q2 := ho.bk_ge k hk; omega) | (dsimp only at hk; omega))))
          | (refine ⟨(Ext.new (Ext.new (Ext.trans (Ext.trans (Ext.trans (Ext.trans e_1 e4) e15) e20) e21) e22 (by intro i hi h; have := h27.bk_ge i h; omega)) e23 (by intro i hi h; have := h30.bk_ge i h; omega)), ?_⟩
             have hw : [] ++ (l.take j).drop 0 ++ [d] ++ (l.take l.length).drop j = Dt.withD l d := by
               rw [List.nil_append, List.drop_zero, List.take_length, List.append_assoc, List.singleton_append]
               exact Dt.with_at c8 hj hall (by first | exact .inr ⟨by omega, c21⟩ | exact .inl (by omega))
             rw [← hw]
             exact h34.low (by omega))

set_option maxHeartbeats 1000000 in
theorem runion_spec (v0 : Value) (a : List Dt.Dot) (v1 : Value) (b : List Dt.Dot) (F F2 : Nat → Prop) (w : World) (ha : Sl Dt.dotF.enc w F v0 a) (hb : Sl Dt.dotF.enc w F2 v1 b) (hn : a.length ≤ 1000) (hm : b.length ≤ 1000) :
    Ret Tryd.prog 35 #[v0, v1] w (fun v w' => Le w w' ∧ OwnF Dt.dotF 23 w.heap.size w' v (Dt.addAll (Dt.addAll [] a) b)) := by
  have hale := ha.le
  have hble := hb.le
  refine enter (args := [v0, v1]) (n := 33) Tryd.func35 rfl rfl (Nat.le_of_ble_eq_true rfl) ?_
  refine C.seqK fun K1 hK1 => ?_
  refine C.region ?_
  refine O.asg ?_
  refine O.nil ?_
  refine hK1 _ _ ?_
  refine C.seqK fun K2 hK2 => ?_
  refine C.region ?_
  refine O.asg ?_
  refine O.nil ?_
  refine hK2 _ _ ?_
  refine C.seqK fun K3 hK3 => ?_
  refine C.seqK fun K4 hK4 => ?_
  refine C.region ?_
  refine O.asg ?_
  refine O.nil ?_
  refine hK4 _ _ ?_
  refine C.block fun K5 hK5 => ?_
  refine C.loop0 (σ := Nat × Value) (fun f0 w0 ⟨k, o⟩ f wz => f 5 = o ∧ f 6 = .int .i64 (k) ∧ f 0 = f0 0 ∧ f 1 = f0 1 ∧ f 4 = f0 4 ∧ Le w wz ∧ OwnF Dt.dotF 23 w.heap.size wz o (Dt.addAll [] (a.take k)) ∧ k ≤ a.length) (fun ⟨k, o⟩ => a.length - k) (0, .slice none 0 0) ?_ ?_
  ·
    refine ⟨rfl, rfl, rfl, rfl, rfl, (Le.refl _), (OwnF.nil _ _ _ _), ?_⟩
    exact Nat.zero_le _
  ·
    rintro ⟨k, o⟩ f_1 w1 ⟨s5_1, s6_1, s0_1, s1_1, s4_1, e_1, r0_1, hk⟩
    have z_1 := e_1.size
    have r0_1s := r0_1.sl
    refine C.seqK fun K6 hK6 => ?_
    refine C.seqK fun K7 hK7 => ?_
    refine C.region ?_
    refine O.mv ?_
    refine O.mv ?_
    refine O.len Tryd.underlying35 s0_1 (ha.keep e_1) ?_
    refine O.lssI s6_1 rfl ?_
    refine O.nil ?_
    refine hK7 _ _ ?_
    refine C.condD rfl (fun c11 => ?_) (fun c11 => ?_)
    ·
      have hk2 : k < a.length := by omega
      refine C.skip ?_
      refine hK6 _ _ ?_
      refine C.seqK fun K8 hK8 => ?_
      refine C.block fun K9 hK9 => ?_
      refine C.region ?_
      refine O.mv ?_
      refine O.mv ?_
      refine O.mv ?_
      refine O.idx Tryd.underlying35 Tryd.sizeOf23 rfl s0_1 (ha.keep e_1) s6_1 (by omega) (fun a17 h17 => ?_)
      refine O.loadG (G := Dt.dotF) Tryd.isAgg23 Tryd.sizeOf23 rfl h17 ?_
      refine O.call Tryd.call49 (args2 s5_1 rfl) (with_spec _ _ (a[(k : Int).toNat]'(by omega)) w.heap.size _ r0_1 (by omega) (by have := Dt.addAll_length (a.take k) []; simp at this; omega)) ?_
      rintro v_19 w2 ⟨e2, h19⟩
      have z2 := e2.size
      refine O.asg ?_
      refine O.nil ?_
      refine hK9 _ _ ?_
      refine hK8 _ _ ?_
      refine C.region ?_
      refine O.mv ?_
      refine O.addI s6_1 rfl (by unfold InI; omega) ?_
      refine O.asg ?_
      refine O.nil ?_
      refine ⟨(k + 1, _), ⟨rfl, rfl, s0_1, s1_1, s4_1, (Ext.trans e_1 e2), (h19.lst (Dt.addAll_take hk2).symm), ?_⟩, by first | omega | (simp only []; omega)⟩
      omega
    ·
      obtain rfl : k = a.length := by omega
      refine C.exit ?_
      refine hK5 _ _ ?_
      refine hK3 _ _ ?_
      refine C.seqK fun K10 hK10 => ?_
      refine C.seqK fun K11 hK11 => ?_
      refine C.region ?_
      refine O.asg ?_
      refine O.nil ?_
      refine hK11 _ _ ?_
      refine C.block fun K12 hK12 => ?_
      refine C.loop0 (σ := Nat × Value) (fun f0 w0 ⟨k, o⟩ f wz => f 5 = o ∧ f 7 = .int .i64 (k) ∧ f 1 = f0 1 ∧ f 4 = f0 4 ∧ Le w wz ∧ OwnF Dt.dotF 23 w.heap.size wz o (Dt.addAll (Dt.addAll [] a) (b.take k)) ∧ k ≤ b.length) (fun ⟨k, o⟩ => b.length - k) (0, o) ?_ ?_
      ·
        refine ⟨s5_1, rfl, rfl, rfl, e_1, (r0_1.lst (by rw [List.take_length]; rfl)), ?_⟩
        exact Nat.zero_le _
      ·
        rintro ⟨k, o⟩ f_2 w3 ⟨s5_2, s7_2, s1_2, s4_2, e_2, r0_2, hk⟩
        have z_2 := e_2.size
        have r0_2s := r0_2.sl
        refine C.seqK fun K13 hK13 => ?_
        refine C.seqK fun K14 hK14 => ?_
        refine C.region ?_
        refine O.mv ?_
        refine O.mv ?_
        refine O.len Tryd.underlying35 (Eq.trans s1_2 s1_1) (hb.keep e_2) ?_
        refine O.lssI s7_2 rfl ?_
        refine O.nil ?_
        refine hK14 _ _ ?_
        refine C.condD rfl (fun c23 => ?_) (fun c23 => ?_)
        ·
          have hk2 : k < b.length := by omega
          refine C.skip ?_
          refine hK13 _ _ ?_
          refine C.seqK fun K15 hK15 => ?_
          refine C.block fun K16 hK16 => ?_
          refine C.region ?_
          refine O.mv ?_
          refine O.mv ?_
          refine O.mv ?_
          refine O.idx Tryd.underlying35 Tryd.sizeOf23 rfl (Eq.trans s1_2 s1_1) (hb.keep e_2) s7_2 (by omega) (fun a29 h29 => ?_)
          refine O.loadG (G := Dt.dotF) Tryd.isAgg23 Tryd.sizeOf23 rfl h29 ?_
          refine O.call Tryd.call49 (args2 s5_2 rfl) (with_spec _ _ (b[(k : Int).toNat]'(by omega)) w.heap.size _ r0_2 (by omega) (by have h0 := Dt.addAll_length (b.take k) (Dt.addAll [] a); have h1 := Dt.addAll_length a []; simp at h0 h1; omega)) ?_
          rintro v_31 w4 ⟨e4, h31⟩
          have z4 := e4.size
          refine O.asg ?_
          refine O.nil ?_
          refine hK16 _ _ ?_
          refine hK15 _ _ ?_
          refine C.region ?_
          refine O.mv ?_
          refine O.addI s7_2 rfl (by unfold InI; omega) ?_
          refine O.asg ?_
          refine O.nil ?_
          refine ⟨(k + 1, _), ⟨rfl, rfl, s1_2, s4_2, (Ext.trans e_2 e4), (h31.lst (Dt.addAll_take hk2).symm), ?_⟩, by first | omega | (simp only []; omega)⟩
          omega
        ·
          refine C.exit ?_
          refine hK12 _ _ ?_
          refine hK10 _ _ ?_
          refine C.seqK fun K17 hK17 => ?_
          refine C.region ?_
          refine O.mv ?_
          refine O.asg ?_
          refine O.nil ?_
          refine hK17 _ _ ?_
          refine C.ret ?_
          refine Outs.one rfl s5_2 ?_
          obtain rfl : k = b.length := by omega
          refine ⟨e_2, ?_⟩
          have hq := r0_2
          rw [List.take_length] at hq
          exact hq

theorem rset_spec (v0 : Value) (l : List Dt.Dot) (F : Nat → Prop) (w : World) (hl : Sl Dt.dotF.enc w F v0 l) (hn : l.length ≤ 1000) :
    Ret Tryd.prog 19 #[v0] w (fun v w' => Le w w' ∧ OwnF Dt.dotF 23 w.heap.size w' v (Dt.set l)) := by
  refine enter (args := [v0]) (n := 5) Tryd.func19 rfl rfl (Nat.le_of_ble_eq_true rfl) ?_
  refine C.seqK fun K1 hK1 => ?_
  refine C.region ?_
  refine O.asg ?_
  refine O.nil ?_
  refine hK1 _ _ ?_
  refine C.seqK fun K2 hK2 => ?_
  refine C.region ?_
  refine O.mv ?_
  refine O.call Tryd.call35 (args2 rfl rfl) (runion_spec _ _ _ [] _ (fun _ => False) _ hl (Sl.nil _ _ _) hn (by simp)) ?_
  rintro v_4 w1 ⟨e1, h4⟩
  have z1 := e1.size
  refine O.asg ?_
  refine O.nil ?_
  refine hK2 _ _ ?_
  refine C.ret ?_
  refine Outs.one rfl rfl ?_
  exact ⟨e1, h4⟩

end Go.Proofs.YtbmbaajfkmejgaaDoor
