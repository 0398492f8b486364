/-
  The walks of dots: sets of lists. Conditions: slices as they lie in memory.
-/
import Derived.Test.YtnkcmaoaagnopaaGreatDoorD3
import Derived.Test.YtnkcmaoaagnopaaGreatDoorFw12
import Derived.Test.YtnkcmaoaagnopaaGreatDoorFw16
import Derived.Test.YtnkcmaoaagnopaaGreatDoorSortLay
import Derived.Test.YtnkcmaoaagnopaaGreatDoorShelf
namespace Go.Proofs.YtnkcmaoaagnopaaGreatDoor
open Go.Pn Go.RowKit Go.Proofs
attribute [local irreducible] O C D
theorem _root_.Go.Pn.OwnF.lst {α : Type} {G : Flat α} {ty : TypeId} {B : Nat} {w : World} {v : Value} {xs ys : List α} (h : OwnF G ty B w v xs) (e : xs = ys) : OwnF G ty B w v ys := e ▸ h


theorem blen_spec (w : World) : Ret Tryz.prog 118 #[.int .u64 ((0#64).toNat : Int)] w (fun v w' => (∃ k : Int, v = .int .i64 k) ∧ w' = w) := by
  refine Ret.of (Tryz.bits_Len 0 w (by decide) (by decide)) ?_
  rintro e w' ⟨rfl, rfl⟩
  exact ⟨_, rfl, ⟨_, rfl⟩, rfl⟩

theorem ins0_spec (w : World) :
    Ret Tryz.prog 135 #[.slice none 0 0, .int .i64 (0), .int .i64 (0), .func (.func 89) #[] #[]] w (fun v w' => v = .tuple #[] ∧ w' = w) := by
  refine enter (args := [.slice none 0 0, .int .i64 (0), .int .i64 (0), .func (.func 89) #[] #[]]) (n := 53) Tryz.func135 rfl rfl (Nat.le_of_ble_eq_true rfl) ?_
  refine C.seqK fun K1 hK1 => ?_
  refine C.region ?_
  refine O.mv ?_
  refine O.addI rfl rfl (by unfold InI; omega) ?_
  refine O.cast (v' := .int .i64 (1)) rfl ?_
  refine O.asg ?_
  refine O.nil ?_
  refine hK1 _ _ ?_
  refine C.block fun K2 hK2 => ?_
  refine C.loop0 (σ := Nat) (fun f0 w0 z f w => f 8 = .int .i64 (1) ∧ f 0 = f0 0 ∧ f 1 = f0 1 ∧ f 2 = f0 2 ∧ f 3 = f0 3 ∧ w = w0) (fun z => z) 0 ?_ ?_
  ·
    exact ⟨rfl, rfl, rfl, rfl, rfl, rfl⟩
  ·
    rintro z f_1 wx ⟨s8_1, s0_1, s1_1, s2_1, s3_1, rfl⟩
    refine C.seqK fun K3 hK3 => ?_
    refine C.seqK fun K4 hK4 => ?_
    refine C.region ?_
    refine O.mv ?_
    refine O.mv ?_
    refine O.lssI s8_1 s2_1 ?_
    refine O.cast (v' := .bool false) rfl ?_
    refine O.nil ?_
    refine hK4 _ _ ?_
    refine C.condF rfl ?_
    refine C.exit ?_
    refine hK2 _ _ ?_
    refine Outs.none rfl ?_
    exact ⟨rfl, rfl⟩

theorem pdq0_spec (lim : Int) (w : World) :
    Ret Tryz.prog 117 #[.slice none 0 0, .int .i64 (0), .int .i64 (0), .int .i64 (lim), .func (.func 89) #[] #[]] w (fun v w' => v = .tuple #[] ∧ w' = w) := by
  refine enter (args := [.slice none 0 0, .int .i64 (0), .int .i64 (0), .int .i64 (lim), .func (.func 89) #[] #[]]) (n := 148) Tryz.func117 rfl rfl (Nat.le_of_ble_eq_true rfl) ?_
  refine C.seqK fun K1 hK1 => ?_
  refine C.region ?_
  refine O.asg ?_
  refine O.nil ?_
  refine hK1 _ _ ?_
  refine C.seqK fun K2 hK2 => ?_
  refine C.region ?_
  refine O.asg ?_
  refine O.nil ?_
  refine hK2 _ _ ?_
  refine C.block fun K3 hK3 => ?_
  refine C.loop0 (σ := Nat) (fun f0 w0 z f w => f 1 = .int .i64 (0) ∧ f 2 = .int .i64 (0) ∧ f 10 = .bool (true) ∧ f 11 = .bool (true) ∧ f 0 = f0 0 ∧ f 4 = f0 4 ∧ w = w0) (fun z => z) 0 ?_ ?_
  ·
    exact ⟨rfl, rfl, rfl, rfl, rfl, rfl, rfl⟩
  ·
    rintro z f_1 wx ⟨s1_1, s2_1, s10_1, s11_1, s0_1, s4_1, rfl⟩
    refine C.block fun K4 hK4 => ?_
    refine C.seqK fun K5 hK5 => ?_
    refine C.region ?_
    refine O.mv ?_
    refine O.mv ?_
    refine O.subI s2_1 s1_1 (by unfold InI; omega) ?_
    refine O.cast (v' := .int .i64 (0)) rfl ?_
    refine O.asg ?_
    refine O.nil ?_
    refine hK5 _ _ ?_
    refine C.seqK fun K6 hK6 => ?_
    refine C.seqK fun K7 hK7 => ?_
    refine C.region ?_
    refine O.mv ?_
    refine O.leqI rfl rfl ?_
    refine O.cast (v' := .bool true) rfl ?_
    refine O.nil ?_
    refine hK7 _ _ ?_
    refine C.condT rfl ?_
    refine C.seqK fun K8 hK8 => ?_
    refine C.region ?_
    refine O.mv ?_
    refine O.mv ?_
    refine O.mv ?_
    refine O.mv ?_
    refine O.call Tryz.call135 (args4 s0_1 s1_1 s2_1 s4_1) (ins0_spec _) ?_
    rintro v_30 w1 ⟨rfl, hw_⟩
    replace hw_ := hw_.symm
    subst hw_
    refine O.nil ?_
    refine hK8 _ _ ?_
    refine C.ret ?_
    refine Outs.none rfl ?_
    exact ⟨rfl, rfl⟩

theorem sort0_spec (w : World) :
    Ret Tryz.prog 98 #[.slice none 0 0, .func (.func 89) #[] #[]] w (fun v w' => v = .tuple #[] ∧ w' = w) := by
  refine enter (args := [.slice none 0 0, .func (.func 89) #[] #[]]) (n := 14) Tryz.func98 rfl rfl (Nat.le_of_ble_eq_true rfl) ?_
  refine C.seqK fun K1 hK1 => ?_
  refine C.region ?_
  refine O.mv ?_
  refine O.lenL Tryz.underlying22 rfl ?_
  refine O.cast (v' := .int .i64 0) rfl ?_
  refine O.asg ?_
  refine O.nil ?_
  refine hK1 _ _ ?_
  refine C.region ?_
  refine O.mv ?_
  refine O.mv ?_
  refine O.mv ?_
  refine O.convIU (m' := 64) Tryz.underlying3 Tryz.underlying155 rfl rfl rfl ?_
  refine O.cast (v' := .int .u64 ((0#64).toNat : Int)) rfl ?_
  refine O.call Tryz.call118 (args1 rfl) (blen_spec _) ?_
  rintro v_11 w1 ⟨⟨kv11, rfl⟩, rfl⟩
  refine O.mv ?_
  refine O.call Tryz.call117 (args5 rfl rfl rfl rfl rfl) (pdq0_spec _ _) ?_
  rintro v_13 w1 ⟨rfl, hw_⟩
  replace hw_ := hw_.symm
  subst hw_
  refine O.nil ?_
  refine Outs.none rfl ?_
  exact ⟨rfl, rfl⟩

theorem compact0_spec (w : World) :
    Ret Tryz.prog 99 #[.slice none 0 0] w (fun v w' => v = .slice none 0 0 ∧ w' = w) := by
  refine enter (args := [.slice none 0 0]) (n := 61) Tryz.func99 rfl rfl (Nat.le_of_ble_eq_true rfl) ?_
  refine C.seqK fun K1 hK1 => ?_
  refine C.region ?_
  refine O.asg ?_
  refine O.nil ?_
  refine hK1 _ _ ?_
  refine C.seqK fun K2 hK2 => ?_
  refine C.seqK fun K3 hK3 => ?_
  refine C.region ?_
  refine O.mv ?_
  refine O.lenL Tryz.underlying22 rfl ?_
  refine O.cast (v' := .int .i64 0) rfl ?_
  refine O.lssI rfl rfl ?_
  refine O.cast (v' := .bool true) rfl ?_
  refine O.nil ?_
  refine hK3 _ _ ?_
  refine C.condT rfl ?_
  refine C.seqK fun K4 hK4 => ?_
  refine C.region ?_
  refine O.mv ?_
  refine O.asg ?_
  refine O.nil ?_
  refine hK4 _ _ ?_
  refine C.ret ?_
  refine Outs.one rfl rfl ?_
  exact ⟨rfl, rfl⟩


theorem swoD : Go.Sort.SWO (ltOf Dt.cmp) where
  irrefl x := by unfold ltOf; exact decide_eq_false (fun h => Dt.less_irrefl x ((Dt.cmp_lt x x).1 h))
  trans x y z h1 h2 := by
    unfold ltOf at *
    simp only [decide_eq_true_eq, Dt.cmp_lt] at *
    exact Dt.less_trans h1 h2
  ntrans x y z h1 h2 := by
    unfold ltOf at *
    simp only [decide_eq_false_iff_not, Dt.cmp_lt] at *
    intro h
    rcases Dt.less_total y z with k | k | k
    · exact h2 k
    · subst k; exact h1 h
    · exact h1 (Dt.less_trans h k)
theorem sortD_spec (v : Value) (l : List Dt.Dot) (B : Nat) (w : World) (h : OwnF Dt.dotF 51 B w v l) (hn : l.length ≤ 1000000000000) :
    Ret Tryz.prog 98 #[v, .func (.func 89) #[] #[]] w (fun r w' => r = .tuple #[] ∧ (∃ l' : List Dt.Dot, OwnF Dt.dotF 51 B w' v l' ∧ l'.Perm l ∧ l'.Pairwise (fun a b => ¬ Dt.Less b a)) ∧ Ext (bk v) w w') := by
  rcases h.1.2 with ⟨rfl, h0⟩ | ⟨g, cap, cur, rfl, _⟩
  · obtain rfl : l = [] := List.eq_nil_of_length_eq_zero h0
    refine (sort0_spec w).mono ?_
    rintro e w' ⟨rfl, rfl⟩
    exact ⟨rfl, ⟨[], h, List.Perm.refl _, List.Pairwise.nil⟩, Ext.refl _ _⟩
  · obtain ⟨hH, hlt⟩ := h.holdsK
    have eg : ∀ args w, (callFunc 89 args).run Tryz.prog w = .ok (.enter 89 args) w := enters_of Tryz.func89 (by kernel_rfl) rfl
    have hcmp : CmpLays Tryz.prog 89 #[] Dt.dotF.e Dt.dotF.sz Dt.cmp g 0 l.toArray.size w := fun m os dk hs x y =>
      (cmp_spec x y _).calls.mono fun e w' hh => by
        obtain ⟨v, he, hv, hle, hd⟩ := hh
        exact ⟨by rw [he, hv], grow_of_le hle hd⟩
    have hs : l.toArray.size < 4611686018427387904 := by simp; omega
    have hcon := AnyQ.slices_SortFunc Tryz.sortF Dt.dotF.sz Tryz.isAgg51 Tryz.sizeOf51 Dt.dotF.e Dt.dotF.len Dt.dotF.one Dt.cmp swoD 89 #[] g 0 cap l.toArray w eg hcmp hH hlt hs
    refine Ret.of hcon ?_
    rintro e w' ⟨rfl, d', m, os, hp, hso, rfl⟩
    obtain ⟨hd, _, hperm⟩ := hp
    have hd2 : d'.size = l.length := by simpa using hd
    obtain ⟨h1, h2⟩ := h.sortedK hd2 m os
    refine ⟨_, rfl, rfl, ⟨d'.toList, h1, ?_, ?_⟩, h2.mono fun k _ hk => hk⟩
    · have e1 : (l.toArray.extract 0 l.toArray.size).toList = l := by simp
      have e2 : (d'.extract 0 l.toArray.size).toList = d'.toList := by rw [← hd]; simp
      rw [e1, e2] at hperm
      exact hperm
    · rw [List.pairwise_iff_getElem]
      intro i j hi hj hij
      have hi2 : i < d'.size := by simpa using hi
      have hj2 : j < d'.size := by simpa using hj
      have h3 := hso i j (Nat.zero_le _) hij (by simpa [hd2] using hj)
      unfold ltOf at h3
      simp only [decide_eq_false_iff_not] at h3
      rw [Dt.cmp_lt, getElem!_pos d' i hi2, getElem!_pos d' j hj2] at h3
      simpa using h3
theorem compactD_spec (v : Value) (l : List Dt.Dot) (B : Nat) (w : World) (h : OwnF Dt.dotF 51 B w v l) (hn : l.length ≤ 1000000000000) :
    Ret Tryz.prog 99 #[v] w (fun r w' => OwnF Dt.dotF 51 B w' r (Dt.compact l) ∧ Ext (bk v) w w') := by
  rcases h.1.2 with ⟨rfl, h0⟩ | ⟨g, cap, cur, rfl, _⟩
  · obtain rfl : l = [] := List.eq_nil_of_length_eq_zero h0
    refine (compact0_spec w).mono ?_
    rintro e w' ⟨rfl, rfl⟩
    exact ⟨h, Ext.refl _ _⟩
  · refine (compact_a_spec g cap B l w h hn).mono ?_
    rintro e w' ⟨rfl, h1, h2⟩
    exact ⟨h1, h2.mono fun k _ hk => hk⟩

theorem set_spec (v0 : Value) (l : List Dt.Dot) (F : Nat → Prop) (w : World) (hl : Sl Dt.dotF.enc w F v0 l) (hn : l.length ≤ 1000000000000) :
    Ret Tryz.prog 70 #[v0] w (fun v w' => Le w w' ∧ OwnF Dt.dotF 51 w.heap.size w' v (Dt.set l)) := by
  refine enter (args := [v0]) (n := 10) Tryz.func70 rfl rfl (Nat.le_of_ble_eq_true rfl) ?_
  refine C.seqK fun K1 hK1 => ?_
  refine C.region ?_
  refine O.asg ?_
  refine O.nil ?_
  refine hK1 _ _ ?_
  refine C.seqK fun K2 hK2 => ?_
  refine C.region ?_
  refine O.mv ?_
  refine O.call Tryz.call97 (args1 rfl) (clone_spec _ _ _ _ hl hn) ?_
  rintro v_5 w1 ⟨e1, h5⟩
  have z1 := e1.size
  refine O.asg ?_
  refine O.nil ?_
  refine hK2 _ _ ?_
  refine C.seqK fun K3 hK3 => ?_
  refine C.region ?_
  refine O.mv ?_
  refine O.call Tryz.call98 (args2 rfl rfl) (sortD_spec _ _ _ _ h5 hn) ?_
  rintro v_7 w2 ⟨rfl, ⟨l7, hs7, hp7, ha7⟩, e2⟩
  have z2 := e2.size
  refine O.nil ?_
  refine hK3 _ _ ?_
  refine C.seqK fun K4 hK4 => ?_
  refine C.region ?_
  refine O.mv ?_
  refine O.call Tryz.call99 (args1 rfl) (compactD_spec _ _ _ _ hs7 (by rw [hp7.length_eq]; exact hn)) ?_
  rintro v_9 w3 ⟨h9, e3⟩
  have z3 := e3.size
  refine O.asg ?_
  refine O.nil ?_
  refine hK4 _ _ ?_
  refine C.ret ?_
  refine Outs.one rfl rfl ?_
  refine ⟨(Ext.new (Ext.new e1 e2 (by intro i hi h; have := h5.bk_ge i h; omega)) e3 (by intro i hi h; have := hs7.bk_ge i h; omega)), ?_⟩
  rw [← Dt.set_of_sorted hp7 ha7]
  exact h9

end Go.Proofs.YtnkcmaoaagnopaaGreatDoor
