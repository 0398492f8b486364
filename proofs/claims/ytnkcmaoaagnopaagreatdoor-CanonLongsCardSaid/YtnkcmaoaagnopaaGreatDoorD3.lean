/-
  The walks of dots: sets. Conditions: slices as they lie in memory.
-/
import Derived.Test.YtnkcmaoaagnopaaGreatDoorFw14
import Derived.Test.YtnkcmaoaagnopaaGreatDoorD2
namespace Go.Proofs.YtnkcmaoaagnopaaGreatDoor
open Go.Pn Go.RowKit

set_option maxHeartbeats 2000000 in
theorem compact_a_spec (g cap B : Nat) (l : List Dt.Dot) (w : World) (ho : OwnF Dt.dotF 51 B w (.slice (some ⟨g, 0, none⟩) l.length cap) l) (hn : l.length ≤ 1000000000000) :
    Ret Tryz.prog 99 #[.slice (some ⟨g, 0, none⟩) l.length cap] w (fun v w' => v = .slice (some ⟨g, 0, none⟩) (Dt.compact l).length cap ∧ OwnF Dt.dotF 51 B w' v (Dt.compact l) ∧ Ext (fun k => k = g) w w') := by
  have hs0 := ho.sl
  have hcap := ho.le_cap
  refine enter (args := [.slice (some ⟨g, 0, none⟩) l.length cap]) (n := 61) Tryz.func99 rfl rfl (Nat.le_of_ble_eq_true rfl) ?_
  refine C.seqK fun K1 hK1 => ?_
  refine C.region ?_
  refine O.asg ?_
  refine O.nil ?_
  refine hK1 _ _ ?_
  refine C.seqK fun K2 hK2 => ?_
  refine C.seqK fun K3 hK3 => ?_
  refine C.region ?_
  refine O.mv ?_
  refine O.len Tryz.underlying22 rfl hs0 ?_
  refine O.lssI rfl rfl ?_
  refine O.nil ?_
  refine hK3 _ _ ?_
  refine C.condD rfl (fun c8 => ?_) (fun c8 => ?_)
  ·
    refine C.seqK fun K4 hK4 => ?_
    refine C.region ?_
    refine O.mv ?_
    refine O.asg ?_
    refine O.nil ?_
    refine hK4 _ _ ?_
    refine C.ret ?_
    refine Outs.one rfl rfl ?_
    first
    | (have q0 : Dt.compact l = l := by
         rcases hq : l with _ | ⟨a, _ | ⟨b, r⟩⟩
         · rfl
         · rfl
         · rw [hq] at c8; simp at c8; omega
       refine ⟨congrArg (fun x : List Dt.Dot => Value.slice (some ⟨g, 0, none⟩) x.length cap) q0.symm, ?_, (Ext.refl _ _)⟩
       rw [q0]
       exact ho)
    | (have q0 : Dt.compact l = l := Dt.compact_distinct (fun i hi => hI i hi (by omega))
       refine ⟨congrArg (fun x : List Dt.Dot => Value.slice (some ⟨g, 0, none⟩) x.length cap) q0.symm, ?_, (Ext.refl _ _)⟩
       rw [q0]
       exact ho)
    | (have q1 : c.take m = Dt.compact l := by rw [hT, hj3, List.take_length]
       have q2 : (Dt.compact l).length = m := by rw [← q1, List.length_take]; omega
       refine ⟨congrArg (fun x : Nat => Value.slice (some ⟨g, 0, none⟩) x cap) q2.symm, ?_, (Ext.refl _ _)⟩
       have hf := ho
       obtain ⟨X, hX⟩ : ∃ X : List Dt.Dot, X = c.take m ++ List.replicate (l.length - m) ((0, 0) : Dt.Dot) := ⟨_, rfl⟩
       have hx : X.length = l.length := by rw [hX]; simp; omega
       rw [← hX, ← hx] at hf
       replace hf := hf.first (k := m) (by rw [hx]; omega)
       rw [hX, List.take_append_of_le_length (by simp; omega), List.take_take, Nat.min_self, q1] at hf
       exact hf)
  ·
    have hn2 : 2 ≤ l.length := by omega
    refine C.skip ?_
    refine hK2 _ _ ?_
    refine C.seqK fun K5 hK5 => ?_
    refine C.seqK fun K6 hK6 => ?_
    refine C.region ?_
    refine O.asg ?_
    refine O.nil ?_
    refine hK6 _ _ ?_
    refine C.block fun K7 hK7 => ?_
    refine C.loop0 (σ := Nat) (fun f0 w0 k f wz => f 3 = .int .i64 (k) ∧ f 0 = f0 0 ∧ Le w wz ∧ OwnF Dt.dotF 51 B wz (.slice (some ⟨g, 0, none⟩) l.length cap) l ∧ 1 ≤ k ∧ k ≤ l.length ∧ ∀ i, ∀ h : i + 1 < l.length, i + 1 < k → l[i] ≠ l[i + 1]) (fun k => l.length - k) 1 ?_ ?_
    ·
      refine ⟨rfl, rfl, (Le.refl _), ho, ?_⟩
      exact ⟨by omega, by omega, fun i h k => absurd k (by omega)⟩
    ·
      rintro k f_1 w1 ⟨s3_1, s0_1, e_1, r0_1, ⟨hk1, hk, hI⟩⟩
      have z_1 := e_1.size
      have r0_1s := r0_1.sl
      refine C.seqK fun K8 hK8 => ?_
      refine C.seqK fun K9 hK9 => ?_
      refine C.region ?_
      refine O.mv ?_
      refine O.mv ?_
      refine O.len Tryz.underlying22 s0_1 r0_1s ?_
      refine O.lssI s3_1 rfl ?_
      refine O.nil ?_
      refine hK9 _ _ ?_
      refine C.condD rfl (fun c13 => ?_) (fun c13 => ?_)
      ·
        have hk2 : k < l.length := by omega
        have x0 : ((k : Int)).toNat = k := by omega
        have x1 : ((k : Int) - 1).toNat = k - 1 := by omega
        refine C.skip ?_
        refine hK8 _ _ ?_
        refine C.seqK fun K10 hK10 => ?_
        refine C.block fun K11 hK11 => ?_
        refine C.seqK fun K12 hK12 => ?_
        refine C.draw (by kernel_rfl) fun w2 e2 => ?_
        have z2 := e2.size
        refine D.take (i := 0) rfl rfl rfl rfl (by kernel_rfl) (Le.refl _) ⟨pure _, rfl⟩ (fun w_ hw_ N_ hN => (O.mv (O.nil hN))) ?_
        refine D.take (i := 1) rfl rfl rfl rfl (by kernel_rfl) (Le.refl _) ⟨pure _, rfl⟩ (fun w_ hw_ N_ hN => (O.mv (O.nil hN))) ?_
        obtain ⟨a18, h18, hr18⟩ := Sl.at (i := (k : Int)) (P := Tryz.prog) Tryz.underlying22 Tryz.sizeOf51 rfl (r0_1s.keep e2) (by omega)
        refine D.take (i := 2) rfl rfl rfl rfl (by kernel_rfl) (Le.refl _) ⟨_, rfl⟩ (fun w_ hw_ N_ hN => (O.idxR s0_1 s3_1 hr18 (O.nil hN))) ?_
        refine D.take (i := 3) rfl rfl rfl rfl (by kernel_rfl) (Le.refl _) ⟨_, rfl⟩ (fun w_ hw_ N_ hN => (O.loadG (G := Dt.dotF) Tryz.isAgg51 Tryz.sizeOf51 rfl (h18.keep hw_) (O.nil hN))) ?_
        refine D.take (i := 4) rfl rfl rfl rfl (by kernel_rfl) (Le.refl _) ⟨pure _, rfl⟩ (fun w_ hw_ N_ hN => (O.mv (O.nil hN))) ?_
        refine D.take (i := 5) rfl rfl rfl rfl (by kernel_rfl) (Le.refl _) ⟨pure _, rfl⟩ (fun w_ hw_ N_ hN => (O.mv (O.nil hN))) ?_
        refine D.take (i := 6) rfl rfl rfl rfl (by kernel_rfl) (Le.refl _) ⟨_, rfl⟩ (fun w_ hw_ N_ hN => (O.subI s3_1 rfl (by unfold InI; omega) (O.nil hN))) ?_
        obtain ⟨a23, h23, hr23⟩ := Sl.at (i := (k : Int) - 1) (P := Tryz.prog) Tryz.underlying22 Tryz.sizeOf51 rfl (r0_1s.keep e2) (by omega)
        refine D.take (i := 7) rfl rfl rfl rfl (by kernel_rfl) (Le.refl _) ⟨_, rfl⟩ (fun w_ hw_ N_ hN => (O.idxR s0_1 rfl hr23 (O.nil hN))) ?_
        refine D.take (i := 8) rfl rfl rfl rfl (by kernel_rfl) (Le.refl _) ⟨_, rfl⟩ (fun w_ hw_ N_ hN => (O.loadG (G := Dt.dotF) Tryz.isAgg51 Tryz.sizeOf51 rfl (h23.keep hw_) (O.nil hN))) ?_
        refine D.take (i := 9) rfl rfl rfl rfl (by kernel_rfl) (Le.refl _) ⟨_, rfl⟩ (fun w_ hw_ N_ hN => (O.eqlP Tryz.underlying51 (by decide) (by decide) rfl rfl Tryz.underlying3 Tryz.underlying3 Tryz.isAgg3 Tryz.isAgg3 (by kernel_rfl) (by kernel_rfl) rfl rfl (O.nil hN))) ?_
        refine D.done (by kernel_rfl) ?_
        refine hK12 _ _ ?_
        refine C.condD rfl (fun c25 => ?_) (fun c25 => ?_)
        ·
          simp only [x0, x1] at c25
          refine C.seqK fun K13 hK13 => ?_
          refine C.region ?_
          refine O.mv ?_
          refine O.mv ?_
          refine O.subHi Tryz.underlying22 Tryz.sizeOf51 s0_1 s3_1 (by omega) (by omega) ?_
          refine O.asg ?_
          refine O.nil ?_
          refine hK13 _ _ ?_
          refine C.seqK fun K14 hK14 => ?_
          refine C.seqK fun K15 hK15 => ?_
          refine C.region ?_
          refine O.asg ?_
          refine O.nil ?_
          refine hK15 _ _ ?_
          refine C.block fun K16 hK16 => ?_
          refine C.loop0 (σ := Nat × Nat × List Dt.Dot) (fun f0 w0 ⟨j, m, c⟩ f w => f 5 = .int .i64 (j) ∧ f 3 = .int .i64 (m) ∧ f 0 = f0 0 ∧ f 2 = f0 2 ∧ f 4 = f0 4 ∧ Ext (fun k => k = g) w0 w ∧ OwnF Dt.dotF 51 B w (.slice (some ⟨g, 0, none⟩) l.length cap) c ∧ c.length = l.length ∧ 1 ≤ j ∧ k + j ≤ l.length ∧ 1 ≤ m ∧ m + 1 ≤ k + j ∧ c.take m = Dt.compact (l.take (k + j)) ∧ ∀ i, ∀ h1 : i < c.length, ∀ h2 : i < l.length, k + j ≤ i + 1 → c[i] = l[i]) (fun ⟨j, m, c⟩ => l.length - (k + j)) (1, k, l) ?_ ?_
          ·
            refine ⟨rfl, s3_1, rfl, rfl, rfl, Ext.refl _ _, (r0_1.keep e2), ?_⟩
            refine ⟨rfl, by omega, by omega, by omega, by omega, ?_, fun i _ _ _ => rfl⟩
            rw [Dt.compact_take hk1 hk2, if_pos c25.symm, List.append_nil, Dt.compact_distinct]
            intro i hi
            simp only [List.getElem_take]
            exact hI i (by simp at hi; omega) (by simp at hi; omega)
          ·
            rintro ⟨j, m, c⟩ f_2 w3 ⟨s5_2, s3_2, s0_2, s2_2, s4_2, e_2, r0_2, ⟨hcl, hj1, hj, hm1, hm, hT, hS⟩⟩
            have z_2 := e_2.size
            have r0_2s := r0_2.sl
            have hp4 := r0_2
            rw [← hcl] at hp4
            replace hp4 := hp4.part (k := k) (by omega)
            rw [hcl] at hp4
            refine C.seqK fun K17 hK17 => ?_
            refine C.seqK fun K18 hK18 => ?_
            refine C.region ?_
            refine O.mv ?_
            refine O.mv ?_
            refine O.len Tryz.underlying22 s4_2 hp4 ?_
            refine O.lssI s5_2 rfl ?_
            refine O.nil ?_
            refine hK18 _ _ ?_
            refine C.condD rfl (fun c32 => ?_) (fun c32 => ?_)
            ·
              have hj2 : k + j < c.length := by simp at c32; omega
              have y1 : ((j : Int)).toNat = j := by omega
              have y2 : ((j : Int) - 1).toNat = j - 1 := by omega
              have y3 : k + (j - 1) = k + j - 1 := by omega
              refine C.skip ?_
              refine hK17 _ _ ?_
              refine C.seqK fun K19 hK19 => ?_
              refine C.block fun K20 hK20 => ?_
              refine C.seqK fun K21 hK21 => ?_
              refine C.draw (by kernel_rfl) fun w4 e4 => ?_
              have z4 := e4.size
              refine D.take (i := 0) rfl rfl rfl rfl (by kernel_rfl) (Le.refl _) ⟨pure _, rfl⟩ (fun w_ hw_ N_ hN => (O.mv (O.nil hN))) ?_
              refine D.take (i := 1) rfl rfl rfl rfl (by kernel_rfl) (Le.refl _) ⟨pure _, rfl⟩ (fun w_ hw_ N_ hN => (O.mv (O.nil hN))) ?_
              obtain ⟨a37, h37, hr37⟩ := Sl.at (i := (j : Int)) (P := Tryz.prog) Tryz.underlying22 Tryz.sizeOf51 rfl (hp4.keep e4) (by simp; omega)
              refine D.take (i := 2) rfl rfl rfl rfl (by kernel_rfl) (Le.refl _) ⟨_, rfl⟩ (fun w_ hw_ N_ hN => (O.idxR s4_2 s5_2 hr37 (O.nil hN))) ?_
              refine D.take (i := 3) rfl rfl rfl rfl (by kernel_rfl) (Le.refl _) ⟨_, rfl⟩ (fun w_ hw_ N_ hN => (O.loadG (G := Dt.dotF) Tryz.isAgg51 Tryz.sizeOf51 rfl (h37.keep hw_) (O.nil hN))) ?_
              refine D.take (i := 4) rfl rfl rfl rfl (by kernel_rfl) (Le.refl _) ⟨pure _, rfl⟩ (fun w_ hw_ N_ hN => (O.mv (O.nil hN))) ?_
              refine D.take (i := 5) rfl rfl rfl rfl (by kernel_rfl) (Le.refl _) ⟨pure _, rfl⟩ (fun w_ hw_ N_ hN => (O.mv (O.nil hN))) ?_
              refine D.take (i := 6) rfl rfl rfl rfl (by kernel_rfl) (Le.refl _) ⟨_, rfl⟩ (fun w_ hw_ N_ hN => (O.subI s5_2 rfl (by unfold InI; omega) (O.nil hN))) ?_
              obtain ⟨a42, h42, hr42⟩ := Sl.at (i := (j : Int) - 1) (P := Tryz.prog) Tryz.underlying22 Tryz.sizeOf51 rfl (hp4.keep e4) (by simp; omega)
              refine D.take (i := 7) rfl rfl rfl rfl (by kernel_rfl) (Le.refl _) ⟨_, rfl⟩ (fun w_ hw_ N_ hN => (O.idxR s4_2 rfl hr42 (O.nil hN))) ?_
              refine D.take (i := 8) rfl rfl rfl rfl (by kernel_rfl) (Le.refl _) ⟨_, rfl⟩ (fun w_ hw_ N_ hN => (O.loadG (G := Dt.dotF) Tryz.isAgg51 Tryz.sizeOf51 rfl (h42.keep hw_) (O.nil hN))) ?_
              refine D.take (i := 9) rfl rfl rfl rfl (by kernel_rfl) (Le.refl _) ⟨_, rfl⟩ (fun w_ hw_ N_ hN => (O.neqP Tryz.underlying51 (by decide) (by decide) rfl rfl Tryz.underlying3 Tryz.underlying3 Tryz.isAgg3 Tryz.isAgg3 (by kernel_rfl) (by kernel_rfl) rfl rfl (O.nil hN))) ?_
              refine D.done (by kernel_rfl) ?_
              refine hK21 _ _ ?_
              refine C.condD rfl (fun c44 => ?_) (fun c44 => ?_)
              ·
                simp only [y1, y2, List.getElem_drop] at c44
                rw [hS (k + j) hj2 (by omega) (by omega), hS (k + (j - 1)) (by omega) (by omega) (by omega)] at c44
                simp only [y3] at c44
                refine C.seqK fun K22 hK22 => ?_
                refine C.region ?_
                refine O.mv ?_
                refine O.mv ?_
                refine O.mv ?_
                refine O.mv ?_
                refine O.idx Tryz.underlying22 Tryz.sizeOf51 rfl s4_2 (hp4.keep e4) s5_2 (by simp; omega) (fun a49 h49 => ?_)
                refine O.loadG (G := Dt.dotF) Tryz.isAgg51 Tryz.sizeOf51 rfl h49 ?_
                obtain ⟨u, hu⟩ : ∃ u : Dt.Dot, u = l[k + j]'(by omega) := ⟨_, rfl⟩
                refine O.cast (v' := .agg (Dt.dotF.e u).toArray) (by subst hu; simp only [y1, List.getElem_drop]; rw [hS (k + j) hj2 (by omega) (by omega)]) ?_
                refine O.idxO Tryz.underlying22 Tryz.sizeOf51 (Eq.trans s0_2 s0_1) s3_2 (by omega) ?_
                refine O.cast (v' := .pointer (some ⟨g, m * Dt.dotF.sz, none⟩)) (by rw [Nat.zero_add, Int.toNat_natCast]; rfl) ?_
                have ho51 := (r0_2.keep e4)
                rw [← hcl] at ho51
                refine O.storeG (G := Dt.dotF) (_) Tryz.sizeOf51 rfl rfl ho51 (by omega) (fun w5 hs5 e5 z5 => ?_)
                rw [hcl] at hs5
                refine O.nil ?_
                refine hK22 _ _ ?_
                refine C.region ?_
                refine O.mv ?_
                refine O.addI s3_2 rfl (by unfold InI; omega) ?_
                refine O.cast (v' := .int .i64 ((m + 1 : Nat) : Int)) rfl ?_
                refine O.asg ?_
                refine O.nil ?_
                refine hK20 _ _ ?_
                refine hK19 _ _ ?_
                refine C.region ?_
                refine O.mv ?_
                refine O.addI s5_2 rfl (by unfold InI; omega) ?_
                refine O.asg ?_
                refine O.nil ?_
                refine ⟨(j + 1, _, _), ⟨rfl, rfl, s0_2, s2_2, s4_2, (Ext.trans (Ext.trans e_2 (Le.to e4)) (e5)), hs5, ?_⟩, by first | omega | (simp only []; omega)⟩
                first
                | (refine ⟨by rw [List.length_set]; exact hcl, by omega, by omega, by omega, by omega, ?_, fun i h1 h2 h3 => ?_⟩
                   · rw [List.take_succ_eq_append_getElem (by rw [List.length_set]; omega), List.take_set, List.set_eq_of_length_le (by simp; omega), hT, show k + (j + 1) = k + j + 1 from rfl, Dt.compact_take (by omega) (by omega), if_neg (fun h => c44 h.symm), List.getElem_set_self, hu]
                   · rw [List.getElem_set_ne (by omega)]
                     exact hS i (by rw [List.length_set] at h1; exact h1) h2 (by omega))
                | (refine ⟨hcl, by omega, by omega, hm1, by omega, ?_, fun i h1 h2 h3 => hS i h1 h2 (by omega)⟩
                   rw [hT, show k + (j + 1) = k + j + 1 from rfl, Dt.compact_take (by omega) (by omega), if_pos (Decidable.of_not_not c44).symm, List.append_nil])
              ·
                simp only [y1, y2, List.getElem_drop] at c44
                rw [hS (k + j) hj2 (by omega) (by omega), hS (k + (j - 1)) (by omega) (by omega) (by omega)] at c44
                simp only [y3] at c44
                refine C.skip ?_
                refine hK20 _ _ ?_
                refine hK19 _ _ ?_
                refine C.region ?_
                refine O.mv ?_
                refine O.addI s5_2 rfl (by unfold InI; omega) ?_
                refine O.asg ?_
                refine O.nil ?_
                refine ⟨(j + 1, _, _), ⟨rfl, s3_2, s0_2, s2_2, s4_2, (Ext.trans e_2 (Le.to e4)), (r0_2.keep e4), ?_⟩, by first | omega | (simp only []; omega)⟩
                first
                | (refine ⟨by rw [List.length_set]; exact hcl, by omega, by omega, by omega, by omega, ?_, fun i h1 h2 h3 => ?_⟩
                   · rw [List.take_succ_eq_append_getElem (by rw [List.length_set]; omega), List.take_set, List.set_eq_of_length_le (by simp; omega), hT, show k + (j + 1) = k + j + 1 from rfl, Dt.compact_take (by omega) (by omega), if_neg (fun h => c44 h.symm), List.getElem_set_self, hu]
                   · rw [List.getElem_set_ne (by omega)]
                     exact hS i (by rw [List.length_set] at h1; exact h1) h2 (by omega))
                | (refine ⟨hcl, by omega, by omega, hm1, by omega, ?_, fun i h1 h2 h3 => hS i h1 h2 (by omega)⟩
                   rw [hT, show k + (j + 1) = k + j + 1 from rfl, Dt.compact_take (by omega) (by omega), if_pos (Decidable.of_not_not c44).symm, List.append_nil])
            ·
              have hj3 : k + j = l.length := by simp at c32; omega
              refine C.exit ?_
              refine hK16 _ _ ?_
              refine hK14 _ _ ?_
              refine C.seqK fun K23 hK23 => ?_
              refine C.region ?_
              refine O.mv ?_
              refine O.mv ?_
              refine O.subHi Tryz.underlying22 Tryz.sizeOf51 (Eq.trans s0_2 s0_1) s3_2 (by omega) (by omega) ?_
              have hkw6 := r0_2
              rw [← hcl] at hkw6
              refine O.clearG (G := Dt.dotF) (zx := (0, 0)) (k := m) Tryz.underlying22 Tryz.zeroValue51 rfl (by rw [hcl]; exact rfl) hkw6 (by omega) (fun w6 hc6 e6 z6 => ?_)
              rw [hcl] at hc6
              refine O.nil ?_
              refine hK23 _ _ ?_
              refine C.seqK fun K24 hK24 => ?_
              refine C.region ?_
              refine O.mv ?_
              refine O.mv ?_
              refine O.subLo Tryz.underlying22 Tryz.sizeOf51 (Eq.trans s0_2 s0_1) s3_2 (by omega) (by omega) ?_
              refine O.asg ?_
              refine O.nil ?_
              refine hK24 _ _ ?_
              refine C.ret ?_
              refine Outs.one rfl rfl ?_
              first
              | (have q0 : Dt.compact l = l := by
                   rcases hq : l with _ | ⟨a, _ | ⟨b, r⟩⟩
                   · rfl
                   · rfl
                   · rw [hq] at c8; simp at c8; omega
                 refine ⟨congrArg (fun x : List Dt.Dot => Value.slice (some ⟨g, 0, none⟩) x.length cap) q0.symm, ?_, (Ext.trans (Ext.trans (Ext.trans (Le.to e_1) (Le.to e2)) e_2) e6)⟩
                 rw [q0]
                 exact hc6)
              | (have q0 : Dt.compact l = l := Dt.compact_distinct (fun i hi => hI i hi (by omega))
                 refine ⟨congrArg (fun x : List Dt.Dot => Value.slice (some ⟨g, 0, none⟩) x.length cap) q0.symm, ?_, (Ext.trans (Ext.trans (Ext.trans (Le.to e_1) (Le.to e2)) e_2) e6)⟩
                 rw [q0]
                 exact hc6)
              | (have q1 : c.take m = Dt.compact l := by rw [hT, hj3, List.take_length]
                 have q2 : (Dt.compact l).length = m := by rw [← q1, List.length_take]; omega
                 refine ⟨congrArg (fun x : Nat => Value.slice (some ⟨g, 0, none⟩) x cap) q2.symm, ?_, (Ext.trans (Ext.trans (Ext.trans (Le.to e_1) (Le.to e2)) e_2) e6)⟩
                 have hf := hc6
                 obtain ⟨X, hX⟩ : ∃ X : List Dt.Dot, X = c.take m ++ List.replicate (l.length - m) ((0, 0) : Dt.Dot) := ⟨_, rfl⟩
                 have hx : X.length = l.length := by rw [hX]; simp; omega
                 rw [← hX, ← hx] at hf
                 replace hf := hf.first (k := m) (by rw [hx]; omega)
                 rw [hX, List.take_append_of_le_length (by simp; omega), List.take_take, Nat.min_self, q1] at hf
                 exact hf)
        ·
          simp only [x0, x1] at c25
          refine C.skip ?_
          refine hK11 _ _ ?_
          refine hK10 _ _ ?_
          refine C.region ?_
          refine O.mv ?_
          refine O.addI s3_1 rfl (by unfold InI; omega) ?_
          refine O.asg ?_
          refine O.nil ?_
          refine ⟨k + 1, ⟨rfl, s0_1, (Ext.trans e_1 e2), (r0_1.keep e2), ?_⟩, by first | omega | (simp only []; omega)⟩
          refine ⟨by omega, by omega, fun i hi hik => ?_⟩
          rcases Nat.lt_or_eq_of_le (Nat.le_of_lt_succ hik) with h | rfl
          · exact hI i hi h
          · exact fun h => c25 h.symm
      ·
        refine C.exit ?_
        refine hK7 _ _ ?_
        refine hK5 _ _ ?_
        refine C.seqK fun K25 hK25 => ?_
        refine C.region ?_
        refine O.mv ?_
        refine O.asg ?_
        refine O.nil ?_
        refine hK25 _ _ ?_
        refine C.ret ?_
        refine Outs.one rfl s0_1 ?_
        first
        | (have q0 : Dt.compact l = l := by
             rcases hq : l with _ | ⟨a, _ | ⟨b, r⟩⟩
             · rfl
             · rfl
             · rw [hq] at c8; simp at c8; omega
           refine ⟨congrArg (fun x : List Dt.Dot => Value.slice (some ⟨g, 0, none⟩) x.length cap) q0.symm, ?_, (Le.to e_1)⟩
           rw [q0]
           exact r0_1)
        | (have q0 : Dt.compact l = l := Dt.compact_distinct (fun i hi => hI i hi (by omega))
           refine ⟨congrArg (fun x : List Dt.Dot => Value.slice (some ⟨g, 0, none⟩) x.length cap) q0.symm, ?_, (Le.to e_1)⟩
           rw [q0]
           exact r0_1)
        | (have q1 : c.take m = Dt.compact l := by rw [hT, hj3, List.take_length]
           have q2 : (Dt.compact l).length = m := by rw [← q1, List.length_take]; omega
           refine ⟨congrArg (fun x : Nat => Value.slice (some ⟨g, 0, none⟩) x cap) q2.symm, ?_, (Le.to e_1)⟩
           have hf := r0_1
           obtain ⟨X, hX⟩ : ∃ X : List Dt.Dot, X = c.take m ++ List.replicate (l.length - m) ((0, 0) : Dt.Dot) := ⟨_, rfl⟩
           have hx : X.length = l.length := by rw [hX]; simp; omega
           rw [← hX, ← hx] at hf
           replace hf := hf.first (k := m) (by rw [hx]; omega)
           rw [hX, List.take_append_of_le_length (by simp; omega), List.take_take, Nat.min_self, q1] at hf
           exact hf)

end Go.Proofs.YtnkcmaoaagnopaaGreatDoor
