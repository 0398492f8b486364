/-
  The walks of floats: the reference's sorted lists. Conditions: slices as they lie in memory.
-/
import Derived.Test.YtbadfphdniliaaaDoorFw9
import Derived.Test.YtbadfphdniliaaaDoorSort
import Derived.Test.YtbadfphdniliaaaDoorFl2
namespace Go.Proofs.YtbadfphdniliaaaDoor
open Go.Pn Go.RowKit

theorem _root_.Go.Pn.OwnF.lst {α : Type} {G : Flat α} {ty : TypeId} {B : Nat} {w : World} {v : Value} {xs ys : List α} (h : OwnF G ty B w v xs) (e : xs = ys) : OwnF G ty B w v ys := e ▸ h
set_option maxHeartbeats 1000000 in
theorem rsorted_spec (v0 : Value) (l : List (BitVec 64)) (F : Nat → Prop) (w : World) (hl : Sl u64E w F v0 l) (hn : l.length ≤ 1000000) :
    Ret Tryd.prog 25 #[v0] w (fun v w' => Le w w' ∧ OwnF u64F 22 w.heap.size w' v (Fl.sorted l)) := by
  have hle := hl.le
  obtain ⟨ie22, hi22, hs22, hb22, hz22⟩ := inf22
  refine enter (args := [v0]) (n := 46) Tryd.func25 rfl rfl (Nat.le_of_ble_eq_true rfl) ?_
  refine C.seqK fun K1 hK1 => ?_
  refine C.region ?_
  refine O.asg ?_
  refine O.nil ?_
  refine hK1 _ _ ?_
  refine C.seqK fun K2 hK2 => ?_
  refine C.region ?_
  refine O.asg ?_
  refine O.nil ?_
  refine hK2 _ _ ?_
  refine C.seqK fun K3 hK3 => ?_
  refine C.seqK fun K4 hK4 => ?_
  refine C.region ?_
  refine O.asg ?_
  refine O.nil ?_
  refine hK4 _ _ ?_
  refine C.block fun K5 hK5 => ?_
  refine C.loop0 (σ := Nat × Value) (fun f0 w0 ⟨k, o⟩ f wz => f 3 = o ∧ f 4 = .int .i64 (k) ∧ f 0 = f0 0 ∧ f 2 = f0 2 ∧ Le w wz ∧ OwnF u64F 22 w.heap.size wz o (Fl.sorted (l.take k)) ∧ k ≤ l.length) (fun ⟨k, o⟩ => l.length - k) (0, .slice none 0 0) ?_ ?_
  ·
    refine ⟨rfl, rfl, rfl, rfl, (Le.refl _), (OwnF.nil _ _ _ _), ?_⟩
    exact Nat.zero_le _
  ·
    rintro ⟨k, o⟩ f_1 w1 ⟨s3_1, s4_1, s0_1, s2_1, e_1, r0_1, hk⟩
    have z_1 := e_1.size
    have r0_1s := r0_1.sl
    refine C.seqK fun K6 hK6 => ?_
    refine C.seqK fun K7 hK7 => ?_
    refine C.region ?_
    refine O.mv ?_
    refine O.mv ?_
    refine O.len Tryd.underlying34 s0_1 (hl.keep e_1) ?_
    refine O.lssI s4_1 rfl ?_
    refine O.nil ?_
    refine hK7 _ _ ?_
    refine C.condD rfl (fun c9 => ?_) (fun c9 => ?_)
    ·
      have hk2 : k < l.length := by omega
      have hsl : (Fl.sorted (l.take k)).length = k := by rw [Fl.sorted_length, List.length_take]; omega
      refine C.skip ?_
      refine hK6 _ _ ?_
      refine C.seqK fun K8 hK8 => ?_
      refine C.block fun K9 hK9 => ?_
      refine C.seqK fun K10 hK10 => ?_
      refine C.region ?_
      refine O.asg ?_
      refine O.nil ?_
      refine hK10 _ _ ?_
      refine C.seqK fun K11 hK11 => ?_
      refine C.block fun K12 hK12 => ?_
      refine C.loop0 (σ := Nat) (fun f0 w0 j f wz => f 5 = .int .i64 (j) ∧ f 0 = f0 0 ∧ f 2 = f0 2 ∧ f 3 = f0 3 ∧ f 4 = f0 4 ∧ Le w wz ∧ OwnF u64F 22 w.heap.size wz o (Fl.sorted (l.take k)) ∧ j ≤ (Fl.sorted (l.take k)).length ∧ ∀ y ∈ (Fl.sorted (l.take k)).take j, Fl.key y ≤ Fl.key (l[k]'hk2)) (fun j => (Fl.sorted (l.take k)).length - j) 0 ?_ ?_
      ·
        refine ⟨rfl, rfl, rfl, rfl, rfl, e_1, r0_1, ?_⟩
        exact ⟨Nat.zero_le _, by simp⟩
      ·
        rintro j f_2 w2 ⟨s5_2, s0_2, s2_2, s3_2, s4_2, e_2, r0_2, ⟨hj, hall⟩⟩
        have z_2 := e_2.size
        have r0_2s := r0_2.sl
        refine C.seqK fun K13 hK13 => ?_
        refine C.seqK fun K14 hK14 => ?_
        refine C.draw (by kernel_rfl) fun w3 e3 => ?_
        have z3 := e3.size
        refine D.take (i := 0) rfl rfl rfl rfl (by kernel_rfl) (Le.refl _) ⟨pure _, rfl⟩ (fun w_ hw_ N_ hN => (O.mv (O.nil hN))) ?_
        refine D.take (i := 1) rfl rfl rfl rfl (by kernel_rfl) (Le.refl _) ⟨pure _, rfl⟩ (fun w_ hw_ N_ hN => (O.mv (O.nil hN))) ?_
        refine D.take (i := 2) rfl rfl rfl rfl (by kernel_rfl) (Le.refl _) len_form (fun w_ hw_ N_ hN => (O.len Tryd.underlying34 (Eq.trans s3_2 s3_1) ((r0_2s.keep e3).keep hw_) (O.nil hN))) ?_
        refine D.take (i := 3) rfl rfl rfl rfl (by kernel_rfl) (Le.refl _) ⟨_, rfl⟩ (fun w_ hw_ N_ hN => (O.lssI s5_2 rfl (O.nil hN))) ?_
        refine D.take (i := 4) rfl rfl rfl rfl (by kernel_rfl) (Le.refl _) ⟨pure _, rfl⟩ (fun w_ hw_ N_ hN => (O.mv (O.nil hN))) ?_
        refine D.splitD (x := .tmp 16) rfl (fun c16 => ?_) (fun c16 => ?_)
        ·
          refine D.takeYes (i := 5) rfl rfl rfl (by kernel_rfl) rfl (isT rfl c16) (Le.refl _) ⟨pure _, rfl⟩ (fun w_ hw_ N_ hN => (O.mv (O.nil hN))) ?_
          refine D.takeYes (i := 6) rfl rfl rfl (by kernel_rfl) rfl (isT rfl c16) (Le.refl _) ⟨pure _, rfl⟩ (fun w_ hw_ N_ hN => (O.mv (O.nil hN))) ?_
          obtain ⟨a19, h19, hr19⟩ := Sl.at (i := (j : Int)) (P := Tryd.prog) Tryd.underlying34 Tryd.sizeOf22 rfl (r0_2s.keep e3) (by omega)
          refine D.takeYes (i := 7) rfl rfl rfl (by kernel_rfl) rfl (isT rfl c16) (Le.refl _) ⟨_, rfl⟩ (fun w_ hw_ N_ hN => (O.idxR (Eq.trans s3_2 s3_1) s5_2 hr19 (O.nil hN))) ?_
          refine D.takeYes (i := 8) rfl rfl rfl (by kernel_rfl) rfl (isT rfl c16) (Le.refl _) ⟨_, rfl⟩ (fun w_ hw_ N_ hN => (O.loadU64 Tryd.isAgg22 rfl (h19.keep hw_) (O.nil hN))) ?_
          refine D.takeYes (i := 10) rfl rfl rfl (by kernel_rfl) rfl (isT rfl c16) (Le.refl _) ⟨pure _, rfl⟩ (fun w_ hw_ N_ hN => (O.mv (O.nil hN))) ?_
          refine D.takeYes (i := 11) rfl rfl rfl (by kernel_rfl) rfl (isT rfl c16) (Le.refl _) ⟨pure _, rfl⟩ (fun w_ hw_ N_ hN => (O.mv (O.nil hN))) ?_
          obtain ⟨a24, h24, hr24⟩ := Sl.at (i := (k : Int)) (P := Tryd.prog) Tryd.underlying34 Tryd.sizeOf22 rfl ((hl.keep e_2).keep e3) (by omega)
          refine D.takeYes (i := 12) rfl rfl rfl (by kernel_rfl) rfl (isT rfl c16) (Le.refl _) ⟨_, rfl⟩ (fun w_ hw_ N_ hN => (O.idxR (Eq.trans s0_2 s0_1) (Eq.trans s4_2 s4_1) hr24 (O.nil hN))) ?_
          refine D.takeYes (i := 13) rfl rfl rfl (by kernel_rfl) rfl (isT rfl c16) (Le.refl _) ⟨_, rfl⟩ (fun w_ hw_ N_ hN => (O.loadU64 Tryd.isAgg22 rfl (h24.keep hw_) (O.nil hN))) ?_
          refine D.oneYes (i := 9) rfl rfl (isT rfl c16) (by kernel_rfl) ?_
          refine O.call Tryd.call11 (args1 rfl) (rkey_spec _ _) ?_
          rintro v_21 w4 ⟨rfl, hw_⟩
          replace hw_ := hw_.symm
          subst hw_
          refine O.nil ⟨(Le.refl _), ?_⟩
          refine D.oneYes (i := 14) rfl rfl (isT rfl c16) (by kernel_rfl) ?_
          refine O.call Tryd.call11 (args1 rfl) (rkey_spec _ _) ?_
          rintro v_26 w4 ⟨rfl, hw_⟩
          replace hw_ := hw_.symm
          subst hw_
          refine O.nil ⟨(Le.refl _), ?_⟩
          refine D.takeYes (i := 15) rfl rfl rfl (by kernel_rfl) rfl (isT rfl c16) (Le.refl _) ⟨_, rfl⟩ (fun w_ hw_ N_ hN => (O.leqU (m := 64) rfl rfl (O.nil hN))) ?_
          refine D.take (i := 16) rfl rfl rfl rfl (by kernel_rfl) (Le.refl _) pick_form (fun w_ hw_ N_ hN => (O.pickT (isT rfl c16) (O.nil hN))) ?_
          refine D.done (by kernel_rfl) ?_
          refine hK14 _ _ ?_
          refine C.condD rfl (fun c28 => ?_) (fun c28 => ?_)
          ·
            refine C.skip ?_
            refine hK13 _ _ ?_
            refine C.block fun K15 hK15 => ?_
            refine C.region ?_
            refine O.mv ?_
            refine O.addI s5_2 rfl (by unfold InI; omega) ?_
            refine O.asg ?_
            refine O.nil ?_
            refine hK15 _ _ ?_
            refine ⟨j + 1, ⟨rfl, s0_2, s2_2, s3_2, s4_2, (Ext.trans e_2 e3), (r0_2.keep e3), ?_⟩, by first | omega | (simp only []; omega)⟩
            have hjl : j < (Fl.sorted (l.take k)).length := by omega
            refine ⟨by omega, ?_⟩
            intro y hy
            rw [List.take_succ_eq_append_getElem hjl, List.mem_append, List.mem_singleton] at hy
            rcases hy with hy | rfl
            · exact hall y hy
            · exact c28
          ·
            refine C.exit ?_
            refine hK12 _ _ ?_
            refine hK11 _ _ ?_
            refine C.drawB (wB := w) (by kernel_rfl) fun w4 e4 => ?_
            have z4 := e4.size
            refine D.take (i := 0) rfl rfl rfl rfl (by kernel_rfl) (Ext.trans (Ext.trans e_2 e3) e4) ⟨pure _, rfl⟩ (fun w_ hw_ N_ hN => (O.mv (O.nil hN))) ?_
            refine D.take (i := 1) rfl rfl rfl rfl (by kernel_rfl) (Ext.trans (Ext.trans e_2 e3) e4) ⟨pure _, rfl⟩ (fun w_ hw_ N_ hN => (O.mv (O.nil hN))) ?_
            obtain ⟨v33, hs33, hr33⟩ := Sl.sub (P := Tryd.prog) (0) (j) Tryd.underlying34 Tryd.sizeOf22 rfl ((r0_2s.keep e3).keep e4) (Nat.zero_le _) hj
            refine D.take (i := 2) rfl rfl rfl rfl (by kernel_rfl) (Ext.trans (Ext.trans e_2 e3) e4) ⟨_, rfl⟩ (fun w_ hw_ N_ hN => (O.subR (Eq.trans s3_2 s3_1) hr33 (.inl ⟨rfl, rfl⟩) (.inr ⟨_, _, rfl, s5_2⟩) (O.nil hN))) ?_
            refine D.take (i := 4) rfl rfl rfl rfl (by kernel_rfl) (Ext.trans (Ext.trans e_2 e3) e4) ⟨pure _, rfl⟩ (fun w_ hw_ N_ hN => (O.mv (O.nil hN))) ?_
            refine D.take (i := 5) rfl rfl rfl rfl (by kernel_rfl) (Ext.trans (Ext.trans e_2 e3) e4) ⟨pure _, rfl⟩ (fun w_ hw_ N_ hN => (O.mv (O.nil hN))) ?_
            obtain ⟨a37, h37, hr37⟩ := Sl.at (i := (k : Int)) (P := Tryd.prog) Tryd.underlying34 Tryd.sizeOf22 rfl hl (by omega)
            refine D.take (i := 6) rfl rfl rfl rfl (by kernel_rfl) (Ext.trans (Ext.trans e_2 e3) e4) ⟨_, rfl⟩ (fun w_ hw_ N_ hN => (O.idxR (Eq.trans s0_2 s0_1) (Eq.trans s4_2 s4_1) hr37 (O.nil hN))) ?_
            refine D.take (i := 7) rfl rfl rfl rfl (by kernel_rfl) (Ext.trans (Ext.trans e_2 e3) e4) ⟨_, rfl⟩ (fun w_ hw_ N_ hN => (O.loadU64 Tryd.isAgg22 rfl (h37.keep hw_) (O.nil hN))) ?_
            refine D.take (i := 10) rfl rfl rfl rfl (by kernel_rfl) (Ext.trans (Ext.trans e_2 e3) e4) ⟨pure _, rfl⟩ (fun w_ hw_ N_ hN => (O.mv (O.nil hN))) ?_
            refine D.take (i := 11) rfl rfl rfl rfl (by kernel_rfl) (Ext.trans (Ext.trans e_2 e3) e4) ⟨pure _, rfl⟩ (fun w_ hw_ N_ hN => (O.mv (O.nil hN))) ?_
            obtain ⟨v43, hs43, hr43⟩ := Sl.sub (P := Tryd.prog) (j) ((Fl.sorted (l.take k)).length) Tryd.underlying34 Tryd.sizeOf22 rfl ((r0_2s.keep e3).keep e4) hj (Nat.le_refl _)
            refine D.take (i := 12) rfl rfl rfl rfl (by kernel_rfl) (Ext.trans (Ext.trans e_2 e3) e4) ⟨_, rfl⟩ (fun w_ hw_ N_ hN => (O.subR (Eq.trans s3_2 s3_1) hr43 (.inr ⟨_, _, rfl, s5_2⟩) (.inl ⟨rfl, rfl⟩) (O.nil hN))) ?_
            refine D.two (i := 3) (i' := 8) rfl rfl rfl rfl (by kernel_rfl) ?_ ?_
            ·
              refine O.appF (G := u64F) Tryd.underlying34 hi22 hz22 hs22 rfl rfl rfl (OwnF.nil _ _ _ _) hs33 (by rw [hb22]; simp; omega) (by unfold maxLen; simp; omega) (Nat.le_refl _) (fun v34 w5 h34 e5 => ?_)
              replace e5 : Le w4 w5 := e5.mono (fun _ _ h => h)
              have z5 := e5.size
              have h34s := h34.sl
              refine O.nil ⟨(Ext.trans (Ext.trans (Ext.trans e_2 e3) e4) e5), ?_⟩
              refine D.one (i := 8) rfl rfl (by kernel_rfl) ?_
              refine O.lit1 Tryd.underlying34 hi22 hs22 hz22 rfl rfl (fun b39 w6 hb39 hz39 e6 => ?_)
              have z6 := e6.size
              have h39 := hz39.own
              have hl39 := h39.lt
              refine O.nil ⟨(Ext.trans (Ext.trans (Ext.trans (Ext.trans e_2 e3) e4) e5) e6), ?_⟩
              have h1039 : Sl u64F.enc w6 (fun k => k = b39) _ [(l[(k : Int).toNat]'(by omega))] := Sl.one h39 rfl rfl
              refine D.one (i := 9) rfl rfl (by kernel_rfl) ?_
              refine O.appF (G := u64F) Tryd.underlying34 hi22 hz22 hs22 rfl rfl rfl (h34.keep e6) h1039 (by rw [hb22]; simp; omega) (by unfold maxLen; simp; omega) (by omega) (fun v40 w7 h40 e7 => ?_)
              have z7 := e7.size
              have h40s := h40.sl
              refine O.nil ⟨(Ext.new (Ext.trans (Ext.trans (Ext.trans (Ext.trans e_2 e3) e4) e5) e6) e7 (by intro i hi h; have := (h34.keep e6).bk_ge i h; omega)), ?_⟩
              refine D.one (i := 13) rfl rfl (by kernel_rfl) ?_
              refine O.appF (G := u64F) Tryd.underlying34 hi22 hz22 hs22 rfl rfl rfl h40 (((hs43.keep e5).keep e6).keepM e7 (by intro k hk h; have h8 := (h34.keep e6).bk_ge k h; first | (dsimp only at hk; omega) | omega | (have h9 := r0_2.bk_ge k hk; omega))) (by rw [hb22]; simp; omega) (by unfold maxLen; simp; omega) (by omega) (fun v44 w8 h44 e8 => ?_)
              have z8 := e8.size
              have h44s := h44.sl
              refine O.nil ⟨(Ext.new (Ext.new (Ext.trans (Ext.trans (Ext.trans (Ext.trans e_2 e3) e4) e5) e6) e7 (by intro i hi h; have := (h34.keep e6).bk_ge i h; omega)) e8 (by intro i hi h; have := h40.bk_ge i h; omega)), ?_⟩
              refine D.take (i := 14) rfl rfl rfl rfl (by kernel_rfl) (Ext.new (Ext.new (Ext.trans (Ext.trans (Ext.trans (Ext.trans e_2 e3) e4) e5) e6) e7 (by intro i hi h; have := (h34.keep e6).bk_ge i h; omega)) e8 (by intro i hi h; have := h40.bk_ge i h; omega)) ⟨pure _, rfl⟩ (fun w_ hw_ N_ hN => (O.asg (O.nil hN))) ?_
              refine D.done (by kernel_rfl) ?_
              refine hK9 _ _ ?_
              refine hK8 _ _ ?_
              refine C.region ?_
              refine O.mv ?_
              refine O.addI (Eq.trans s4_2 s4_1) rfl (by unfold InI; omega) ?_
              refine O.asg ?_
              refine O.nil ?_
              refine ⟨(k + 1, _), ⟨rfl, rfl, (Eq.trans s0_2 s0_1), (Eq.trans s2_2 s2_1), (Ext.new (Ext.new (Ext.trans (Ext.trans (Ext.trans (Ext.trans e_2 e3) e4) e5) e6) e7 (by intro i hi h; have := (h34.keep e6).bk_ge i h; omega)) e8 (by intro i hi h; have := h40.bk_ge i h; omega)), ((h44.low (by omega)).lst (by rw [Fl.sorted_take hk2, ← Fl.ins_at hj hall (by first | exact .inl (by omega) | exact .inr ⟨by omega, c28⟩)]; simp)), ?_⟩, by first | omega | (simp only []; omega)⟩
              omega
            ·
              refine O.lit1 Tryd.underlying34 hi22 hs22 hz22 rfl rfl (fun b39 w9 hb39 hz39 e9 => ?_)
              have z9 := e9.size
              have h39 := hz39.own
              have hl39 := h39.lt
              refine O.nil ⟨(Ext.trans (Ext.trans (Ext.trans e_2 e3) e4) e9), ?_⟩
              have h1039 : Sl u64F.enc w9 (fun k => k = b39) _ [(l[(k : Int).toNat]'(by omega))] := Sl.one h39 rfl rfl
              refine D.one (i := 3) rfl rfl (by kernel_rfl) ?_
              refine O.appF (G := u64F) Tryd.underlying34 hi22 hz22 hs22 rfl rfl rfl (OwnF.nil _ _ _ _) (hs33.keep e9) (by rw [hb22]; simp; omega) (by unfold maxLen; simp; omega) (Nat.le_refl _) (fun v34 w10 h34 e10 => ?_)
              replace e10 : Le w9 w10 := e10.mono (fun _ _ h => h)
              have z10 := e10.size
              have h34s := h34.sl
              refine O.nil ⟨(Ext.trans (Ext.trans (Ext.trans (Ext.trans e_2 e3) e4) e9) e10), ?_⟩
              refine D.one (i := 9) rfl rfl (by kernel_rfl) ?_
              refine O.appF (G := u64F) Tryd.underlying34 hi22 hz22 hs22 rfl rfl rfl h34 (h1039.keep e10) (by rw [hb22]; simp; omega) (by unfold maxLen; simp; omega) (by omega) (fun v40 w11 h40 e11 => ?_)
              have z11 := e11.size
              have h40s := h40.sl
              refine O.nil ⟨(Ext.new (Ext.trans (Ext.trans (Ext.trans (Ext.trans e_2 e3) e4) e9) e10) e11 (by intro i hi h; have := h34.bk_ge i h; omega)), ?_⟩
              refine D.one (i := 13) rfl rfl (by kernel_rfl) ?_
              refine O.appF (G := u64F) Tryd.underlying34 hi22 hz22 hs22 rfl rfl rfl h40 (((hs43.keep e9).keep e10).keepM e11 (by intro k hk h; have h8 := h34.bk_ge k h; first | (dsimp only at hk; omega) | omega | (have h9 := r0_2.bk_ge k hk; omega))) (by rw [hb22]; simp; omega) (by unfold maxLen; simp; omega) (by omega) (fun v44 w12 h44 e12 => ?_)
              have z12 := e12.size
              have h44s := h44.sl
              refine O.nil ⟨(Ext.new (Ext.new (Ext.trans (Ext.trans (Ext.trans (Ext.trans e_2 e3) e4) e9) e10) e11 (by intro i hi h; have := h34.bk_ge i h; omega)) e12 (by intro i hi h; have := h40.bk_ge i h; omega)), ?_⟩
              refine D.take (i := 14) rfl rfl rfl rfl (by kernel_rfl) (Ext.new (Ext.new (Ext.trans (Ext.trans (Ext.trans (Ext.trans e_2 e3) e4) e9) e10) e11 (by intro i hi h; have := h34.bk_ge i h; omega)) e12 (by intro i hi h; have := h40.bk_ge i h; omega)) ⟨pure _, rfl⟩ (fun w_ hw_ N_ hN => (O.asg (O.nil hN))) ?_
              refine D.done (by kernel_rfl) ?_
              refine hK9 _ _ ?_
              refine hK8 _ _ ?_
              refine C.region ?_
              refine O.mv ?_
              refine O.addI (Eq.trans s4_2 s4_1) rfl (by unfold InI; omega) ?_
              refine O.asg ?_
              refine O.nil ?_
              refine ⟨(k + 1, _), ⟨rfl, rfl, (Eq.trans s0_2 s0_1), (Eq.trans s2_2 s2_1), (Ext.new (Ext.new (Ext.trans (Ext.trans (Ext.trans (Ext.trans e_2 e3) e4) e9) e10) e11 (by intro i hi h; have := h34.bk_ge i h; omega)) e12 (by intro i hi h; have := h40.bk_ge i h; omega)), ((h44.low (by omega)).lst (by rw [Fl.sorted_take hk2, ← Fl.ins_at hj hall (by first | exact .inl (by omega) | exact .inr ⟨by omega, c28⟩)]; simp)), ?_⟩, by first | omega | (simp only []; omega)⟩
              omega
        ·
          refine D.takeNo (i := 5) rfl rfl (by kernel_rfl) (Le.refl _) rfl (noB (isF rfl c16) rfl) ?_
          refine D.takeNo (i := 6) rfl rfl (by kernel_rfl) (Le.refl _) rfl (noB (isF rfl c16) rfl) ?_
          refine D.takeNo (i := 7) rfl rfl (by kernel_rfl) (Le.refl _) rfl (noB (isF rfl c16) rfl) ?_
          refine D.takeNo (i := 8) rfl rfl (by kernel_rfl) (Le.refl _) rfl (noB (isF rfl c16) rfl) ?_
          refine D.takeNo (i := 9) rfl rfl (by kernel_rfl) (Le.refl _) rfl (noB (isF rfl c16) rfl) ?_
          refine D.takeNo (i := 10) rfl rfl (by kernel_rfl) (Le.refl _) rfl (noB (isF rfl c16) rfl) ?_
          refine D.takeNo (i := 11) rfl rfl (by kernel_rfl) (Le.refl _) rfl (noB (isF rfl c16) rfl) ?_
          refine D.takeNo (i := 12) rfl rfl (by kernel_rfl) (Le.refl _) rfl (noB (isF rfl c16) rfl) ?_
          refine D.takeNo (i := 13) rfl rfl (by kernel_rfl) (Le.refl _) rfl (noB (isF rfl c16) rfl) ?_
          refine D.takeNo (i := 14) rfl rfl (by kernel_rfl) (Le.refl _) rfl (noB (isF rfl c16) rfl) ?_
          refine D.takeNo (i := 15) rfl rfl (by kernel_rfl) (Le.refl _) rfl (noB (isF rfl c16) rfl) ?_
          refine D.take (i := 16) rfl rfl rfl rfl (by kernel_rfl) (Le.refl _) pick_form (fun w_ hw_ N_ hN => (O.pickF (isF rfl c16) (O.nil hN))) ?_
          refine D.done (by kernel_rfl) ?_
          refine hK14 _ _ ?_
          refine C.condF rfl ?_
          refine C.exit ?_
          refine hK12 _ _ ?_
          refine hK11 _ _ ?_
          refine C.drawB (wB := w) (by kernel_rfl) fun w13 e13 => ?_
          have z13 := e13.size
          refine D.take (i := 0) rfl rfl rfl rfl (by kernel_rfl) (Ext.trans (Ext.trans e_2 e3) e13) ⟨pure _, rfl⟩ (fun w_ hw_ N_ hN => (O.mv (O.nil hN))) ?_
          refine D.take (i := 1) rfl rfl rfl rfl (by kernel_rfl) (Ext.trans (Ext.trans e_2 e3) e13) ⟨pure _, rfl⟩ (fun w_ hw_ N_ hN => (O.mv (O.nil hN))) ?_
          obtain ⟨v33, hs33, hr33⟩ := Sl.sub (P := Tryd.prog) (0) (j) Tryd.underlying34 Tryd.sizeOf22 rfl ((r0_2s.keep e3).keep e13) (Nat.zero_le _) hj
          refine D.take (i := 2) rfl rfl rfl rfl (by kernel_rfl) (Ext.trans (Ext.trans e_2 e3) e13) ⟨_, rfl⟩ (fun w_ hw_ N_ hN => (O.subR (Eq.trans s3_2 s3_1) hr33 (.inl ⟨rfl, rfl⟩) (.inr ⟨_, _, rfl, s5_2⟩) (O.nil hN))) ?_
          refine D.take (i := 4) rfl rfl rfl rfl (by kernel_rfl) (Ext.trans (Ext.trans e_2 e3) e13) ⟨pure _, rfl⟩ (fun w_ hw_ N_ hN => (O.mv (O.nil hN))) ?_
          refine D.take (i := 5) rfl rfl rfl rfl (by kernel_rfl) (Ext.trans (Ext.trans e_2 e3) e13) ⟨pure _, rfl⟩ (fun w_ hw_ N_ hN => (O.mv (O.nil hN))) ?_
          obtain ⟨a37, h37, hr37⟩ := Sl.at (i := (k : Int)) (P := Tryd.prog) Tryd.underlying34 Tryd.sizeOf22 rfl hl (by omega)
          refine D.take (i := 6) rfl rfl rfl rfl (by kernel_rfl) (Ext.trans (Ext.trans e_2 e3) e13) ⟨_, rfl⟩ (fun w_ hw_ N_ hN => (O.idxR (Eq.trans s0_2 s0_1) (Eq.trans s4_2 s4_1) hr37 (O.nil hN))) ?_
          refine D.take (i := 7) rfl rfl rfl rfl (by kernel_rfl) (Ext.trans (Ext.trans e_2 e3) e13) ⟨_, rfl⟩ (fun w_ hw_ N_ hN => (O.loadU64 Tryd.isAgg22 rfl (h37.keep hw_) (O.nil hN))) ?_
          refine D.take (i := 10) rfl rfl rfl rfl (by kernel_rfl) (Ext.trans (Ext.trans e_2 e3) e13) ⟨pure _, rfl⟩ (fun w_ hw_ N_ hN => (O.mv (O.nil hN))) ?_
          refine D.take (i := 11) rfl rfl rfl rfl (by kernel_rfl) (Ext.trans (Ext.trans e_2 e3) e13) ⟨pure _, rfl⟩ (fun w_ hw_ N_ hN => (O.mv (O.nil hN))) ?_
          obtain ⟨v43, hs43, hr43⟩ := Sl.sub (P := Tryd.prog) (j) ((Fl.sorted (l.take k)).length) Tryd.underlying34 Tryd.sizeOf22 rfl ((r0_2s.keep e3).keep e13) hj (Nat.le_refl _)
          refine D.take (i := 12) rfl rfl rfl rfl (by kernel_rfl) (Ext.trans (Ext.trans e_2 e3) e13) ⟨_, rfl⟩ (fun w_ hw_ N_ hN => (O.subR (Eq.trans s3_2 s3_1) hr43 (.inr ⟨_, _, rfl, s5_2⟩) (.inl ⟨rfl, rfl⟩) (O.nil hN))) ?_
          refine D.two (i := 3) (i' := 8) rfl rfl rfl rfl (by kernel_rfl) ?_ ?_
          ·
            refine O.appF (G := u64F) Tryd.underlying34 hi22 hz22 hs22 rfl rfl rfl (OwnF.nil _ _ _ _) hs33 (by rw [hb22]; simp; omega) (by unfold maxLen; simp; omega) (Nat.le_refl _) (fun v34 w14 h34 e14 => ?_)
            replace e14 : Le w13 w14 := e14.mono (fun _ _ h => h)
            have z14 := e14.size
            have h34s := h34.sl
            refine O.nil ⟨(Ext.trans (Ext.trans (Ext.trans e_2 e3) e13) e14), ?_⟩
            refine D.one (i := 8) rfl rfl (by kernel_rfl) ?_
            refine O.lit1 Tryd.underlying34 hi22 hs22 hz22 rfl rfl (fun b39 w15 hb39 hz39 e15 => ?_)
            have z15 := e15.size
            have h39 := hz39.own
            have hl39 := h39.lt
            refine O.nil ⟨(Ext.trans (Ext.trans (Ext.trans (Ext.trans e_2 e3) e13) e14) e15), ?_⟩
            have h1039 : Sl u64F.enc w15 (fun k => k = b39) _ [(l[(k : Int).toNat]'(by omega))] := Sl.one h39 rfl rfl
            refine D.one (i := 9) rfl rfl (by kernel_rfl) ?_
            refine O.appF (G := u64F) Tryd.underlying34 hi22 hz22 hs22 rfl rfl rfl (h34.keep e15) h1039 (by rw [hb22]; simp; omega) (by unfold maxLen; simp; omega) (by omega) (fun v40 w16 h40 e16 => ?_)
            have z16 := e16.size
            have h40s := h40.sl
            refine O.nil ⟨(Ext.new (Ext.trans (Ext.trans (Ext.trans (Ext.trans e_2 e3) e13) e14) e15) e16 (by intro i hi h; have := (h34.keep e15).bk_ge i h; omega)), ?_⟩
            refine D.one (i := 13) rfl rfl (by kernel_rfl) ?_
            refine O.appF (G := u64F) Tryd.underlying34 hi22 hz22 hs22 rfl rfl rfl h40 (((hs43.keep e14).keep e15).keepM e16 (by intro k hk h; have h8 := (h34.keep e15).bk_ge k h; first | (dsimp only at hk; omega) | omega | (have h9 := r0_2.bk_ge k hk; omega))) (by rw [hb22]; simp; omega) (by unfold maxLen; simp; omega) (by omega) (fun v44 w17 h44 e17 => ?_)
            have z17 := e17.size
            have h44s := h44.sl
            refine O.nil ⟨(Ext.new (Ext.new (Ext.trans (Ext.trans (Ext.trans (Ext.trans e_2 e3) e13) e14) e15) e16 (by intro i hi h; have := (h34.keep e15).bk_ge i h; omega)) e17 (by intro i hi h; have := h40.bk_ge i h; omega)), ?_⟩
            refine D.take (i := 14) rfl rfl rfl rfl (by kernel_rfl) (Ext.new (Ext.new (Ext.trans (Ext.trans (Ext.trans (Ext.trans e_2 e3) e13) e14) e15) e16 (by intro i hi h; have := (h34.keep e15).bk_ge i h; omega)) e17 (by intro i hi h; have := h40.bk_ge i h; omega)) ⟨pure _, rfl⟩ (fun w_ hw_ N_ hN => (O.asg (O.nil hN))) ?_
            refine D.done (by kernel_rfl) ?_
            refine hK9 _ _ ?_
            refine hK8 _ _ ?_
            refine C.region ?_
            refine O.mv ?_
            refine O.addI (Eq.trans s4_2 s4_1) rfl (by unfold InI; omega) ?_
            refine O.asg ?_
            refine O.nil ?_
            refine ⟨(k + 1, _), ⟨rfl, rfl, (Eq.trans s0_2 s0_1), (Eq.trans s2_2 s2_1), (Ext.new (Ext.new (Ext.trans (Ext.trans (Ext.trans (Ext.trans e_2 e3) e13) e14) e15) e16 (by intro i hi h; have := (h34.keep e15).bk_ge i h; omega)) e17 (by intro i hi h; have := h40.bk_ge i h; omega)), ((h44.low (by omega)).lst (by rw [Fl.sorted_take hk2, ← Fl.ins_at hj hall (by first | exact .inl (by omega) | exact .inr ⟨by omega, c28⟩)]; simp)), ?_⟩, by first | omega | (simp only []; omega)⟩
            omega
          ·
            refine O.lit1 Tryd.underlying34 hi22 hs22 hz22 rfl rfl (fun b39 w18 hb39 hz39 e18 => ?_)
            have z18 := e18.size
            have h39 := hz39.own
            have hl39 := h39.lt
            refine O.nil ⟨(Ext.trans (Ext.trans (Ext.trans e_2 e3) e13) e18), ?_⟩
            have h1039 : Sl u64F.enc w18 (fun k => k = b39) _ [(l[(k : Int).toNat]'(by omega))] := Sl.one h39 rfl rfl
            refine D.one (i := 3) rfl rfl (by kernel_rfl) ?_
            refine O.appF (G := u64F) Tryd.underlying34 hi22 hz22 hs22 rfl rfl rfl (OwnF.nil _ _ _ _) (hs33.keep e18) (by rw [hb22]; simp; omega) (by unfold maxLen; simp; omega) (Nat.le_refl _) (fun v34 w19 h34 e19 => ?_)
            replace e19 : Le w18 w19 := e19.mono (fun _ _ h => h)
            have z19 := e19.size
            have h34s := h34.sl
            refine O.nil ⟨(Ext.trans (Ext.trans (Ext.trans (Ext.trans e_2 e3) e13) e18) e19), ?_⟩
            refine D.one (i := 9) rfl rfl (by kernel_rfl) ?_
            refine O.appF (G := u64F) Tryd.underlying34 hi22 hz22 hs22 rfl rfl rfl h34 (h1039.keep e19) (by rw [hb22]; simp; omega) (by unfold maxLen; simp; omega) (by omega) (fun v40 w20 h40 e20 => ?_)
            have z20 := e20.size
            have h40s := h40.sl
            refine O.nil ⟨(Ext.new (Ext.trans (Ext.trans (Ext.trans (Ext.trans e_2 e3) e13) e18) e19) e20 (by intro i hi h; have := h34.bk_ge i h; omega)), ?_⟩
            refine D.one (i := 13) rfl rfl (by kernel_rfl) ?_
            refine O.appF (G := u64F) Tryd.underlying34 hi22 hz22 hs22 rfl rfl rfl h40 (((hs43.keep e18).keep e19).keepM e20 (by intro k hk h; have h8 := h34.bk_ge k h; first | (dsimp only at hk; omega) | omega | (have h9 := r0_2.bk_ge k hk; omega))) (by rw [hb22]; simp; omega) (by unfold maxLen; simp; omega) (by omega) (fun v44 w21 h44 e21 => ?_)
            have z21 := e21.size
            have h44s := h44.sl
            refine O.nil ⟨(Ext.new (Ext.new (Ext.trans (Ext.trans (Ext.trans (Ext.trans e_2 e3) e13) e18) e19) e20 (by intro i hi h; have := h34.bk_ge i h; omega)) e21 (by intro i hi h; have := h40.bk_ge i h; omega)), ?_⟩
            refine D.take (i := 14) rfl rfl rfl rfl (by kernel_rfl) (Ext.new (Ext.new (Ext.trans (Ext.trans (Ext.trans (Ext.trans e_2 e3) e13) e18) e19) e20 (by intro i hi h; have := h34.bk_ge i h; omega)) e21 (by intro i hi h; have := h40.bk_ge i h; omega)) ⟨pure _, rfl⟩ (fun w_ hw_ N_ hN => (O.asg (O.nil hN))) ?_
            refine D.done (by kernel_rfl) ?_
            refine hK9 _ _ ?_
            refine hK8 _ _ ?_
            refine C.region ?_
            refine O.mv ?_
            refine O.addI (Eq.trans s4_2 s4_1) rfl (by unfold InI; omega) ?_
            refine O.asg ?_
            refine O.nil ?_
            refine ⟨(k + 1, _), ⟨rfl, rfl, (Eq.trans s0_2 s0_1), (Eq.trans s2_2 s2_1), (Ext.new (Ext.new (Ext.trans (Ext.trans (Ext.trans (Ext.trans e_2 e3) e13) e18) e19) e20 (by intro i hi h; have := h34.bk_ge i h; omega)) e21 (by intro i hi h; have := h40.bk_ge i h; omega)), ((h44.low (by omega)).lst (by rw [Fl.sorted_take hk2, ← Fl.ins_at hj hall (by first | exact .inl (by omega) | exact .inr ⟨by omega, c28⟩)]; simp)), ?_⟩, by first | omega | (simp only []; omega)⟩
            omega
    ·
      refine C.exit ?_
      refine hK5 _ _ ?_
      refine hK3 _ _ ?_
      refine C.seqK fun K16 hK16 => ?_
      refine C.region ?_
      refine O.mv ?_
      refine O.asg ?_
      refine O.nil ?_
      refine hK16 _ _ ?_
      refine C.ret ?_
      refine Outs.one rfl s3_1 ?_
      obtain rfl : k = l.length := by omega
      refine ⟨e_1, ?_⟩
      have hq := r0_1
      rw [List.take_length] at hq
      exact hq

set_option maxHeartbeats 1000000 in
theorem rsum_spec (v0 : Value) (l : List (BitVec 64)) (F : Nat → Prop) (w : World) (hl : Sl u64E w F v0 l) (hn : l.length ≤ 1000000) :
    Ret Tryd.prog 27 #[v0] w (fun v w' => Le w w' ∧ ∃ r, Fl.Sum (Fl.sorted (l.map Fl.canon)) r ∧ v = .int .u64 ((Fl.canon r).toNat : Int)) := by
  have hle := hl.le
  obtain ⟨ie22, hi22, hs22, hb22, hz22⟩ := inf22
  refine enter (args := [v0]) (n := 39) Tryd.func27 rfl rfl (Nat.le_of_ble_eq_true rfl) ?_
  refine C.seqK fun K1 hK1 => ?_
  refine C.region ?_
  refine O.asg ?_
  refine O.nil ?_
  refine hK1 _ _ ?_
  refine C.seqK fun K2 hK2 => ?_
  refine C.region ?_
  refine O.asg ?_
  refine O.nil ?_
  refine hK2 _ _ ?_
  refine C.seqK fun K3 hK3 => ?_
  refine C.seqK fun K4 hK4 => ?_
  refine C.region ?_
  refine O.asg ?_
  refine O.nil ?_
  refine hK4 _ _ ?_
  refine C.block fun K5 hK5 => ?_
  refine C.loop0 (σ := Nat × Value) (fun f0 w0 ⟨k, o⟩ f wz => f 3 = o ∧ f 4 = .int .i64 (k) ∧ f 0 = f0 0 ∧ f 2 = f0 2 ∧ Le w wz ∧ OwnF u64F 22 w.heap.size wz o ((l.take k).map Fl.canon) ∧ k ≤ l.length) (fun ⟨k, o⟩ => l.length - k) (0, .slice none 0 0) ?_ ?_
  ·
    refine ⟨rfl, rfl, rfl, rfl, (Le.refl _), (OwnF.nil _ _ _ _), ?_⟩
    exact Nat.zero_le _
  ·
    rintro ⟨k, o⟩ f_1 w1 ⟨s3_1, s4_1, s0_1, s2_1, e_1, r0_1, hk⟩
    have z_1 := e_1.size
    have r0_1s := r0_1.sl
    refine C.seqK fun K6 hK6 => ?_
    refine C.seqK fun K7 hK7 => ?_
    refine C.region ?_
    refine O.mv ?_
    refine O.mv ?_
    refine O.len Tryd.underlying34 s0_1 (hl.keep e_1) ?_
    refine O.lssI s4_1 rfl ?_
    refine O.nil ?_
    refine hK7 _ _ ?_
    refine C.condD rfl (fun c10 => ?_) (fun c10 => ?_)
    ·
      refine C.skip ?_
      refine hK6 _ _ ?_
      refine C.seqK fun K8 hK8 => ?_
      refine C.block fun K9 hK9 => ?_
      refine C.region ?_
      refine O.mv ?_
      refine O.mv ?_
      refine O.mv ?_
      refine O.idx Tryd.underlying34 Tryd.sizeOf22 rfl s0_1 (hl.keep e_1) s4_1 (by omega) (fun a16 h16 => ?_)
      refine O.loadU64 Tryd.isAgg22 rfl h16 ?_
      refine O.call Tryd.call19 (args1 rfl) (rcanon_spec _ _) ?_
      rintro v_18 w2 ⟨rfl, hw_⟩
      replace hw_ := hw_.symm
      subst hw_
      refine O.lit1 Tryd.underlying34 hi22 hs22 hz22 rfl rfl (fun b19 w2 hb19 hz19 e2 => ?_)
      have z2 := e2.size
      have h19 := hz19.own
      have hl19 := h19.lt
      have h1019 : Sl u64F.enc w2 (fun k => k = b19) _ [Fl.canon (l[(k : Int).toNat]'(by omega))] := Sl.one h19 rfl rfl
      refine O.appF (G := u64F) Tryd.underlying34 hi22 hz22 hs22 rfl s3_1 rfl (r0_1.keep e2) h1019 (by rw [hb22, List.length_map, List.length_take]; show (min k l.length + 1) * 8 ≤ _; omega) (by unfold maxLen; rw [List.length_map, List.length_take]; show min k l.length + 1 ≤ _; omega) (by omega) (fun v20 w3 h20 e3 => ?_)
      have z3 := e3.size
      have h20s := h20.sl
      refine O.asg ?_
      refine O.nil ?_
      refine hK9 _ _ ?_
      refine hK8 _ _ ?_
      refine C.region ?_
      refine O.mv ?_
      refine O.addI s4_1 rfl (by unfold InI; omega) ?_
      refine O.asg ?_
      refine O.nil ?_
      refine ⟨(k + 1, _), ⟨rfl, rfl, s0_1, s2_1, (Ext.new (Ext.trans e_1 e2) e3 (by intro i hi h; have := (r0_1.keep e2).bk_ge i h; omega)), (h20.lst (by rw [List.take_succ_eq_append_getElem (show k < l.length by omega), List.map_append]; rfl)), ?_⟩, by first | omega | (simp only []; omega)⟩
      omega
    ·
      refine C.exit ?_
      refine hK5 _ _ ?_
      refine hK3 _ _ ?_
      refine C.seqK fun K10 hK10 => ?_
      refine C.region ?_
      refine O.mv ?_
      refine O.call Tryd.call25 (args1 s3_1) (rsorted_spec _ _ _ _ r0_1s (by rw [List.length_map, List.length_take]; omega)) ?_
      rintro v_22 w4 ⟨e4, h22⟩
      have z4 := e4.size
      have h22s := h22.sl
      replace h22 := h22.low (B' := w.heap.size) (by omega)
      refine O.asg ?_
      refine O.nil ?_
      refine hK10 _ _ ?_
      refine C.seqK fun K11 hK11 => ?_
      refine C.region ?_
      refine O.asg ?_
      refine O.nil ?_
      refine hK11 _ _ ?_
      refine C.seqK fun K12 hK12 => ?_
      refine C.seqK fun K13 hK13 => ?_
      refine C.region ?_
      refine O.asg ?_
      refine O.nil ?_
      refine hK13 _ _ ?_
      refine C.block fun K14 hK14 => ?_
      refine C.loop0 (σ := Nat × BitVec 64) (fun f0 w0 ⟨j, s⟩ f wz => f 5 = fl (s) ∧ f 6 = .int .i64 (j) ∧ f 2 = f0 2 ∧ f 3 = f0 3 ∧ Le w wz ∧ OwnF u64F 22 w.heap.size wz v_22 (Fl.sorted ((l.take k).map Fl.canon)) ∧ j ≤ (Fl.sorted ((l.take k).map Fl.canon)).length ∧ Fl.Sum ((Fl.sorted ((l.take k).map Fl.canon)).take j) s) (fun ⟨j, s⟩ => (Fl.sorted ((l.take k).map Fl.canon)).length - j) (0, 0#64) ?_ ?_
      ·
        refine ⟨rfl, rfl, rfl, rfl, (Ext.trans e_1 e4), h22, ?_⟩
        exact ⟨Nat.zero_le _, Fl.Sum.nil⟩
      ·
        rintro ⟨j, s⟩ f_2 w5 ⟨s5_2, s6_2, s2_2, s3_2, e_2, r0_2, ⟨hj, hS⟩⟩
        have z_2 := e_2.size
        have r0_2s := r0_2.sl
        refine C.seqK fun K15 hK15 => ?_
        refine C.seqK fun K16 hK16 => ?_
        refine C.region ?_
        refine O.mv ?_
        refine O.mv ?_
        refine O.len Tryd.underlying34 s3_2 r0_2s ?_
        refine O.lssI s6_2 rfl ?_
        refine O.nil ?_
        refine hK16 _ _ ?_
        refine C.condD rfl (fun c26 => ?_) (fun c26 => ?_)
        ·
          refine C.skip ?_
          refine hK15 _ _ ?_
          refine C.seqK fun K17 hK17 => ?_
          refine C.block fun K18 hK18 => ?_
          refine C.region ?_
          refine O.mv ?_
          refine O.mv ?_
          refine O.mv ?_
          refine O.idx Tryd.underlying34 Tryd.sizeOf22 rfl s3_2 r0_2s s6_2 (by omega) (fun a32 h32 => ?_)
          refine O.loadU64 Tryd.isAgg22 rfl h32 ?_
          refine O.ext ext33 (args1 rfl) (run_fromBits _) ?_
          refine O.addF s5_2 rfl (fun r35 w6 e6 hf35 => ?_)
          have z6 := e6.size
          refine O.asg ?_
          refine O.nil ?_
          refine hK18 _ _ ?_
          refine hK17 _ _ ?_
          refine C.region ?_
          refine O.mv ?_
          refine O.addI s6_2 rfl (by have hq := Fl.sorted_length ((l.take k).map Fl.canon); rw [List.length_map, List.length_take] at hq; unfold InI; omega) ?_
          refine O.asg ?_
          refine O.nil ?_
          refine ⟨(j + 1, _), ⟨rfl, rfl, s2_2, s3_2, (Ext.trans e_2 e6), (r0_2.keep e6), ?_⟩, by first | omega | (simp only []; omega)⟩
          have hjl : j < (Fl.sorted ((l.take k).map Fl.canon)).length := by omega
          refine ⟨by omega, ?_⟩
          rw [List.take_succ_eq_append_getElem hjl]
          exact Fl.Sum.snoc hS hf35
        ·
          refine C.exit ?_
          refine hK14 _ _ ?_
          refine hK12 _ _ ?_
          refine C.seqK fun K19 hK19 => ?_
          refine C.region ?_
          refine O.mv ?_
          refine O.ext ext32 (args1 s5_2) (run_bitsOf _) ?_
          refine O.call Tryd.call19 (args1 rfl) (rcanon_spec _ _) ?_
          rintro v_38 w7 ⟨rfl, hw_⟩
          replace hw_ := hw_.symm
          subst hw_
          refine O.asg ?_
          refine O.nil ?_
          refine hK19 _ _ ?_
          refine C.ret ?_
          refine Outs.one rfl rfl ?_
          obtain rfl : k = l.length := by omega
          obtain rfl : j = (Fl.sorted ((l.take l.length).map Fl.canon)).length := by omega
          refine ⟨e_2, s, ?_, rfl⟩
          rw [List.take_length, List.take_length] at hS
          exact hS

end Go.Proofs.YtbadfphdniliaaaDoor
