/-
  The walks of carts: what is missing, what is valid. Conditions: slices as they lie in memory.
-/
import Derived.Test.YtnkcmaoaagnopaaGreatDoorC3
namespace Go.Proofs.YtnkcmaoaagnopaaGreatDoor
open Go.Pn Go.RowKit Go.Proofs
attribute [local irreducible] O C D

theorem del_n_spec (vf : Value) (M : Nat → Prop) (p : Dt.Dot → Bool) (w : World) (hp : Pred Tryz.prog M w vf Dt.dv p) :
    Ret Tryz.prog 69 #[.slice none 0 0, vf] w (fun v w' => v = .slice none 0 0 ∧ Le w w') := by
  refine enter (args := [.slice none 0 0, vf]) (n := 42) Tryz.func69 rfl rfl (Nat.le_of_ble_eq_true rfl) ?_
  refine C.seqK fun K1 hK1 => ?_
  refine C.region ?_
  refine O.asg ?_
  refine O.nil ?_
  refine hK1 _ _ ?_
  refine C.seqK fun K2 hK2 => ?_
  refine C.region ?_
  refine O.mv ?_
  refine O.mv ?_
  refine O.call Tryz.call67 (args2 rfl rfl) (indexD_spec _ _ [] (fun _ => False) M p _ (Sl.nil _ _ _) hp) ?_
  rintro v_10 w1 ⟨rfl, e1⟩
  have z1 := e1.size
  refine O.asg ?_
  refine O.nil ?_
  refine hK2 _ _ ?_
  refine C.seqK fun K3 hK3 => ?_
  refine C.seqK fun K4 hK4 => ?_
  refine C.region ?_
  refine O.mv ?_
  refine O.eqlI rfl rfl ?_
  refine O.cast (v' := .bool true) (congrArg Value.bool (by exact decide_eq_true rfl)) ?_
  refine O.nil ?_
  refine hK4 _ _ ?_
  refine C.condT rfl ?_
  refine C.seqK fun K5 hK5 => ?_
  refine C.region ?_
  refine O.mv ?_
  refine O.asg ?_
  refine O.nil ?_
  refine hK5 _ _ ?_
  refine C.ret ?_
  refine Outs.one rfl rfl ?_
  exact ⟨rfl, e1⟩

set_option maxHeartbeats 2000000 in
theorem del_a_spec (g cap B Z : Nat) (l : List Dt.Dot) (vf : Value) (p : Dt.Dot → Bool) (w : World) (ho : OwnF Dt.dotF 51 B w (.slice (some ⟨g, 0, none⟩) l.length cap) l) (hn : l.length ≤ 1000000000000) (hZ : Z = w.heap.size) (hp : Pred Tryz.prog (fun k => k = g ∨ Z ≤ k) w vf Dt.dv p) :
    Ret Tryz.prog 69 #[.slice (some ⟨g, 0, none⟩) l.length cap, vf] w (fun v w' => ∃ n, v = .slice (some ⟨g, 0, none⟩) n cap ∧ n = (l.filter fun x => !p x).length ∧ Ext (fun k => k = g) w w') := by
  have hs0 := ho.sl
  have hcap := ho.le_cap
  have hge := Cn.idx_ge (p := p) l
  refine enter (args := [.slice (some ⟨g, 0, none⟩) l.length cap, vf]) (n := 42) Tryz.func69 rfl rfl (Nat.le_of_ble_eq_true rfl) ?_
  refine C.seqK fun K1 hK1 => ?_
  refine C.region ?_
  refine O.asg ?_
  refine O.nil ?_
  refine hK1 _ _ ?_
  refine C.seqK fun K2 hK2 => ?_
  refine C.region ?_
  refine O.mv ?_
  refine O.mv ?_
  refine O.call Tryz.call67 (args2 rfl rfl) (indexD_spec _ _ _ _ _ p _ hs0 hp) ?_
  rintro v_10 w1 ⟨rfl, e1⟩
  have z1 := e1.size
  refine O.asg ?_
  refine O.nil ?_
  refine hK2 _ _ ?_
  refine C.seqK fun K3 hK3 => ?_
  refine C.seqK fun K4 hK4 => ?_
  refine C.region ?_
  refine O.mv ?_
  refine O.eqlI rfl rfl ?_
  refine O.nil ?_
  refine hK4 _ _ ?_
  refine C.condD rfl (fun c12 => ?_) (fun c12 => ?_)
  ·
    have hi1 := Cn.filter_none c12
    refine C.seqK fun K5 hK5 => ?_
    refine C.region ?_
    refine O.mv ?_
    refine O.asg ?_
    refine O.nil ?_
    refine hK5 _ _ ?_
    refine C.ret ?_
    refine Outs.one rfl rfl ?_
    first
    | exact ⟨_, rfl, by rw [hi1], (Ext.new (Ext.refl _ _) e1 (by intro i hi hk; first | exact hk.elim | ((try dsimp only at hk); (try dsimp only); omega)))⟩
    | (refine ⟨_, rfl, ?_, (Ext.new (Ext.refl _ _) e1 (by intro i hi hk; first | exact hk.elim | ((try dsimp only at hk); (try dsimp only); omega)))⟩
       have q1 : c.take m = l.filter (fun x => !p x) := by rw [hT, hj3, List.take_length]
       rw [← q1, List.length_take]
       omega)
  ·
    obtain ⟨i, hi⟩ : ∃ i : Nat, Cn.idx p l = (i : Int) := ⟨(Cn.idx p l).toNat, by omega⟩
    obtain ⟨⟨hil, hip⟩, hib⟩ := Cn.idx_at hi
    obtain ⟨hf1, hf2⟩ := Cn.filter_first hi
    refine C.skip ?_
    refine hK3 _ _ ?_
    refine C.seqK fun K6 hK6 => ?_
    refine C.seqK fun K7 hK7 => ?_
    refine C.region ?_
    refine O.mv ?_
    refine O.addI rfl rfl (by unfold InI; omega) ?_
    refine O.asg ?_
    refine O.nil ?_
    refine hK7 _ _ ?_
    refine C.block fun K8 hK8 => ?_
    refine C.loop0 (σ := Nat × Nat × List Dt.Dot) (fun f0 w0 ⟨j, m, c⟩ f w => f 6 = .int .i64 (j) ∧ f 5 = .int .i64 (m) ∧ f 0 = f0 0 ∧ f 1 = f0 1 ∧ f 4 = f0 4 ∧ Ext (fun k => k = g ∨ Z ≤ k) w0 w ∧ OwnF Dt.dotF 51 B w (.slice (some ⟨g, 0, none⟩) l.length cap) c ∧ Pred Tryz.prog (fun k => k = g ∨ Z ≤ k) w vf Dt.dv p ∧ c.length = l.length ∧ j ≤ l.length ∧ m + 1 ≤ j ∧ c.take m = (l.take j).filter (fun x => !p x) ∧ ∀ i, ∀ h1 : i < c.length, ∀ h2 : i < l.length, j ≤ i → c[i] = l[i]) (fun ⟨j, m, c⟩ => l.length - j) (i + 1, i, l) ?_ ?_
    ·
      refine ⟨(Eq.trans rfl (congrArg (Value.int .i64) (by rw [hi]; rfl))), (Eq.trans rfl (congrArg (Value.int .i64) hi)), rfl, rfl, rfl, Ext.refl _ _, (ho.keep e1), (hp.keep e1), ?_⟩
      exact ⟨rfl, by omega, by omega, hf2.symm, fun i _ _ _ => rfl⟩
    ·
      rintro ⟨j, m, c⟩ f_1 w2 ⟨s6_1, s5_1, s0_1, s1_1, s4_1, e_1, r0_1, r1_1, ⟨hcl, hj, hm, hT, hE⟩⟩
      have z_1 := e_1.size
      have r0_1s := r0_1.sl
      have hp4 := r0_1.sl
      refine C.seqK fun K9 hK9 => ?_
      refine C.seqK fun K10 hK10 => ?_
      refine C.region ?_
      refine O.mv ?_
      refine O.mv ?_
      refine O.len Tryz.underlying22 s0_1 hp4 ?_
      refine O.lssI s6_1 rfl ?_
      refine O.nil ?_
      refine hK10 _ _ ?_
      refine C.condD rfl (fun c19 => ?_) (fun c19 => ?_)
      ·
        have hj2 : j < c.length := by simp at c19; omega
        have y1 : ((j : Int)).toNat = j := by omega
        refine C.skip ?_
        refine hK9 _ _ ?_
        refine C.seqK fun K11 hK11 => ?_
        refine C.block fun K12 hK12 => ?_
        refine C.seqK fun K13 hK13 => ?_
        refine C.region ?_
        refine O.mv ?_
        refine O.mv ?_
        refine O.idx Tryz.underlying22 Tryz.sizeOf51 rfl s0_1 hp4 s6_1 (by simp; omega) (fun a24 h24 => ?_)
        refine O.loadG (G := Dt.dotF) Tryz.isAgg51 Tryz.sizeOf51 rfl h24 ?_
        obtain ⟨u, hu⟩ : ∃ u : Dt.Dot, u = l[j]'(by omega) := ⟨_, rfl⟩
        refine O.cast (v' := Dt.dv u) (by subst hu; simp only [y1]; rw [hE j hj2 (by omega) (by omega)]; rfl) ?_
        refine O.alloc Tryz.zeroValue51 (fun b7 w3 hb7 hz7 e3 => ?_)
        have z3 := e3.size
        have h7 := hz7.own
        have hl7 := h7.lt
        refine O.storeA (vs := [.int .i64 u.1, .int .i64 u.2]) Tryz.sizeOf51 rfl rfl rfl (by simp [Value.oneCell']) h7 (Nat.le_of_ble_eq_true rfl) (fun w4 hs4 e4 z4 => ?_)
        refine O.nil ?_
        refine hK13 _ _ ?_
        refine C.seqK fun K14 hK14 => ?_
        refine C.region ?_
        refine O.mv ?_
        refine O.loadOA Tryz.isAgg51 Tryz.sizeOf51 rfl hs4 (Nat.le_of_ble_eq_true rfl) ?_
        refine O.callP (u) ((r1_1.keep e3).keepM e4 (fun k h => .inr (by (try dsimp only at h); omega))) s1_1 rfl (fun w5 e5 => ?_)
        have z5 := e5.size
        refine O.not rfl ?_
        refine O.nil ?_
        refine hK14 _ _ ?_
        refine C.cond rfl (fun c29 => ?_) (fun c29 => ?_)
        ·
          refine C.seqK fun K15 hK15 => ?_
          refine C.region ?_
          refine O.mv ?_
          refine O.mv ?_
          refine O.loadOA Tryz.isAgg51 Tryz.sizeOf51 rfl (hs4.keep e5) (Nat.le_of_ble_eq_true rfl) ?_
          refine O.idxO Tryz.underlying22 Tryz.sizeOf51 s0_1 s5_1 (by omega) ?_
          refine O.cast (v' := .pointer (some ⟨g, m * Dt.dotF.sz, none⟩)) (by rw [Nat.zero_add, Int.toNat_natCast]; rfl) ?_
          have ho33 := (((r0_1.keep e3).keepM e4 (fun k hk h => by have := r0_1.bk_ge k hk; (try dsimp only at h); omega)).keep e5)
          rw [← hcl] at ho33
          refine O.storeG (G := Dt.dotF) (u) Tryz.sizeOf51 rfl rfl ho33 (by omega) (fun w6 hs6 e6 z6 => ?_)
          rw [hcl] at hs6
          refine O.nil ?_
          refine hK15 _ _ ?_
          refine C.region ?_
          refine O.mv ?_
          refine O.addI s5_1 rfl (by unfold InI; omega) ?_
          refine O.cast (v' := .int .i64 ((m + 1 : Nat) : Int)) rfl ?_
          refine O.asg ?_
          refine O.nil ?_
          refine hK12 _ _ ?_
          refine hK11 _ _ ?_
          refine C.region ?_
          refine O.mv ?_
          refine O.addI s6_1 rfl (by unfold InI; omega) ?_
          refine O.asg ?_
          refine O.nil ?_
          refine ⟨(j + 1, _, _), ⟨rfl, rfl, s0_1, s1_1, s4_1, (Ext.new (Ext.new (Ext.new (Ext.new (Ext.new (Ext.refl _ _) e_1 (by intro i hi hk; first | exact hk.elim | ((try dsimp only at hk); (try dsimp only); omega))) e3 (by intro i hi hk; first | exact hk.elim | ((try dsimp only at hk); (try dsimp only); omega))) e4 (by intro i hi hk; first | exact hk.elim | ((try dsimp only at hk); (try dsimp only); omega))) e5 (by intro i hi hk; first | exact hk.elim | ((try dsimp only at hk); (try dsimp only); omega))) e6 (by intro i hi hk; first | exact hk.elim | ((try dsimp only at hk); (try dsimp only); omega))), hs6, ((((r1_1.keep e3).keepM e4 (fun k h => .inr (by (try dsimp only at h); omega))).keep e5).keepM e6 (fun k h => .inl h)), ?_⟩, by first | omega | (simp only []; omega)⟩
          first
          | (refine ⟨by rw [List.length_set]; exact hcl, by omega, by omega, ?_, fun i h1 h2 h3 => ?_⟩
             · rw [List.take_succ_eq_append_getElem (by rw [List.length_set]; omega), List.take_set, List.set_eq_of_length_le (by simp; omega), hT, Cn.filter_take p (by omega), List.getElem_set_self, ← hu]
               have c29' : p u = false := by simpa using c29
               rw [c29']
               rfl
             · rw [List.getElem_set_ne (by omega)]
               exact hE i (by rw [List.length_set] at h1; exact h1) h2 (by omega))
          | (refine ⟨hcl, by omega, by omega, ?_, fun i h1 h2 h3 => hE i h1 h2 (by omega)⟩
             have c29' : p u = true := by simpa using c29
             rw [hT, Cn.filter_take p (by omega), ← hu, c29', if_pos rfl, List.append_nil])
        ·
          refine C.skip ?_
          refine hK12 _ _ ?_
          refine hK11 _ _ ?_
          refine C.region ?_
          refine O.mv ?_
          refine O.addI s6_1 rfl (by unfold InI; omega) ?_
          refine O.asg ?_
          refine O.nil ?_
          refine ⟨(j + 1, _, _), ⟨rfl, s5_1, s0_1, s1_1, s4_1, (Ext.new (Ext.new (Ext.new (Ext.new (Ext.refl _ _) e_1 (by intro i hi hk; first | exact hk.elim | ((try dsimp only at hk); (try dsimp only); omega))) e3 (by intro i hi hk; first | exact hk.elim | ((try dsimp only at hk); (try dsimp only); omega))) e4 (by intro i hi hk; first | exact hk.elim | ((try dsimp only at hk); (try dsimp only); omega))) e5 (by intro i hi hk; first | exact hk.elim | ((try dsimp only at hk); (try dsimp only); omega))), (((r0_1.keep e3).keepM e4 (fun k hk h => by have := r0_1.bk_ge k hk; (try dsimp only at h); omega)).keep e5), (((r1_1.keep e3).keepM e4 (fun k h => .inr (by (try dsimp only at h); omega))).keep e5), ?_⟩, by first | omega | (simp only []; omega)⟩
          first
          | (refine ⟨by rw [List.length_set]; exact hcl, by omega, by omega, ?_, fun i h1 h2 h3 => ?_⟩
             · rw [List.take_succ_eq_append_getElem (by rw [List.length_set]; omega), List.take_set, List.set_eq_of_length_le (by simp; omega), hT, Cn.filter_take p (by omega), List.getElem_set_self, ← hu]
               have c29' : p u = false := by simpa using c29
               rw [c29']
               rfl
             · rw [List.getElem_set_ne (by omega)]
               exact hE i (by rw [List.length_set] at h1; exact h1) h2 (by omega))
          | (refine ⟨hcl, by omega, by omega, ?_, fun i h1 h2 h3 => hE i h1 h2 (by omega)⟩
             have c29' : p u = true := by simpa using c29
             rw [hT, Cn.filter_take p (by omega), ← hu, c29', if_pos rfl, List.append_nil])
      ·
        have hj3 : j = l.length := by simp at c19; omega
        refine C.exit ?_
        refine hK8 _ _ ?_
        refine hK6 _ _ ?_
        refine C.seqK fun K16 hK16 => ?_
        refine C.region ?_
        refine O.mv ?_
        refine O.mv ?_
        refine O.subHi Tryz.underlying22 Tryz.sizeOf51 s0_1 s5_1 (by omega) (by omega) ?_
        have hkw7 := r0_1
        rw [← hcl] at hkw7
        refine O.clearG (G := Dt.dotF) (zx := (0, 0)) (k := m) Tryz.underlying22 Tryz.zeroValue51 rfl (by rw [hcl]; exact rfl) hkw7 (by omega) (fun w7 hc7 e7 z7 => ?_)
        rw [hcl] at hc7
        refine O.nil ?_
        refine hK16 _ _ ?_
        refine C.seqK fun K17 hK17 => ?_
        refine C.region ?_
        refine O.mv ?_
        refine O.mv ?_
        refine O.subLo Tryz.underlying22 Tryz.sizeOf51 s0_1 s5_1 (by omega) (by omega) ?_
        refine O.asg ?_
        refine O.nil ?_
        refine hK17 _ _ ?_
        refine C.ret ?_
        refine Outs.one rfl rfl ?_
        first
        | exact ⟨_, rfl, by rw [hi1], (Ext.new (Ext.new (Ext.new (Ext.refl _ _) e1 (by intro i hi hk; first | exact hk.elim | ((try dsimp only at hk); (try dsimp only); omega))) e_1 (by intro i hi hk; first | exact hk.elim | ((try dsimp only at hk); (try dsimp only); omega))) e7 (by intro i hi hk; first | exact hk.elim | ((try dsimp only at hk); (try dsimp only); omega)))⟩
        | (refine ⟨_, rfl, ?_, (Ext.new (Ext.new (Ext.new (Ext.refl _ _) e1 (by intro i hi hk; first | exact hk.elim | ((try dsimp only at hk); (try dsimp only); omega))) e_1 (by intro i hi hk; first | exact hk.elim | ((try dsimp only at hk); (try dsimp only); omega))) e7 (by intro i hi hk; first | exact hk.elim | ((try dsimp only at hk); (try dsimp only); omega)))⟩
           have q1 : c.take m = l.filter (fun x => !p x) := by rw [hT, hj3, List.take_length]
           rw [← q1, List.length_take]
           omega)


theorem del_spec (v : Value) (B : Nat) (l : List Dt.Dot) (vf : Value) (p : Dt.Dot → Bool) (w : World) (h : OwnF Dt.dotF 51 B w v l) (hB : B ≤ w.heap.size) (hn : l.length ≤ 1000000000000) (hp : Pred Tryz.prog (fun k => B ≤ k) w vf Dt.dv p) :
    Ret Tryz.prog 69 #[v, vf] w (fun r w' => (∃ a n c, r = .slice a n c ∧ n = (l.filter fun x => !p x).length) ∧ Ext (fun k => B ≤ k) w w') := by
  rcases h.1.2 with ⟨rfl, h0⟩ | ⟨g, cap, cur, rfl, hg, _⟩
  · obtain rfl : l = [] := List.eq_nil_of_length_eq_zero h0
    refine (del_n_spec vf _ p w hp).mono ?_
    rintro r w' ⟨rfl, e⟩
    exact ⟨⟨_, _, _, rfl, rfl⟩, e.to⟩
  · refine (del_a_spec g cap B w.heap.size l vf p w h hn rfl (hp.weak fun k hk => ?_)).mono ?_
    · rcases hk with rfl | hk <;> omega
    · rintro r w' ⟨n, rfl, hn, e⟩
      exact ⟨⟨_, _, _, rfl, hn⟩, e.mono fun k _ hk => by have h1 : k = g := hk; omega⟩

theorem missing_spec (v1 v2 : Value) (x : Cn.Ctx) (F : Nat → Prop) (v3 : Value) (l : List Dt.Dot) (F2 : Nat → Prop) (w : World) (hv : Sl Dt.dotF.enc w F v1 x.1) (hc : Sl Dt.dotF.enc w F v2 x.2) (hl : Sl Dt.dotF.enc w F2 v3 l) (hF : ∀ k, F k → k < w.heap.size) (hn : l.length ≤ 1000000000000) :
    Ret Tryz.prog 46 #[.agg #[v1, v2], v3] w (fun v w' => (∃ a n c, v = .slice a n c ∧ n = (Cn.missing x l).length) ∧ Le w w') := by
  have hsl := Dt.addAll_length l []
  simp only [List.length_nil, Nat.zero_add] at hsl
  refine enter (args := [.agg #[v1, v2], v3]) (n := 9) Tryz.func46 rfl rfl (Nat.le_of_ble_eq_true rfl) ?_
  refine C.seqK fun K1 hK1 => ?_
  refine C.region ?_
  refine O.box (v := .agg #[v1, v2]) rfl (fun b2 w1 hb2 hz2 e1 => ?_)
  have z1 := e1.size
  have h2 := hz2.own
  have hl2 := h2.lt
  refine O.asg ?_
  refine O.nil ?_
  refine hK1 _ _ ?_
  refine C.seqK fun K2 hK2 => ?_
  refine C.region ?_
  refine O.mv ?_
  refine O.call Tryz.call70 (args1 rfl) (set_spec _ l _ _ (hl.keep e1) hn) ?_
  rintro v_6 w2 ⟨e2, h6⟩
  have z2 := e2.size
  have hl6 := h6.1.1
  refine O.makeF (v1 := []) rfl rfl ?_
  refine O.call Tryz.call69 (args2 rfl rfl) (del_spec _ _ _ _ (Cn.ctxHas x) _ h6 (by omega) (by unfold Dt.set; omega) (pred_miss b2 v1 v2 x F _ _ (h2.keep e2) ((hv.keep e1).keep e2) ((hc.keep e1).keep e2) (by omega) (by intro k hk h; have := hF k hk; (try dsimp only at h); omega))) ?_
  rintro v_8 w3 ⟨⟨av8, nv8, cv8, rfl, hnv8⟩, e3⟩
  have z3 := e3.size
  refine O.asg ?_
  refine O.nil ?_
  refine hK2 _ _ ?_
  refine C.ret ?_
  refine Outs.one rfl rfl ?_
  exact ⟨⟨_, _, _, rfl, hnv8⟩, (Ext.new (Ext.trans e1 e2) e3 (by intro i hi h; (try dsimp only at h); omega))⟩

set_option maxHeartbeats 1000000 in
theorem cartValid_spec (va1 va2 va3 : Value) (a : Cn.Cart) (F : Nat → Prop) (w : World) (hav : Sl Dt.dotF.enc w F va1 a.1.1) (hac : Sl Dt.dotF.enc w F va2 a.1.2) (hai : Sl itemE w F va3 a.2) (hF : ∀ k, F k → k < w.heap.size) (hn : a.2.length ≤ 1000000) (hS : ∀ x ∈ a.2, x.1.length ≤ 1000000 ∧ x.2.length ≤ 1000000) (mx : Mx w) :
    Ret Tryz.prog 19 #[.agg #[va1, va2, va3]] w (fun v w' => v = .bool (Cn.valid a) ∧ Le w w') := by
  have hdl := Cn.dotsOf_len (l := a.2) fun x hx => (hS x hx).2
  refine enter (args := [.agg #[va1, va2, va3]]) (n := 21) Tryz.func19 rfl rfl (Nat.le_of_ble_eq_true rfl) ?_
  refine C.seqK fun K1 hK1 => ?_
  refine C.region ?_
  refine O.box (v := .agg #[va1, va2, va3]) rfl (fun b1 w1 hb1 hz1 e1 => ?_)
  have z1 := e1.size
  have h1 := hz1.own
  have hl1 := h1.lt
  refine O.asg ?_
  refine O.nil ?_
  refine hK1 _ _ ?_
  refine C.seqK fun K2 hK2 => ?_
  refine C.draw (by kernel_rfl) fun w2 e2 => ?_
  have z2 := e2.size
  refine D.take (i := 0) rfl rfl rfl rfl (by kernel_rfl) (Le.refl _) ⟨_, rfl⟩ (fun w_ hw_ N_ hN => (O.fieldAd Tryz.underlying28 rfl Tryz.sizeOf25 (by decide) rfl (O.nil hN))) ?_
  refine D.take (i := 1) rfl rfl rfl rfl (by kernel_rfl) (Le.refl _) ⟨_, rfl⟩ (fun w_ hw_ N_ hN => (O.loadOA Tryz.isAgg25 Tryz.sizeOf25 rfl ((h1.keep e2).keep hw_) (Nat.le_of_ble_eq_true rfl) (O.nil hN))) ?_
  refine D.one (i := 2) rfl rfl (by kernel_rfl) ?_
  refine O.call Tryz.call17 (args1 rfl) (isCompact_spec va1 va2 a.1 F _ ((hav.keep e1).keep e2) ((hac.keep e1).keep e2)) ?_
  rintro v_5 w3 ⟨rfl, e3⟩
  have z3 := e3.size
  refine O.nil ⟨e3, ?_⟩
  refine D.take (i := 3) rfl rfl rfl rfl (by kernel_rfl) e3 ⟨pure _, rfl⟩ (fun w_ hw_ N_ hN => (O.mv (O.nil hN))) ?_
  refine D.split (x := .tmp 6) rfl (fun c6 => ?_) (fun c6 => ?_)
  ·
    refine D.takeYes (i := 4) rfl rfl rfl (by kernel_rfl) rfl (isT' rfl c6) e3 ⟨_, rfl⟩ (fun w_ hw_ N_ hN => (O.fieldAd Tryz.underlying28 rfl Tryz.sizeOf26 (by decide) rfl (O.nil hN))) ?_
    refine D.takeYes (i := 5) rfl rfl rfl (by kernel_rfl) rfl (isT' rfl c6) e3 ⟨_, rfl⟩ (fun w_ hw_ N_ hN => (O.loadO Tryz.isAgg26 rfl ((h1.keep e2).keep hw_) rfl (O.nil hN))) ?_
    refine D.oneYes (i := 6) rfl rfl (isT' rfl c6) (by kernel_rfl) ?_
    refine O.call Tryz.call45 (args1 rfl) (itemsValid_spec va3 a.2 F _ (((hai.keep e1).keep e2).keep e3) (by intro k hk; have := hF k hk; omega) hn hS (((mx.keep e1).keep e2).keep e3)) ?_
    rintro v_9 w4 ⟨rfl, e4⟩
    have z4 := e4.size
    refine O.nil ⟨(Ext.trans e3 e4), ?_⟩
    refine D.take (i := 7) rfl rfl rfl rfl (by kernel_rfl) (Ext.trans e3 e4) pick_form (fun w_ hw_ N_ hN => (O.pickT (isT' rfl c6) (O.nil hN))) ?_
    refine D.take (i := 8) rfl rfl rfl rfl (by kernel_rfl) (Ext.trans e3 e4) ⟨pure _, rfl⟩ (fun w_ hw_ N_ hN => (O.mv (O.nil hN))) ?_
    refine D.split (x := .tmp 11) rfl (fun c11 => ?_) (fun c11 => ?_)
    ·
      refine D.takeYes (i := 9) rfl rfl rfl (by kernel_rfl) rfl (isT' rfl c11) (Ext.trans e3 e4) ⟨_, rfl⟩ (fun w_ hw_ N_ hN => (O.fieldAd Tryz.underlying28 rfl Tryz.sizeOf25 (by decide) rfl (O.nil hN))) ?_
      refine D.takeYes (i := 10) rfl rfl rfl (by kernel_rfl) rfl (isT' rfl c11) (Ext.trans e3 e4) ⟨_, rfl⟩ (fun w_ hw_ N_ hN => (O.loadOA Tryz.isAgg25 Tryz.sizeOf25 rfl ((h1.keep e2).keep hw_) (Nat.le_of_ble_eq_true rfl) (O.nil hN))) ?_
      refine D.takeYes (i := 11) rfl rfl rfl (by kernel_rfl) rfl (isT' rfl c11) (Ext.trans e3 e4) ⟨_, rfl⟩ (fun w_ hw_ N_ hN => (O.fieldAd Tryz.underlying28 rfl Tryz.sizeOf26 (by decide) rfl (O.nil hN))) ?_
      refine D.takeYes (i := 12) rfl rfl rfl (by kernel_rfl) rfl (isT' rfl c11) (Ext.trans e3 e4) ⟨_, rfl⟩ (fun w_ hw_ N_ hN => (O.loadO Tryz.isAgg26 rfl ((h1.keep e2).keep hw_) rfl (O.nil hN))) ?_
      refine D.oneYes (i := 13) rfl rfl (isT' rfl c11) (by kernel_rfl) ?_
      refine O.call Tryz.call47 (args1 rfl) (idots_spec va3 a.2 F _ ((((hai.keep e1).keep e2).keep e3).keep e4) (by intro k hk; have := hF k hk; omega) hn hS) ?_
      rintro v_16 w5 ⟨e5, h16⟩
      have z5 := e5.size
      refine O.nil ⟨(Ext.trans (Ext.trans e3 e4) e5), ?_⟩
      have h16s := h16.sl
      refine D.oneYes (i := 14) rfl rfl (isT' rfl c11) (by kernel_rfl) ?_
      refine O.call Tryz.call46 (args2 rfl rfl) (missing_spec va1 va2 a.1 F _ (Cn.dotsOf a.2) _ _ (((((hav.keep e1).keep e2).keep e3).keep e4).keep e5) (((((hac.keep e1).keep e2).keep e3).keep e4).keep e5) h16s (by intro k hk; have := hF k hk; omega) (by omega)) ?_
      rintro v_17 w6 ⟨⟨av17, nv17, cv17, rfl, hnv17⟩, e6⟩
      have z6 := e6.size
      refine O.nil ⟨(Ext.trans (Ext.trans (Ext.trans e3 e4) e5) e6), ?_⟩
      refine D.takeYes (i := 15) rfl rfl rfl (by kernel_rfl) rfl (isT' rfl c11) (Ext.trans (Ext.trans (Ext.trans e3 e4) e5) e6) len_form (fun w_ hw_ N_ hN => (O.lenL Tryz.underlying22 rfl (O.nil hN))) ?_
      refine D.takeYes (i := 16) rfl rfl rfl (by kernel_rfl) rfl (isT' rfl c11) (Ext.trans (Ext.trans (Ext.trans e3 e4) e5) e6) ⟨_, rfl⟩ (fun w_ hw_ N_ hN => (O.eqlI rfl rfl (O.nil hN))) ?_
      refine D.take (i := 17) rfl rfl rfl rfl (by kernel_rfl) (Ext.trans (Ext.trans (Ext.trans e3 e4) e5) e6) pick_form (fun w_ hw_ N_ hN => (O.pickT (isT' rfl c11) (O.nil hN))) ?_
      refine D.take (i := 18) rfl rfl rfl rfl (by kernel_rfl) (Ext.trans (Ext.trans (Ext.trans e3 e4) e5) e6) ⟨pure _, rfl⟩ (fun w_ hw_ N_ hN => (O.asg (O.nil hN))) ?_
      refine D.done (by kernel_rfl) ?_
      refine hK2 _ _ ?_
      refine C.ret ?_
      refine Outs.one rfl rfl ?_
      refine ⟨congrArg Value.bool ?_, (Ext.trans (Ext.trans (Ext.trans (Ext.trans (Ext.trans e1 e2) e3) e4) e5) e6)⟩
      unfold Cn.valid
      first
      | (rw [c6]; rfl)
      | (rw [c6, c11]; rfl)
      | (rw [c6, c11, ← hnv17]; exact decide_eq_decide.2 Int.ofNat_eq_zero)
    ·
      refine D.takeNo (i := 9) rfl rfl (by kernel_rfl) (Ext.trans e3 e4) rfl (noB (isF' rfl c11) rfl) ?_
      refine D.takeNo (i := 10) rfl rfl (by kernel_rfl) (Ext.trans e3 e4) rfl (noB (isF' rfl c11) rfl) ?_
      refine D.takeNo (i := 11) rfl rfl (by kernel_rfl) (Ext.trans e3 e4) rfl (noB (isF' rfl c11) rfl) ?_
      refine D.takeNo (i := 12) rfl rfl (by kernel_rfl) (Ext.trans e3 e4) rfl (noB (isF' rfl c11) rfl) ?_
      refine D.takeNo (i := 13) rfl rfl (by kernel_rfl) (Ext.trans e3 e4) rfl (noB (isF' rfl c11) rfl) ?_
      refine D.takeNo (i := 14) rfl rfl (by kernel_rfl) (Ext.trans e3 e4) rfl (noB (isF' rfl c11) rfl) ?_
      refine D.takeNo (i := 15) rfl rfl (by kernel_rfl) (Ext.trans e3 e4) rfl (noB (isF' rfl c11) rfl) ?_
      refine D.takeNo (i := 16) rfl rfl (by kernel_rfl) (Ext.trans e3 e4) rfl (noB (isF' rfl c11) rfl) ?_
      refine D.take (i := 17) rfl rfl rfl rfl (by kernel_rfl) (Ext.trans e3 e4) pick_form (fun w_ hw_ N_ hN => (O.pickF (isF' rfl c11) (O.nil hN))) ?_
      refine D.take (i := 18) rfl rfl rfl rfl (by kernel_rfl) (Ext.trans e3 e4) ⟨pure _, rfl⟩ (fun w_ hw_ N_ hN => (O.asg (O.nil hN))) ?_
      refine D.done (by kernel_rfl) ?_
      refine hK2 _ _ ?_
      refine C.ret ?_
      refine Outs.one rfl rfl ?_
      refine ⟨congrArg Value.bool ?_, (Ext.trans (Ext.trans (Ext.trans e1 e2) e3) e4)⟩
      unfold Cn.valid
      first
      | (rw [c6]; rfl)
      | (rw [c6, c11]; rfl)
      | (rw [c6, c11, ← hnv17]; exact decide_eq_decide.2 Int.ofNat_eq_zero)
  ·
    refine D.takeNo (i := 4) rfl rfl (by kernel_rfl) e3 rfl (noB (isF' rfl c6) rfl) ?_
    refine D.takeNo (i := 5) rfl rfl (by kernel_rfl) e3 rfl (noB (isF' rfl c6) rfl) ?_
    refine D.takeNo (i := 6) rfl rfl (by kernel_rfl) e3 rfl (noB (isF' rfl c6) rfl) ?_
    refine D.take (i := 7) rfl rfl rfl rfl (by kernel_rfl) e3 pick_form (fun w_ hw_ N_ hN => (O.pickF (isF' rfl c6) (O.nil hN))) ?_
    refine D.take (i := 8) rfl rfl rfl rfl (by kernel_rfl) e3 ⟨pure _, rfl⟩ (fun w_ hw_ N_ hN => (O.mv (O.nil hN))) ?_
    refine D.takeNo (i := 9) rfl rfl (by kernel_rfl) e3 rfl (noB rfl rfl) ?_
    refine D.takeNo (i := 10) rfl rfl (by kernel_rfl) e3 rfl (noB rfl rfl) ?_
    refine D.takeNo (i := 11) rfl rfl (by kernel_rfl) e3 rfl (noB rfl rfl) ?_
    refine D.takeNo (i := 12) rfl rfl (by kernel_rfl) e3 rfl (noB rfl rfl) ?_
    refine D.takeNo (i := 13) rfl rfl (by kernel_rfl) e3 rfl (noB rfl rfl) ?_
    refine D.takeNo (i := 14) rfl rfl (by kernel_rfl) e3 rfl (noB rfl rfl) ?_
    refine D.takeNo (i := 15) rfl rfl (by kernel_rfl) e3 rfl (noB rfl rfl) ?_
    refine D.takeNo (i := 16) rfl rfl (by kernel_rfl) e3 rfl (noB rfl rfl) ?_
    refine D.take (i := 17) rfl rfl rfl rfl (by kernel_rfl) e3 pick_form (fun w_ hw_ N_ hN => (O.pickF rfl (O.nil hN))) ?_
    refine D.take (i := 18) rfl rfl rfl rfl (by kernel_rfl) e3 ⟨pure _, rfl⟩ (fun w_ hw_ N_ hN => (O.asg (O.nil hN))) ?_
    refine D.done (by kernel_rfl) ?_
    refine hK2 _ _ ?_
    refine C.ret ?_
    refine Outs.one rfl rfl ?_
    refine ⟨congrArg Value.bool ?_, (Ext.trans (Ext.trans e1 e2) e3)⟩
    unfold Cn.valid
    first
    | (rw [c6]; rfl)
    | (rw [c6, c11]; rfl)
    | (rw [c6, c11, ← hnv17]; exact decide_eq_decide.2 Int.ofNat_eq_zero)

end Go.Proofs.YtnkcmaoaagnopaaGreatDoor
