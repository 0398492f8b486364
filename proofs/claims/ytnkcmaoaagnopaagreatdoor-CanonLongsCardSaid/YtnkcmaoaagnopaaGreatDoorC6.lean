/-
  The walks of a writer of bytes. Conditions: slices as they lie in memory.
-/
import Derived.Test.YtnkcmaoaagnopaaGreatDoorC5
namespace Go.Proofs.YtnkcmaoaagnopaaGreatDoor
open Go.Pn Go.RowKit Go.Proofs
attribute [local irreducible] O C D
theorem hgw_of {v : Value} {bw : Nat} (h : ∀ k, bk v k → k ≠ bw) : bk v bw → False := fun q => h bw q rfl
theorem ones3 {v v' : Value} (h : v.oneCell' = true) (h' : v'.oneCell' = true) : ∀ u ∈ [v, v'], u.oneCell' = true := by
  intro u hu
  simp only [List.mem_cons, List.not_mem_nil, or_false] at hu
  rcases hu with rfl | rfl
  · exact h
  · exact h'

set_option maxHeartbeats 1000000 in
theorem write_spec (bw g : Nat) (xs : List UInt8) (v1 : Value) (ps : List (List UInt8)) (F : Nat → Prop) (w : World) (hw : Wr 77 5 w bw g (xs)) (hp : Sl (sliE byteE) w F v1 ps) (hx : xs.length ≤ 138000000000000) (hn : ps.flatten.length ≤ 1000000000000) :
    Ret Tryz.prog 74 #[.pointer (some ⟨bw, 0, none⟩), v1] w (fun v w' => v = .tuple #[] ∧ ∃ g', Wr 77 5 w' bw g' (xs ++ (ps.flatten)) ∧ (g' = g ∨ g' = bw ∨ w.heap.size ≤ g') ∧ (bw < w'.heap.size ∧ g' < w'.heap.size) ∧ Ext (fun k => k = bw ∨ k = g) w w') := by
  obtain ⟨vw, hb, ho, hg, hgb⟩ := hw.cell
  have hwl := hw.lt
  have hgw := hgw_of hgb
  obtain ⟨ie5, ti5, ts5, tb5, tz5⟩ := inf5
  refine enter (args := [.pointer (some ⟨bw, 0, none⟩), v1]) (n := 16) Tryz.func74 rfl rfl (Nat.le_of_ble_eq_true rfl) ?_
  refine C.seqK fun K1 hK1 => ?_
  refine C.region ?_
  refine O.mv ?_
  refine O.neqP0 Tryz.underlying79 rfl ?_
  refine O.nil ?_
  refine hK1 _ _ ?_
  refine C.condT rfl ?_
  refine C.drawB (wB := (bare w)) (by kernel_rfl) fun w1 e1 => ?_
  have z1 := e1.size
  refine D.take (i := 0) rfl rfl rfl rfl (by kernel_rfl) (Ext.bare (Ext.new (Ext.refl (fun _ => True) _) e1 (fun _ _ _ => trivial))) ⟨pure _, rfl⟩ (fun w_ hw_ N_ hN => (O.mv (O.nil hN))) ?_
  refine D.take (i := 1) rfl rfl rfl rfl (by kernel_rfl) (Ext.bare (Ext.new (Ext.refl (fun _ => True) _) e1 (fun _ _ _ => trivial))) ⟨pure _, rfl⟩ (fun w_ hw_ N_ hN => (O.mv (O.nil hN))) ?_
  refine D.take (i := 2) rfl rfl rfl rfl (by kernel_rfl) (Ext.bare (Ext.new (Ext.refl (fun _ => True) _) e1 (fun _ _ _ => trivial))) (nil_form rfl) (fun w_ hw_ N_ hN => (O.nilChk rfl (O.nil hN))) ?_
  refine D.take (i := 3) rfl rfl rfl rfl (by kernel_rfl) (Ext.bare (Ext.new (Ext.refl (fun _ => True) _) e1 (fun _ _ _ => trivial))) ⟨_, rfl⟩ (fun w_ hw_ N_ hN => (O.fieldAd Tryz.underlying77 rfl Tryz.sizeOf32 (by decide) rfl (O.nil hN))) ?_
  refine D.take (i := 5) rfl rfl rfl rfl (by kernel_rfl) (Ext.bare (Ext.new (Ext.refl (fun _ => True) _) e1 (fun _ _ _ => trivial))) ⟨pure _, rfl⟩ (fun w_ hw_ N_ hN => (O.mv (O.nil hN))) ?_
  refine D.many [4, 6] (by kernel_rfl) (by decide) ⟨?_, ?_, trivial⟩
  ·
    refine D.stepU rfl rfl ?_
    refine O.loadO Tryz.isAgg32 rfl (hb.keep e1) rfl ?_
    refine O.nil ⟨(Ext.bare (Ext.new (Ext.refl (fun _ => True) _) e1 (fun _ _ _ => trivial))), ?_⟩
    refine D.one (i := 6) rfl rfl (by kernel_rfl) ?_
    refine O.call Tryz.call102 (args1 rfl) (concat_spec _ ps _ _ (hp.keep e1) (by omega)) ?_
    rintro v_12 w2 ⟨e2, h12⟩
    have z2 := e2.size
    refine O.nil ⟨(Ext.bare (Ext.new (Ext.new (Ext.refl (fun _ => True) _) e1 (fun _ _ _ => trivial)) e2 (fun _ _ _ => trivial))), ?_⟩
    have h12s := h12.sl
    refine D.one (i := 7) rfl rfl (by kernel_rfl) ?_
    refine O.appW (G := byteF) Tryz.underlying32 ti5 tz5 ts5 rfl rfl rfl ((ho.keep e1).keep e2) h12s (by rw [tb5]; omega) (by unfold maxLen; omega) (Nat.zero_le _) (fun v13 w3 h13 e3 hw13 => ?_)
    have e3m : Ext (fun k => k = g) w2 w3 := e3.mono (fun k _ hk => hg k hk)
    have z3 := e3.size
    have h13s := h13.sl
    refine O.nil ⟨(Ext.bare (Ext.new (Ext.new (Ext.new (Ext.refl (fun _ => True) _) e1 (fun _ _ _ => trivial)) e2 (fun _ _ _ => trivial)) e3 (fun _ _ _ => trivial))), ?_⟩
    have hput : ∀ k, bk v13 k → k ≠ bw := by
      intro k hk h0
      rcases hw13 k hk with q | q
      · exact hgb k q h0
      · omega
    refine D.take (i := 8) rfl rfl rfl rfl (by kernel_rfl) (Ext.bare (Ext.new (Ext.new (Ext.new (Ext.refl (fun _ => True) _) e1 (fun _ _ _ => trivial)) e2 (fun _ _ _ => trivial)) e3 (fun _ _ _ => trivial))) (nil_form rfl) (fun w_ hw_ N_ hN => (O.nilChk rfl (O.nil hN))) ?_
    refine D.take (i := 9) rfl rfl rfl rfl (by kernel_rfl) (Ext.bare (Ext.new (Ext.new (Ext.new (Ext.refl (fun _ => True) _) e1 (fun _ _ _ => trivial)) e2 (fun _ _ _ => trivial)) e3 (fun _ _ _ => trivial))) ⟨_, rfl⟩ (fun w_ hw_ N_ hN => (O.fieldAd Tryz.underlying77 rfl Tryz.sizeOf32 (by decide) rfl (O.nil hN))) ?_
    refine D.one (i := 10) rfl rfl (by kernel_rfl) ?_
    refine O.store Tryz.sizeOf32 rfl rfl h13.one (((hb.keep e1).keep e2).keepM e3 (fun h => hgw h)) (by simp) (fun w4 hs4 e4 z4 => ?_)
    try simp only [Nat.zero_add] at hs4
    refine O.nil ⟨(Ext.bare (Ext.new (Ext.new (Ext.new (Ext.new (Ext.refl (fun _ => True) _) e1 (fun _ _ _ => trivial)) e2 (fun _ _ _ => trivial)) e3 (fun _ _ _ => trivial)) e4 (fun _ _ _ => trivial))), ?_⟩
    refine D.done (by kernel_rfl) ?_
    refine Outs.none rfl ?_
    obtain ⟨g', hq, hgp⟩ := Wr.put (ty := 77) hs4 (h13.keepM e4 (fun k hk h => hput k hk h)) hput
    refine ⟨rfl, g', hq, ?_, hq.lt, (Ext.new (Ext.new (Ext.new (Ext.new (Ext.refl _ _) e1 (by intro i hi hk; first | exact hk.elim | ((try dsimp only at hk); (try dsimp only); omega))) e2 (by intro i hi hk; first | exact hk.elim | ((try dsimp only at hk); (try dsimp only); omega))) e3m (by intro i hi hk; first | exact hk.elim | ((try dsimp only at hk); (try dsimp only); omega))) e4 (by intro i hi hk; first | exact hk.elim | ((try dsimp only at hk); (try dsimp only); omega)))⟩
    rcases hgp with ⟨q, _⟩ | q
    · rcases hw13 g' q with q2 | q2
      · exact .inl (hg g' q2)
      · exact .inr (.inr (by omega))
    · exact .inr (.inl q)
  ·
    refine D.stepU rfl rfl ?_
    refine O.call Tryz.call102 (args1 rfl) (concat_spec _ ps _ _ (hp.keep e1) (by omega)) ?_
    rintro v_12 w5 ⟨e5, h12⟩
    have z5 := e5.size
    refine O.nil ⟨(Ext.bare (Ext.new (Ext.new (Ext.refl (fun _ => True) _) e1 (fun _ _ _ => trivial)) e5 (fun _ _ _ => trivial))), ?_⟩
    have h12s := h12.sl
    refine D.one (i := 4) rfl rfl (by kernel_rfl) ?_
    refine O.loadO Tryz.isAgg32 rfl ((hb.keep e1).keep e5) rfl ?_
    refine O.nil ⟨(Ext.bare (Ext.new (Ext.new (Ext.refl (fun _ => True) _) e1 (fun _ _ _ => trivial)) e5 (fun _ _ _ => trivial))), ?_⟩
    refine D.one (i := 7) rfl rfl (by kernel_rfl) ?_
    refine O.appW (G := byteF) Tryz.underlying32 ti5 tz5 ts5 rfl rfl rfl ((ho.keep e1).keep e5) h12s (by rw [tb5]; omega) (by unfold maxLen; omega) (Nat.zero_le _) (fun v13 w6 h13 e6 hw13 => ?_)
    have e6m : Ext (fun k => k = g) w5 w6 := e6.mono (fun k _ hk => hg k hk)
    have z6 := e6.size
    have h13s := h13.sl
    refine O.nil ⟨(Ext.bare (Ext.new (Ext.new (Ext.new (Ext.refl (fun _ => True) _) e1 (fun _ _ _ => trivial)) e5 (fun _ _ _ => trivial)) e6 (fun _ _ _ => trivial))), ?_⟩
    have hput : ∀ k, bk v13 k → k ≠ bw := by
      intro k hk h0
      rcases hw13 k hk with q | q
      · exact hgb k q h0
      · omega
    refine D.take (i := 8) rfl rfl rfl rfl (by kernel_rfl) (Ext.bare (Ext.new (Ext.new (Ext.new (Ext.refl (fun _ => True) _) e1 (fun _ _ _ => trivial)) e5 (fun _ _ _ => trivial)) e6 (fun _ _ _ => trivial))) (nil_form rfl) (fun w_ hw_ N_ hN => (O.nilChk rfl (O.nil hN))) ?_
    refine D.take (i := 9) rfl rfl rfl rfl (by kernel_rfl) (Ext.bare (Ext.new (Ext.new (Ext.new (Ext.refl (fun _ => True) _) e1 (fun _ _ _ => trivial)) e5 (fun _ _ _ => trivial)) e6 (fun _ _ _ => trivial))) ⟨_, rfl⟩ (fun w_ hw_ N_ hN => (O.fieldAd Tryz.underlying77 rfl Tryz.sizeOf32 (by decide) rfl (O.nil hN))) ?_
    refine D.one (i := 10) rfl rfl (by kernel_rfl) ?_
    refine O.store Tryz.sizeOf32 rfl rfl h13.one (((hb.keep e1).keep e5).keepM e6 (fun h => hgw h)) (by simp) (fun w7 hs7 e7 z7 => ?_)
    try simp only [Nat.zero_add] at hs7
    refine O.nil ⟨(Ext.bare (Ext.new (Ext.new (Ext.new (Ext.new (Ext.refl (fun _ => True) _) e1 (fun _ _ _ => trivial)) e5 (fun _ _ _ => trivial)) e6 (fun _ _ _ => trivial)) e7 (fun _ _ _ => trivial))), ?_⟩
    refine D.done (by kernel_rfl) ?_
    refine Outs.none rfl ?_
    obtain ⟨g', hq, hgp⟩ := Wr.put (ty := 77) hs7 (h13.keepM e7 (fun k hk h => hput k hk h)) hput
    refine ⟨rfl, g', hq, ?_, hq.lt, (Ext.new (Ext.new (Ext.new (Ext.new (Ext.refl _ _) e1 (by intro i hi hk; first | exact hk.elim | ((try dsimp only at hk); (try dsimp only); omega))) e5 (by intro i hi hk; first | exact hk.elim | ((try dsimp only at hk); (try dsimp only); omega))) e6m (by intro i hi hk; first | exact hk.elim | ((try dsimp only at hk); (try dsimp only); omega))) e7 (by intro i hi hk; first | exact hk.elim | ((try dsimp only at hk); (try dsimp only); omega)))⟩
    rcases hgp with ⟨q, _⟩ | q
    · rcases hw13 g' q with q2 | q2
      · exact .inl (hg g' q2)
      · exact .inr (.inr (by omega))
    · exact .inr (.inl q)

theorem wnum_spec (bw g : Nat) (xs : List UInt8) (n : BitVec 64) (w : World) (hw : Wr 77 5 w bw g (xs)) (hx : xs.length ≤ 136000000000000) :
    Ret Tryz.prog 60 #[.pointer (some ⟨bw, 0, none⟩), .int .u64 ((n).toNat : Int)] w (fun v w' => v = .tuple #[] ∧ ∃ g', Wr 77 5 w' bw g' (xs ++ (Cn.num n.toNat)) ∧ (g' = g ∨ g' = bw ∨ w.heap.size ≤ g') ∧ (bw < w'.heap.size ∧ g' < w'.heap.size) ∧ Ext (fun k => k = bw ∨ k = g) w w') := by
  have hwl := hw.lt
  obtain ⟨ie32, ti32, ts32, tb32, tz32⟩ := inf32
  refine enter (args := [.pointer (some ⟨bw, 0, none⟩), .int .u64 ((n).toNat : Int)]) (n := 9) Tryz.func60 rfl rfl (Nat.le_of_ble_eq_true rfl) ?_
  refine C.region ?_
  refine O.mv ?_
  refine O.mv ?_
  refine O.call Tryz.call86 (args1 rfl) (number_spec n _) ?_
  rintro v_6 w1 ⟨e1, h6⟩
  have z1 := e1.size
  have h6s := h6.sl
  replace h6 := h6
  refine O.lit1 Tryz.underlying67 ti32 ts32 tz32 rfl h6.one (fun b7 w2 hb7 hz7 e2 => ?_)
  have z2 := e2.size
  have h7 := hz7.own
  have hl7 := h7.lt
  refine O.call Tryz.call74 (args2 rfl rfl) (write_spec bw g xs _ [Cn.num n.toNat] _ _ ((hw.keep e1).keep e2) (Sl.lits1 h7 (h6s.keep e2)) (by omega) (by have := Cn.num_u n; simp; omega)) ?_
  rintro v_8 w3 ⟨rfl, gv8, hv8, hgv8, hlv8, e3⟩
  have z3 := e3.size
  refine O.nil ?_
  refine Outs.none rfl ?_
  exact ⟨rfl, gv8, by simpa using hv8, by omega, hlv8, (Ext.new (Ext.new (Ext.new (Ext.refl _ _) e1 (by intro i hi hk; first | exact hk.elim | ((try dsimp only at hk); (try dsimp only); omega))) e2 (by intro i hi hk; first | exact hk.elim | ((try dsimp only at hk); (try dsimp only); omega))) e3 (by intro i hi hk; first | exact hk.elim | ((try dsimp only at hk); (try dsimp only); omega)))⟩

theorem wput_spec (bw g : Nat) (xs : List UInt8) (v1 : Value) (ys : List UInt8) (F : Nat → Prop) (w : World) (hw : Wr 77 5 w bw g (xs)) (hx : xs.length ≤ 136000000000000) (hy : Sl byteE w F v1 ys) (hn : ys.length ≤ 10000000) :
    Ret Tryz.prog 50 #[.pointer (some ⟨bw, 0, none⟩), v1] w (fun v w' => v = .tuple #[] ∧ ∃ g', Wr 77 5 w' bw g' (xs ++ (ys)) ∧ (g' = g ∨ g' = bw ∨ w.heap.size ≤ g') ∧ (bw < w'.heap.size ∧ g' < w'.heap.size) ∧ Ext (fun k => k = bw ∨ k = g) w w') := by
  have hwl := hw.lt
  obtain ⟨ie32, ti32, ts32, tb32, tz32⟩ := inf32
  refine enter (args := [.pointer (some ⟨bw, 0, none⟩), v1]) (n := 8) Tryz.func50 rfl rfl (Nat.le_of_ble_eq_true rfl) ?_
  refine C.region ?_
  refine O.mv ?_
  refine O.mv ?_
  refine O.lit1 Tryz.underlying67 ti32 ts32 tz32 rfl hy.oneC (fun b6 w1 hb6 hz6 e1 => ?_)
  have z1 := e1.size
  have h6 := hz6.own
  have hl6 := h6.lt
  refine O.call Tryz.call74 (args2 rfl rfl) (write_spec bw g xs _ [ys] _ _ (hw.keep e1) (Sl.lits1 h6 (hy.keep e1)) (by omega) (by simp; omega)) ?_
  rintro v_7 w2 ⟨rfl, gv7, hv7, hgv7, hlv7, e2⟩
  have z2 := e2.size
  refine O.nil ?_
  refine Outs.none rfl ?_
  exact ⟨rfl, gv7, by simpa using hv7, by omega, hlv7, (Ext.new (Ext.new (Ext.refl _ _) e1 (by intro i hi hk; first | exact hk.elim | ((try dsimp only at hk); (try dsimp only); omega))) e2 (by intro i hi hk; first | exact hk.elim | ((try dsimp only at hk); (try dsimp only); omega)))⟩

theorem wstr_spec (bw g : Nat) (xs : List UInt8) (s : List UInt8) (w : World) (hw : Wr 77 5 w bw g (xs)) (hx : xs.length ≤ 136000000000000) (hn : s.length ≤ 1000000) :
    Ret Tryz.prog 75 #[.pointer (some ⟨bw, 0, none⟩), str (s)] w (fun v w' => v = .tuple #[] ∧ ∃ g', Wr 77 5 w' bw g' (xs ++ (Cn.strB s)) ∧ (g' = g ∨ g' = bw ∨ w.heap.size ≤ g') ∧ (bw < w'.heap.size ∧ g' < w'.heap.size) ∧ Ext (fun k => k = bw ∨ k = g) w w') := by
  have hwl := hw.lt
  obtain ⟨ie32, ti32, ts32, tb32, tz32⟩ := inf32
  refine enter (args := [.pointer (some ⟨bw, 0, none⟩), str (s)]) (n := 13) Tryz.func75 rfl rfl (Nat.le_of_ble_eq_true rfl) ?_
  refine C.region ?_
  refine O.mv ?_
  refine O.mv ?_
  refine O.lenS Tryz.underlying9 rfl ?_
  refine O.convIU (m' := 64) Tryz.underlying3 Tryz.underlying49 rfl rfl rfl ?_
  refine O.call Tryz.call86 (args1 rfl) (number_spec (BitVec.ofInt 64 (s.length : Int)) _) ?_
  rintro v_8 w1 ⟨e1, h8⟩
  have z1 := e1.size
  have h8s := h8.sl
  refine O.mv ?_
  refine O.strB Tryz.underlying9 Tryz.underlying32 Tryz.underlying5 rfl (by unfold maxLen; omega) (fun b10 cap10 w2 hb10 hc10 h10 hs10 e2 => ?_)
  have z2 := e2.size
  refine O.litn [v_8, .slice (some ⟨b10, 0, none⟩) s.length cap10] Tryz.underlying67 ti32 ts32 tz32 rfl (by decide) (by decide) rfl (ones3 h8.one rfl) (fun b11 w3 hb11 hz11 e3 => ?_)
  have z3 := e3.size
  have h11 := hz11.own
  have hl11 := h11.lt
  refine O.call Tryz.call74 (args2 rfl rfl) (write_spec bw g xs _ [Cn.num (BitVec.ofInt 64 (s.length : Int)).toNat, s] _ _ (((hw.keep e1).keep e2).keep e3) (Sl.lits2 h11 ((h8s.keep e2).keep e3) (hs10.keep e3)) (by omega) (by have := Cn.num_u (BitVec.ofInt 64 (s.length : Int)); simp only [List.flatten_cons, List.flatten_nil, List.length_append, List.length_nil]; omega)) ?_
  rintro v_12 w4 ⟨rfl, gv12, hv12, hgv12, hlv12, e4⟩
  have z4 := e4.size
  refine O.nil ?_
  refine Outs.none rfl ?_
  refine ⟨rfl, gv12, hv12.lst ?_, by omega, hlv12, (Ext.new (Ext.new (Ext.new (Ext.new (Ext.refl _ _) e1 (by intro i hi hk; first | exact hk.elim | ((try dsimp only at hk); (try dsimp only); omega))) e2 (by intro i hi hk; first | exact hk.elim | ((try dsimp only at hk); (try dsimp only); omega))) e3 (by intro i hi hk; first | exact hk.elim | ((try dsimp only at hk); (try dsimp only); omega))) e4 (by intro i hi hk; first | exact hk.elim | ((try dsimp only at hk); (try dsimp only); omega)))⟩
  unfold Cn.strB
  rw [Cn.u_def, Cn.u_nat (by omega)]
  simp

theorem cloneB_spec (v0 : Value) (l : List UInt8) (F : Nat → Prop) (w : World) (hl : Sl byteE w F v0 l) (hn : l.length ≤ 139000000000000) :
    Ret Tryz.prog 61 #[v0] w (fun v w' => Le w w' ∧ OwnF byteF 5 w.heap.size w' v (l)) := by
  have hle := hl.le
  obtain ⟨ie5, ti5, ts5, tb5, tz5⟩ := inf5
  refine enter (args := [v0]) (n := 8) Tryz.func61 rfl rfl (Nat.le_of_ble_eq_true rfl) ?_
  refine C.seqK fun K1 hK1 => ?_
  refine C.region ?_
  refine O.asg ?_
  refine O.nil ?_
  refine hK1 _ _ ?_
  refine C.seqK fun K2 hK2 => ?_
  refine C.seqK fun K3 hK3 => ?_
  refine C.region ?_
  refine O.mv ?_
  refine O.eqlNilS Tryz.underlying32 rfl hl ?_
  refine O.nil ?_
  refine hK3 _ _ ?_
  refine C.cond rfl (fun c4 => ?_) (fun c4 => ?_)
  ·
    refine C.seqK fun K4 hK4 => ?_
    refine C.region ?_
    refine O.asg ?_
    refine O.nil ?_
    refine hK4 _ _ ?_
    refine C.ret ?_
    refine Outs.one rfl rfl ?_
    first
    | (obtain rfl := isNilS_nil hl c4
       exact ⟨(Le.refl _), OwnF.nil _ _ _ _⟩)
    | exact ⟨(Le.refl _), {app:7}⟩
  ·
    refine C.skip ?_
    refine hK2 _ _ ?_
    refine C.seqK fun K5 hK5 => ?_
    refine C.region ?_
    refine O.lit0 Tryz.underlying32 ti5 (fun b5 w1 hb5 hz5 e1 => ?_)
    have z1 := e1.size
    have h5 := hz5.own
    have hl5 := h5.lt
    have h1005 : OwnF byteF 5 w.heap.size w1 _ [] := OwnF.lit0 hz5 hb5
    refine O.mv ?_
    refine O.appF (G := byteF) Tryz.underlying32 ti5 tz5 ts5 rfl rfl rfl h1005 (hl.keep e1) (by rw [tb5]; simp; omega) (by unfold maxLen; simp; omega) (by omega) (fun v7 w2 h7 e2 => ?_)
    have z2 := e2.size
    have h7s := h7.sl
    refine O.asg ?_
    refine O.nil ?_
    refine hK5 _ _ ?_
    refine C.ret ?_
    refine Outs.one rfl rfl ?_
    first
    | (obtain rfl := isNilS_nil hl c4
       exact ⟨(Ext.new e1 e2 (by intro i hi h; have := h1005.bk_ge i h; omega)), OwnF.nil _ _ _ _⟩)
    | exact ⟨(Ext.new e1 e2 (by intro i hi h; have := h1005.bk_ge i h; omega)), h7⟩

theorem wbytes_spec (bw g : Nat) (xs : List UInt8) (w : World) (hw : Wr 77 5 w bw g (xs)) (hx : xs.length ≤ 139000000000000) :
    Ret Tryz.prog 39 #[.pointer (some ⟨bw, 0, none⟩)] w (fun v w' => Le w w' ∧ OwnF byteF 5 w.heap.size w' v (xs)) := by
  obtain ⟨vw, hb, ho, hg, hgb⟩ := hw.cell
  have hsl := ho.sl
  refine enter (args := [.pointer (some ⟨bw, 0, none⟩)]) (n := 10) Tryz.func39 rfl rfl (Nat.le_of_ble_eq_true rfl) ?_
  refine C.seqK fun K1 hK1 => ?_
  refine C.region ?_
  refine O.asg ?_
  refine O.nil ?_
  refine hK1 _ _ ?_
  refine C.seqK fun K2 hK2 => ?_
  refine C.seqK fun K3 hK3 => ?_
  refine C.region ?_
  refine O.mv ?_
  refine O.eqlP0 Tryz.underlying79 rfl ?_
  refine O.nil ?_
  refine hK3 _ _ ?_
  refine C.condF rfl ?_
  refine C.skip ?_
  refine hK2 _ _ ?_
  refine C.seqK fun K4 hK4 => ?_
  refine C.region ?_
  refine O.mv ?_
  refine O.nilChk rfl ?_
  refine O.fieldAd Tryz.underlying77 rfl Tryz.sizeOf32 (by decide) rfl ?_
  refine O.loadO Tryz.isAgg32 rfl hb rfl ?_
  refine O.call Tryz.call61 (args1 rfl) (cloneB_spec _ xs _ _ hsl hx) ?_
  rintro v_9 w1 ⟨e1, h9⟩
  have z1 := e1.size
  refine O.asg ?_
  refine O.nil ?_
  refine hK4 _ _ ?_
  refine C.ret ?_
  refine Outs.one rfl rfl ?_
  exact ⟨e1, h9.low (by omega)⟩

set_option maxHeartbeats 1000000 in
theorem seen1_spec (v0 : Value) (l : List Dt.Dot) (F : Nat → Prop) (bc bw g : Nat) (xs : List UInt8) (w : World) (hl : Sl Dt.dotF.enc w F v0 l) (ho : Own w bc 79 [.pointer (some ⟨bw, 0, none⟩)]) (hw : Wr 77 5 w bw g (xs)) (hx : xs.length ≤ 135000000000000) (hF : ∀ k, F k → k ≠ bw ∧ k ≠ g ∧ k < w.heap.size) (hbc : bc ≠ bw ∧ bc ≠ g) (hn : l.length ≤ 1000000) :
    Ret Tryz.prog 59 #[v0, .pointer (some ⟨bc, 0, none⟩)] w (fun v w' => v = .tuple #[] ∧ ∃ g', Wr 77 5 w' bw g' (xs ++ (Cn.dotsB l)) ∧ (g' = g ∨ g' = bw ∨ w.heap.size ≤ g') ∧ (bw < w'.heap.size ∧ g' < w'.heap.size) ∧ Ext (fun k => k = bw ∨ k = g) w w') := by
  have hwl := hw.lt
  have hle := hl.le
  have hol := ho.lt
  have hnl := Cn.num_le l.length (by omega)
  refine enter (args := [v0, .pointer (some ⟨bc, 0, none⟩)]) (n := 27) Tryz.func59 rfl rfl (Nat.le_of_ble_eq_true rfl) ?_
  refine C.seqK fun K1 hK1 => ?_
  refine C.region ?_
  refine O.loadO Tryz.isAgg79 rfl ho rfl ?_
  refine O.mv ?_
  refine O.len Tryz.underlying22 rfl hl ?_
  refine O.convIU (m' := 64) Tryz.underlying3 Tryz.underlying49 rfl rfl rfl ?_
  refine O.call Tryz.call60 (args2 rfl rfl) (wnum_spec bw g xs (BitVec.ofInt 64 (l.length : Int)) _ hw (by omega)) ?_
  rintro v_9 w1 ⟨rfl, gv9, hv9, hgv9, hlv9, e1⟩
  have z1 := e1.size
  refine O.nil ?_
  refine hK1 _ _ ?_
  refine C.seqK fun K2 hK2 => ?_
  refine C.region ?_
  refine O.mv ?_
  refine O.len Tryz.underlying22 rfl (hl.keepM e1 (by intro k hk h; have q1 := hF k hk; (try dsimp only at h); omega)) ?_
  refine O.mv ?_
  refine O.nil ?_
  refine hK2 _ _ ?_
  refine C.block fun K3 hK3 => ?_
  refine C.loop0 (σ := Nat × Nat) (fun f0 w0 ⟨k, gl⟩ f w => f 12 = .int .i64 (k) ∧ f 1 = f0 1 ∧ f 10 = f0 10 ∧ f 11 = f0 11 ∧ Ext (fun k => k = bw ∨ k = gv9) w0 w ∧ Wr 77 5 w bw gl (xs ++ (Cn.num l.length ++ (l.take k).flatMap Cn.dotB)) ∧ k ≤ l.length ∧ (gl = gv9 ∨ gl = bw ∨ w0.heap.size ≤ gl) ∧ bw < w.heap.size ∧ gl < w.heap.size) (fun ⟨k, gl⟩ => l.length - k) (0, gv9) ?_ ?_
  ·
    refine ⟨rfl, rfl, rfl, rfl, Ext.refl _ _, (hv9.lst (by rw [Cn.u_def, Cn.u_nat (by omega)]; simp)), ?_⟩
    exact ⟨Nat.zero_le _, .inl rfl, by omega, by omega⟩
  ·
    rintro ⟨k, gl⟩ f_1 w2 ⟨s12_1, s1_1, s10_1, s11_1, e_1, r0_1, ⟨hk, hgl, hgl2, hgl3⟩⟩
    have z_1 := e_1.size
    have hfl := Cn.flatMap_take_le (f := Cn.dotB) (b := 20) (l := l) (fun x _ => Cn.dotB_le x) hk
    refine C.seqK fun K4 hK4 => ?_
    refine C.region ?_
    refine O.lssI s12_1 s11_1 ?_
    refine O.nil ?_
    refine hK4 _ _ ?_
    refine C.seqK fun K5 hK5 => ?_
    refine C.condD rfl (fun c13 => ?_) (fun c13 => ?_)
    ·
      have hk2 : k < l.length := by omega
      refine C.skip ?_
      refine hK5 _ _ ?_
      refine C.seqK fun K6 hK6 => ?_
      refine C.block fun K7 hK7 => ?_
      refine C.seqK fun K8 hK8 => ?_
      refine C.region ?_
      refine O.idx Tryz.underlying22 Tryz.sizeOf51 rfl s10_1 ((hl.keepM e1 (by intro k hk h; have q1 := hF k hk; (try dsimp only at h); omega)).keepM e_1 (by intro k hk h; have q1 := hF k hk; (try dsimp only at h); omega)) s12_1 (by omega) (fun a14 h14 => ?_)
      refine O.loadG (G := Dt.dotF) Tryz.isAgg51 Tryz.sizeOf51 rfl h14 ?_
      obtain ⟨u, hu⟩ : ∃ u : Dt.Dot, u = l[k] := ⟨_, rfl⟩
      refine O.cast (v' := Dt.dv u) (by rw [hu]; rfl) ?_
      refine O.alloc Tryz.zeroValue51 (fun b4 w3 hb4 hz4 e3 => ?_)
      have z3 := e3.size
      have h4 := hz4.own
      have hl4 := h4.lt
      refine O.storeA (vs := [.int .i64 u.1, .int .i64 u.2]) Tryz.sizeOf51 rfl rfl rfl (by simp [Value.oneCell']) h4 (Nat.le_of_ble_eq_true rfl) (fun w4 hs4 e4 z4 => ?_)
      refine O.nil ?_
      refine hK8 _ _ ?_
      refine C.seqK fun K9 hK9 => ?_
      refine C.region ?_
      refine O.loadO Tryz.isAgg79 s1_1 ((((ho.keepM e1 (by intro h; (try dsimp only at h); omega)).keepM e_1 (by intro h; (try dsimp only at h); omega)).keep e3).keepM e4 (by intro h; (try dsimp only at h); omega)) rfl ?_
      refine O.fieldAd Tryz.underlying51 rfl Tryz.sizeOf3 (by decide) rfl ?_
      refine O.loadO Tryz.isAgg3 rfl hs4 rfl ?_
      refine O.convIU (m' := 64) Tryz.underlying3 Tryz.underlying49 rfl rfl rfl ?_
      refine O.call Tryz.call60 (args2 rfl rfl) (wnum_spec bw gl _ (BitVec.ofInt 64 u.1) _ ((r0_1.keep e3).keepM e4 (by intro k hk h; (try dsimp only at h); omega)) (by simp only [List.length_append]; omega)) ?_
      rintro v_20 w5 ⟨rfl, gv20, hv20, hgv20, hlv20, e5⟩
      have z5 := e5.size
      refine O.nil ?_
      refine hK9 _ _ ?_
      refine C.region ?_
      refine O.loadO Tryz.isAgg79 s1_1 (((((ho.keepM e1 (by intro h; (try dsimp only at h); omega)).keepM e_1 (by intro h; (try dsimp only at h); omega)).keep e3).keepM e4 (by intro h; (try dsimp only at h); omega)).keepM e5 (by intro h; (try dsimp only at h); omega)) rfl ?_
      refine O.fieldAd Tryz.underlying51 rfl Tryz.sizeOf3 (by decide) rfl ?_
      refine O.loadO Tryz.isAgg3 rfl (hs4.keepM e5 (by intro h; (try dsimp only at h); omega)) rfl ?_
      refine O.convIU (m' := 64) Tryz.underlying3 Tryz.underlying49 rfl rfl rfl ?_
      refine O.call Tryz.call60 (args2 rfl rfl) (wnum_spec bw gv20 _ (BitVec.ofInt 64 u.2) _ hv20 (by have := Cn.num_u (BitVec.ofInt 64 u.1); simp only [List.length_append]; omega)) ?_
      rintro v_25 w6 ⟨rfl, gv25, hv25, hgv25, hlv25, e6⟩
      have z6 := e6.size
      refine O.nil ?_
      refine hK7 _ _ ?_
      refine hK6 _ _ ?_
      refine C.region ?_
      refine O.addI s12_1 rfl (by unfold InI; omega) ?_
      refine O.mv ?_
      refine O.nil ?_
      refine ⟨(k + 1, gv25), ⟨rfl, s1_1, s10_1, s11_1, (Ext.new (Ext.new (Ext.new (Ext.new (Ext.new (Ext.refl _ _) e_1 (by intro i hi hk; first | exact hk.elim | ((try dsimp only at hk); (try dsimp only); omega))) e3 (by intro i hi hk; first | exact hk.elim | ((try dsimp only at hk); (try dsimp only); omega))) e4 (by intro i hi hk; first | exact hk.elim | ((try dsimp only at hk); (try dsimp only); omega))) e5 (by intro i hi hk; first | exact hk.elim | ((try dsimp only at hk); (try dsimp only); omega))) e6 (by intro i hi hk; first | exact hk.elim | ((try dsimp only at hk); (try dsimp only); omega))), (hv25.lst (by rw [Cn.flatMap_take _ hk2, ← hu, Cn.u_def, Cn.u_def]; unfold Cn.dotB; simp only [List.append_assoc])), ?_⟩, by first | omega | (simp only []; omega)⟩
      refine ⟨by omega, by omega, by omega, by omega⟩
    ·
      refine C.exit ?_
      refine hK3 _ _ ?_
      refine Outs.none rfl ?_
      obtain rfl : k = l.length := by omega
      refine ⟨rfl, gl, r0_1.lst ?_, by omega, ⟨by omega, by omega⟩, (Ext.new (Ext.new (Ext.refl _ _) e1 (by intro i hi hk; first | exact hk.elim | ((try dsimp only at hk); (try dsimp only); omega))) e_1 (by intro i hi hk; first | exact hk.elim | ((try dsimp only at hk); (try dsimp only); omega)))⟩
      rw [List.take_length]
      rfl

end Go.Proofs.YtnkcmaoaagnopaaGreatDoor
