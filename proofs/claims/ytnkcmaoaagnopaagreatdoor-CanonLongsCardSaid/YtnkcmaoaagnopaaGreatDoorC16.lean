/-
  The walk of long carts. Conditions: slices as they lie in memory.
-/
import Derived.Test.YtnkcmaoaagnopaaGreatDoorC13
import Derived.Test.YtnkcmaoaagnopaaGreatDoorFw23
namespace Go.Proofs.YtnkcmaoaagnopaaGreatDoor
open Go.Pn Go.RowKit Go.Proofs
attribute [local irreducible] O C D

set_option maxHeartbeats 16000000 in
theorem canonLongsT_spec (many : BitVec 16) (first : BitVec 32) (qty : Int) (time : BitVec 64) (w : World) (hqty : -2147483648 ≤ qty ∧ qty ≤ 2147483647) (mx : Mx w) :
    Ret Tryz.prog 6 #[.int .u16 ((many).toNat : Int), .int .u32 ((first).toNat : Int), .int .i32 (qty), .int .u64 ((time).toNat : Int), .bool (true)] w (fun v w' => v = .bool true ∧ Le w w') := by
  obtain ⟨ie51, ti51, ts51, tb51, tz51⟩ := inf51
  obtain ⟨ie53, ti53, ts53, tb53, tz53⟩ := inf53
  obtain ⟨ie56, ti56, ts56, tb56, tz56⟩ := inf56
  obtain ⟨ie5, ti5, ts5, tb5, tz5⟩ := inf5
  have hft := first.isLt
  have hmt := many.isLt
  refine enter (args := [.int .u16 ((many).toNat : Int), .int .u32 ((first).toNat : Int), .int .i32 (qty), .int .u64 ((time).toNat : Int), .bool (true)]) (n := 125) Tryz.func6 rfl rfl (Nat.le_of_ble_eq_true rfl) ?_
  refine C.seqK fun K1 hK1 => ?_
  refine C.region ?_
  refine O.asg ?_
  refine O.nil ?_
  refine hK1 _ _ ?_
  refine C.seqK fun K2 hK2 => ?_
  refine C.seqK fun K3 hK3 => ?_
  refine C.region ?_
  refine O.mv ?_
  refine O.gtrU (m := 16) (b := 300#16) rfl rfl ?_
  refine O.mv ?_
  refine O.splitD (x := .tmp 19) rfl (fun c19 => ?_) (fun c19 => ?_)
  ·
    refine O.no rfl (noB (isT rfl c19) rfl) ?_
    refine O.no rfl (noB (isT rfl c19) rfl) ?_
    refine O.pickT (isT rfl c19) ?_
    refine O.mv ?_
    refine O.no rfl (noB rfl rfl) ?_
    refine O.no rfl (noB rfl rfl) ?_
    refine O.pickT rfl ?_
    refine O.mv ?_
    refine O.no rfl (noB rfl rfl) ?_
    refine O.no rfl (noB rfl rfl) ?_
    refine O.pickT rfl ?_
    refine O.nil ?_
    refine hK3 _ _ ?_
    refine C.condT rfl ?_
    refine C.seqK fun K4 hK4 => ?_
    refine C.region ?_
    refine O.call Tryz.call14 (argsN) (known_spec _ mx) ?_
    rintro v_31 w1 ⟨rfl, e1⟩
    have z1 := e1.size
    refine O.asg ?_
    refine O.nil ?_
    refine hK4 _ _ ?_
    refine C.ret ?_
    refine Outs.one rfl rfl ?_
    exact ⟨rfl, e1⟩
  ·
    refine O.yes rfl (isF rfl c19) ?_
    refine O.mv ?_
    refine O.yes rfl (isF rfl c19) ?_
    refine O.gtrU (m := 32) (b := 4294966296#32) rfl rfl ?_
    refine O.pickF (isF rfl c19) ?_
    refine O.mv ?_
    refine O.splitD (x := .tmp 23) rfl (fun c23 => ?_) (fun c23 => ?_)
    ·
      refine O.no rfl (noB (isT rfl c23) rfl) ?_
      refine O.no rfl (noB (isT rfl c23) rfl) ?_
      refine O.pickT (isT rfl c23) ?_
      refine O.mv ?_
      refine O.no rfl (noB rfl rfl) ?_
      refine O.no rfl (noB rfl rfl) ?_
      refine O.pickT rfl ?_
      refine O.nil ?_
      refine hK3 _ _ ?_
      refine C.condT rfl ?_
      refine C.seqK fun K5 hK5 => ?_
      refine C.region ?_
      refine O.call Tryz.call14 (argsN) (known_spec _ mx) ?_
      rintro v_31 w2 ⟨rfl, e2⟩
      have z2 := e2.size
      refine O.asg ?_
      refine O.nil ?_
      refine hK5 _ _ ?_
      refine C.ret ?_
      refine Outs.one rfl rfl ?_
      exact ⟨rfl, e2⟩
    ·
      refine O.yes rfl (isF rfl c23) ?_
      refine O.mv ?_
      refine O.yes rfl (isF rfl c23) ?_
      refine O.lssU (m := 32) (b := 2#32) rfl rfl ?_
      refine O.pickF (isF rfl c23) ?_
      refine O.mv ?_
      refine O.splitD (x := .tmp 27) rfl (fun c27 => ?_) (fun c27 => ?_)
      ·
        refine O.no rfl (noB (isT rfl c27) rfl) ?_
        refine O.no rfl (noB (isT rfl c27) rfl) ?_
        refine O.pickT (isT rfl c27) ?_
        refine O.nil ?_
        refine hK3 _ _ ?_
        refine C.condT rfl ?_
        refine C.seqK fun K6 hK6 => ?_
        refine C.region ?_
        refine O.call Tryz.call14 (argsN) (known_spec _ mx) ?_
        rintro v_31 w3 ⟨rfl, e3⟩
        have z3 := e3.size
        refine O.asg ?_
        refine O.nil ?_
        refine hK6 _ _ ?_
        refine C.ret ?_
        refine Outs.one rfl rfl ?_
        exact ⟨rfl, e3⟩
      ·
        refine O.yes rfl (isF rfl c27) ?_
        refine O.mv ?_
        refine O.yes rfl (isF rfl c27) ?_
        refine O.lssK rfl rfl ?_
        refine O.pickF (isF rfl c27) ?_
        refine O.nil ?_
        refine hK3 _ _ ?_
        refine C.condD rfl (fun c30 => ?_) (fun c30 => ?_)
        ·
          refine C.seqK fun K7 hK7 => ?_
          refine C.region ?_
          refine O.call Tryz.call14 (argsN) (known_spec _ mx) ?_
          rintro v_31 w4 ⟨rfl, e4⟩
          have z4 := e4.size
          refine O.asg ?_
          refine O.nil ?_
          refine hK7 _ _ ?_
          refine C.ret ?_
          refine Outs.one rfl rfl ?_
          exact ⟨rfl, e4⟩
        ·
          have hmany : many.toNat ≤ 300 := by simp only [BitVec.lt_def] at c19; simp at c19; omega
          have hfirst : first.toNat ≤ 4294966296 := by simp only [BitVec.lt_def] at c23; simp at c23; omega
          refine C.skip ?_
          refine hK2 _ _ ?_
          refine C.seqK fun K8 hK8 => ?_
          refine C.region ?_
          refine O.alloc Tryz.zeroValue28 (fun b11 w5 hb11 hz11 e5 => ?_)
          have z5 := e5.size
          have h11 := hz11.own
          have hl11 := h11.lt
          refine O.nil ?_
          refine hK8 _ _ ?_
          refine C.seqK fun K9 hK9 => ?_
          refine C.seqK fun K10 hK10 => ?_
          refine C.region ?_
          refine O.asg ?_
          refine O.nil ?_
          refine hK10 _ _ ?_
          refine C.block fun K11 hK11 => ?_
          refine C.loop0 (σ := Nat × Value × List Dt.Dot × Value × List (List UInt8 × (Option Addr × Nat × Nat)) × List ItemT) (fun f0 w0 ⟨k, u, ds, o, raw, its⟩ f wz => f 12 = .int .i64 ((k : Int)) ∧ f 0 = f0 0 ∧ f 1 = f0 1 ∧ f 2 = f0 2 ∧ f 3 = f0 3 ∧ f 4 = f0 4 ∧ f 10 = f0 10 ∧ f 11 = f0 11 ∧ Le w wz ∧ Own wz b11 28 [.slice none 0 0, u, o] ∧ OwnF Dt.dotF 51 (b11 + 1) wz u (ds) ∧ OwnF itemF 56 (b11 + 1) wz o (raw) ∧ Items wz (fun j => b11 < j ∧ j < wz.heap.size ∧ ¬ bk u j ∧ ¬ bk o j) raw (its) ∧ k ≤ many.toNat ∧ ds.length ≤ k ∧ its.length ≤ k ∧ (∀ j, bk o j → ¬ bk u j) ∧ (∀ x ∈ its, x.1.length ≤ 1000000 ∧ x.2.length ≤ 1000000)) (fun ⟨k, u, ds, o, raw, its⟩ => many.toNat - k) (0, .slice none 0 0, [], .slice none 0 0, [], []) ?_ ?_
          ·
            refine ⟨rfl, rfl, rfl, rfl, rfl, rfl, rfl, rfl, e5, h11, (OwnF.nil _ _ _ _), (OwnF.nil _ _ _ _), Items.nil, ?_⟩
            exact ⟨Nat.zero_le _, Nat.le_refl _, Nat.le_refl _, fun _ h => h.elim, fun x hx => by cases hx⟩
          ·
            rintro ⟨k, u, ds, o, raw, its⟩ f_1 w6 ⟨s12_1, s0_1, s1_1, s2_1, s3_1, s4_1, s10_1, s11_1, e_1, r0_1, r1_1, r2_1, r3_1, ⟨hk, hds, hits, hgo, hS⟩⟩
            have z_1 := e_1.size
            have r1_1s := r1_1.sl
            have r2_1s := r2_1.sl
            obtain ⟨wL, hwL⟩ : ∃ x, x = w6 := ⟨_, rfl⟩
            have hzL : wL.heap.size = w6.heap.size := by rw [hwL]
            have hbl11 := (r0_1).lt
            have hit := r3_1
            have hitl := hit.1
            have hub := (r1_1).bk_ge
            have hob := (r2_1).bk_ge
            refine C.seqK fun K12 hK12 => ?_
            refine C.seqK fun K13 hK13 => ?_
            refine C.region ?_
            refine O.mv ?_
            refine O.mv ?_
            refine O.convUI (m := 16) Tryz.underlying47 Tryz.underlying3 s0_1 (by decide) ?_
            refine O.lssI s12_1 rfl ?_
            refine O.nil ?_
            refine hK13 _ _ ?_
            refine C.condD rfl (fun c35 => ?_) (fun c35 => ?_)
            ·
              have hk2 : k < many.toNat := by omega
              refine C.skip ?_
              refine hK12 _ _ ?_
              refine C.seqK fun K14 hK14 => ?_
              refine C.block fun K15 hK15 => ?_
              refine C.seqK fun K16 hK16 => ?_
              refine C.region ?_
              refine O.mv ?_
              refine O.addI s12_1 rfl (by unfold InI; omega) ?_
              refine O.mv ?_
              refine O.convUI (m := 32) Tryz.underlying48 Tryz.underlying3 s1_1 (by decide) ?_
              refine O.build (cells := #[.int .i64 ((k : Int) + 1), .int .i64 (first.toNat : Int)]) rfl (by kernel_rfl) ?_
              refine O.alloc Tryz.zeroValue51 (fun b13 w7 hb13 hz13 e7 => ?_)
              have z7 := e7.size
              have h13 := hz13.own
              have hl13 := h13.lt
              refine O.storeA (vs := [.int .i64 ((k : Int) + 1), .int .i64 (first.toNat : Int)]) Tryz.sizeOf51 rfl rfl rfl (by simp [Value.oneCell']) h13 (Nat.le_of_ble_eq_true rfl) (fun w8 hs8 e8 z8 => ?_)
              refine O.nil ?_
              refine hK16 _ _ ?_
              refine C.seqK fun K17 hK17 => ?_
              refine C.seqK fun K18 hK18 => ?_
              refine C.region ?_
              refine O.mv ?_
              refine O.nil ?_
              refine hK18 _ _ ?_
              refine C.condT s4_1 ?_
              refine C.seqK fun K19 hK19 => ?_
              refine C.region ?_
              refine O.mv ?_
              refine O.convUI (m := 32) Tryz.underlying48 Tryz.underlying3 s1_1 (by decide) ?_
              refine O.mv ?_
              refine O.mulI rfl s12_1 (by unfold InI; omega) ?_
              refine O.addI rfl rfl (by unfold InI; omega) ?_
              refine O.build (cells := #[.int .i64 7, .int .i64 ((first.toNat : Int) + 2 * (k : Int))]) rfl (by kernel_rfl) ?_
              refine O.storeA (vs := [.int .i64 7, .int .i64 ((first.toNat : Int) + 2 * (k : Int))]) Tryz.sizeOf51 rfl rfl rfl (by simp [Value.oneCell']) hs8 (Nat.le_of_ble_eq_true rfl) (fun w9 hs9 e9 z9 => ?_)
              refine O.nil ?_
              refine hK19 _ _ ?_
              refine C.region ?_
              refine O.fieldAd Tryz.underlying28 rfl Tryz.sizeOf25 (by decide) s11_1 ?_
              refine O.fieldAd Tryz.underlying25 rfl Tryz.sizeOf22 (by decide) rfl ?_
              refine O.loadO Tryz.isAgg22 rfl (((r0_1.keep e7).keepM e8 (by intro h; (try dsimp only at h); omega)).keepM e9 (by intro h; (try dsimp only at h); omega)) rfl ?_
              refine O.loadOA Tryz.isAgg51 Tryz.sizeOf51 rfl hs9 (Nat.le_of_ble_eq_true rfl) ?_
              refine O.litG (G := Dt.dotF) [((7 : Int), (first.toNat : Int) + 2 * (k : Int))] Tryz.underlying22 ti51 ts51 tz51 rfl (by decide) (by decide) rfl (fun b54 w10 hb54 hz54 e10 => ?_)
              have z10 := e10.size
              have h54 := hz54.own
              have hq54 := Sl.litG (n := 1) h54 rfl (by unfold maxLen; omega)
              refine O.appW (G := Dt.dotF) Tryz.underlying22 ti51 tz51 ts51 rfl rfl rfl ((((r1_1.keep e7).keepM e8 (fun k hk h => by have := r1_1.bk_ge k hk; (try dsimp only at h); omega)).keepM e9 (fun k hk h => by have := r1_1.bk_ge k hk; (try dsimp only at h); omega)).keep e10) hq54 (by rw [tb51]; simp; omega) (by unfold maxLen; simp; omega) (by omega) (fun v55 w11 h55 e11 hw55 => ?_)
              have z11 := e11.size
              have h55s := h55.sl
              have h55b := h55.bk_ge
              have hgu9 : ∀ j, bk v55 j → ¬ bk o j := by
                intro j hj hq
                rcases hw55 j hj with q | q
                · exact hgo j hq q
                · have := hob j hq; omega
              have hit55 := ((((((r3_1.keep e7).keepM e8 (by intro k hk h; first | (have q1 := hF k hk; (try dsimp only at h); omega) | (have q1 := hF2 k hk; (try dsimp only at h); omega) | (have q1 := hFb k hk; (try dsimp only at h); omega) | ((try dsimp only at hk); (try dsimp only at h); omega))).keepM e9 (by intro k hk h; first | (have q1 := hF k hk; (try dsimp only at h); omega) | (have q1 := hF2 k hk; (try dsimp only at h); omega) | (have q1 := hFb k hk; (try dsimp only at h); omega) | ((try dsimp only at hk); (try dsimp only at h); omega))).keep e10).keepM e11 (fun j hj h => hj.2.2.1 h))).weak (F' := fun j => (b11 < j ∧ ¬ bk v55 j) ∧ ¬ bk o j ∧ j < wL.heap.size) (fun j hj => ⟨⟨hj.1, fun hq => by
                rcases hw55 j hq with q | q
                · exact hj.2.2.1 q
                · have := hj.2.1; omega⟩, hj.2.2.2, by have := hj.2.1; omega⟩)
              refine O.fieldAd Tryz.underlying28 rfl Tryz.sizeOf25 (by decide) s11_1 ?_
              refine O.fieldAd Tryz.underlying25 rfl Tryz.sizeOf22 (by decide) rfl ?_
              refine O.store Tryz.sizeOf22 rfl rfl h55.one (((((r0_1.keep e7).keepM e8 (by intro h; (try dsimp only at h); omega)).keepM e9 (by intro h; (try dsimp only at h); omega)).keep e10).keepM e11 (by intro h; have := ((((r1_1.keep e7).keepM e8 (fun k hk h => by have := r1_1.bk_ge k hk; (try dsimp only at h); omega)).keepM e9 (fun k hk h => by have := r1_1.bk_ge k hk; (try dsimp only at h); omega)).keep e10).bk_ge _ h; omega)) (by simp) (fun w12 hs12 e12 z12 => ?_)
              try simp only [Nat.zero_add] at hs12
              refine O.nil ?_
              refine hK17 _ _ ?_
              refine C.seqK fun K20 hK20 => ?_
              refine C.region ?_
              refine O.mv ?_
              refine O.quoI s12_1 rfl (by omega) ?_
              refine O.addI rfl rfl (by unfold InI; omega) ?_
              refine O.convIU (m' := 8) Tryz.underlying3 Tryz.underlying5 rfl rfl rfl ?_
              refine O.mv ?_
              refine O.quoI s12_1 rfl (by omega) ?_
              refine O.remI rfl rfl (by omega) ?_
              refine O.addI rfl rfl (by unfold InI; omega) ?_
              refine O.convIU (m' := 8) Tryz.underlying3 Tryz.underlying5 rfl rfl rfl ?_
              refine O.mv ?_
              refine O.remI s12_1 rfl (by omega) ?_
              refine O.addI rfl rfl (by unfold InI; omega) ?_
              refine O.convIU (m' := 8) Tryz.underlying3 Tryz.underlying5 rfl rfl rfl ?_
              refine O.litn [.int .u8 ((BitVec.ofInt 8 (97 + (k : Int) / 100)).toNat : Int), .int .u8 ((BitVec.ofInt 8 (48 + (k : Int) / 10 % 10)).toNat : Int), .int .u8 ((BitVec.ofInt 8 (48 + (k : Int) % 10)).toNat : Int)] Tryz.underlying32 ti5 ts5 tz5 rfl (by decide) (by decide) rfl (by simp [Value.oneCell']) (fun b79 w13 hb79 hz79 e13 => ?_)
              have z13 := e13.size
              have h79 := hz79.own
              have hl79 := h79.lt
              have h79s : Sl byteE w13 (fun k => k = b79) (.slice (some ⟨b79, 0, none⟩) 3 3) [UInt8.ofBitVec (BitVec.ofInt 8 (97 + (k : Int) / 100)), UInt8.ofBitVec (BitVec.ofInt 8 (48 + (k : Int) / 10 % 10)), UInt8.ofBitVec (BitVec.ofInt 8 (48 + (k : Int) % 10))] := Sl.of_own (G := byteF) h79 rfl (Nat.le_refl _) (by unfold maxLen; omega) (by simp [byteF])
              refine O.bytesS Tryz.underlying32 Tryz.underlying5 Tryz.underlying9 rfl h79s ?_
              refine O.asg ?_
              refine O.nil ?_
              refine hK20 _ _ ?_
              refine C.region ?_
              refine O.fieldAd Tryz.underlying28 rfl Tryz.sizeOf26 (by decide) s11_1 ?_
              refine O.loadO Tryz.isAgg26 rfl (hs12.keep e13) rfl ?_
              refine O.mv ?_
              refine O.loadOA Tryz.isAgg51 Tryz.sizeOf51 rfl ((((hs9.keep e10).keepM e11 (fun h => by have := hub _ h; omega)).keepM e12 (by intro h; (try dsimp only at h); omega)).keep e13) (Nat.le_of_ble_eq_true rfl) ?_
              refine O.cast (v' := Dt.dv (((7 : Int), (first.toNat : Int) + 2 * (k : Int)))) rfl ?_
              refine O.mv ?_
              refine O.convKI Tryz.underlying21 Tryz.underlying3 (by unfold InI; omega) s2_1 ?_
              refine O.mv ?_
              refine O.cast (v' := .int .u64 (time.toNat : Int)) s3_1 ?_
              refine O.build (cells := #[.int .i64 7, .int .i64 ((first.toNat : Int) + 2 * (k : Int)), .int .i64 qty, .int .u64 (time.toNat : Int)]) rfl (by kernel_rfl) ?_
              refine O.litG (G := markF) [(((7 : Int), (first.toNat : Int) + 2 * (k : Int)), qty, time)] Tryz.underlying54 ti53 ts53 tz53 rfl (by decide) (by decide) rfl (fun b89 w14 hb89 hz89 e14 => ?_)
              have z14 := e14.size
              have h89 := hz89.own
              have hq89 := Sl.litG (n := 1) h89 rfl (by unfold maxLen; omega)
              refine O.build (cells := #[str ([UInt8.ofBitVec (BitVec.ofInt 8 (97 + (k : Int) / 100)), UInt8.ofBitVec (BitVec.ofInt 8 (48 + (k : Int) / 10 % 10)), UInt8.ofBitVec (BitVec.ofInt 8 (48 + (k : Int) % 10))]), .slice (some ⟨b89, 0, none⟩) 1 1]) rfl (by kernel_rfl) ?_
              refine O.litG (G := itemF) [(([UInt8.ofBitVec (BitVec.ofInt 8 (97 + (k : Int) / 100)), UInt8.ofBitVec (BitVec.ofInt 8 (48 + (k : Int) / 10 % 10)), UInt8.ofBitVec (BitVec.ofInt 8 (48 + (k : Int) % 10))]), (some ⟨b89, 0, none⟩, 1, 1))] Tryz.underlying26 ti56 ts56 tz56 rfl (by decide) (by decide) rfl (fun b91 w15 hb91 hz91 e15 => ?_)
              have z15 := e15.size
              have h91 := hz91.own
              have hq91 := Sl.litG (n := 1) h91 rfl (by unfold maxLen; omega)
              refine O.appW (G := itemF) Tryz.underlying26 ti56 tz56 ts56 rfl rfl rfl (((((((((r2_1.keep e7).keepM e8 (fun k hk h => by have := r2_1.bk_ge k hk; (try dsimp only at h); omega)).keepM e9 (fun k hk h => by have := r2_1.bk_ge k hk; (try dsimp only at h); omega)).keep e10).keepM e11 (fun j hj h => hgo j hj h)).keepM e12 (fun k hk h => by have := r2_1.bk_ge k hk; (try dsimp only at h); omega)).keep e13).keep e14).keep e15) hq91 (by rw [tb56, hit.1]; simp; omega) (by unfold maxLen; rw [hit.1]; simp; omega) (by omega) (fun v92 w16 h92 e16 hw92 => ?_)
              have z16 := e16.size
              have h92s := h92.sl
              have hgo9 : ∀ j, bk v92 j → ¬ bk v55 j := by
                intro j hj hq
                rcases hw92 j hj with q | q
                · exact hgu9 j hq q
                · have := h55b j hq; omega
              have hit92 : Items w16 (fun j => b11 < j ∧ j < w16.heap.size ∧ ¬ bk v55 j ∧ ¬ bk v92 j) (raw ++ [(([UInt8.ofBitVec (BitVec.ofInt 8 (97 + (k : Int) / 100)), UInt8.ofBitVec (BitVec.ofInt 8 (48 + (k : Int) / 10 % 10)), UInt8.ofBitVec (BitVec.ofInt 8 (48 + (k : Int) % 10))]), (some ⟨b89, 0, none⟩, 1, 1))]) (its ++ [([UInt8.ofBitVec (BitVec.ofInt 8 (97 + (k : Int) / 100)), UInt8.ofBitVec (BitVec.ofInt 8 (48 + (k : Int) / 10 % 10)), UInt8.ofBitVec (BitVec.ofInt 8 (48 + (k : Int) % 10))], [(((7 : Int), (first.toNat : Int) + 2 * (k : Int)), qty, time)])]) := (((((((hit55.keepM e12 (by intro k hk h; first | (have q1 := hF k hk; (try dsimp only at h); omega) | (have q1 := hF2 k hk; (try dsimp only at h); omega) | (have q1 := hFb k hk; (try dsimp only at h); omega) | ((try dsimp only at hk); (try dsimp only at h); omega))).keep e13).keep e14).keep e15).keepM e16 (fun j hj h => hj.2.1 h))).weak (fun j hj => ⟨hj.1.1, by have := hj.2.2; omega, hj.1.2, fun hq => by
                rcases hw92 j hq with q | q
                · exact hj.2.1 q
                · have := hj.2.2; omega⟩)).snoc (x := ([UInt8.ofBitVec (BitVec.ofInt 8 (97 + (k : Int) / 100)), UInt8.ofBitVec (BitVec.ofInt 8 (48 + (k : Int) / 10 % 10)), UInt8.ofBitVec (BitVec.ofInt 8 (48 + (k : Int) % 10))], [(((7 : Int), (first.toNat : Int) + 2 * (k : Int)), qty, time)])) rfl ((((hq89.keep e15).keepM e16 (by intro j hj h; have hj : j = b89 := hj; have := hob j h; omega))).weak (by
                intro j hj
                have hj : j = b89 := hj
                have h89l := h89.lt
                refine ⟨by omega, by omega, fun hq => ?_, fun hq => ?_⟩
                · have := h55b j hq; omega
                · rcases hw92 j hq with q | q
                  · have := hob j q; omega
                  · omega))
              have hS8 : ∀ x ∈ its ++ [([UInt8.ofBitVec (BitVec.ofInt 8 (97 + (k : Int) / 100)), UInt8.ofBitVec (BitVec.ofInt 8 (48 + (k : Int) / 10 % 10)), UInt8.ofBitVec (BitVec.ofInt 8 (48 + (k : Int) % 10))], [(((7 : Int), (first.toNat : Int) + 2 * (k : Int)), qty, time)])], x.1.length ≤ 1000000 ∧ x.2.length ≤ 1000000 := by
                intro x hx
                rcases List.mem_append.1 hx with h | h
                · exact hS x h
                · obtain rfl := List.mem_singleton.1 h
                  exact ⟨by simp, by simp⟩
              refine O.fieldAd Tryz.underlying28 rfl Tryz.sizeOf26 (by decide) s11_1 ?_
              refine O.store Tryz.sizeOf26 rfl rfl h92.one ((((hs12.keep e13).keep e14).keep e15).keepM e16 (by intro h; have := (((((((((r2_1.keep e7).keepM e8 (fun k hk h => by have := r2_1.bk_ge k hk; (try dsimp only at h); omega)).keepM e9 (fun k hk h => by have := r2_1.bk_ge k hk; (try dsimp only at h); omega)).keep e10).keepM e11 (fun j hj h => hgo j hj h)).keepM e12 (fun k hk h => by have := r2_1.bk_ge k hk; (try dsimp only at h); omega)).keep e13).keep e14).keep e15).bk_ge _ h; omega)) (by simp) (fun w17 hs17 e17 z17 => ?_)
              try simp only [Nat.zero_add] at hs17
              refine O.nil ?_
              refine hK15 _ _ ?_
              refine hK14 _ _ ?_
              refine C.region ?_
              refine O.mv ?_
              refine O.addI s12_1 rfl (by unfold InI; omega) ?_
              refine O.asg ?_
              refine O.nil ?_
              refine ⟨(k + 1, _, _, _, _, _), ⟨rfl, s0_1, s1_1, s2_1, s3_1, s4_1, s10_1, s11_1, (Ext.new (Ext.new (Ext.trans (Ext.trans (Ext.trans (Ext.new (Ext.new (Ext.trans (Ext.new (Ext.new (Ext.trans e_1 e7) e8 (by rintro i hi rfl; omega)) e9 (by rintro i hi rfl; omega)) e10) e11 (by intro i hi h; have := ((((r1_1.keep e7).keepM e8 (fun k hk h => by have := r1_1.bk_ge k hk; (try dsimp only at h); omega)).keepM e9 (fun k hk h => by have := r1_1.bk_ge k hk; (try dsimp only at h); omega)).keep e10).bk_ge i h; omega)) e12 (by rintro i hi rfl; omega)) e13) e14) e15) e16 (by intro i hi h; have := (((((((((r2_1.keep e7).keepM e8 (fun k hk h => by have := r2_1.bk_ge k hk; (try dsimp only at h); omega)).keepM e9 (fun k hk h => by have := r2_1.bk_ge k hk; (try dsimp only at h); omega)).keep e10).keepM e11 (fun j hj h => hgo j hj h)).keepM e12 (fun k hk h => by have := r2_1.bk_ge k hk; (try dsimp only at h); omega)).keep e13).keep e14).keep e15).bk_ge i h; omega)) e17 (by rintro i hi rfl; omega)), hs17, ((((((h55.keepM e12 (fun k hk h => by have := h55.bk_ge k hk; (try dsimp only at h); omega)).keep e13).keep e14).keep e15).keepM e16 (fun j hj h => hgu9 j hj h)).keepM e17 (fun k hk h => by have := h55.bk_ge k hk; (try dsimp only at h); omega)), (h92.keepM e17 (fun k hk h => by have := h92.bk_ge k hk; (try dsimp only at h); omega)), (((hit92.keepM e17 (by intro k hk h; first | (have q1 := hF k hk; (try dsimp only at h); omega) | (have q1 := hF2 k hk; (try dsimp only at h); omega) | (have q1 := hFb k hk; (try dsimp only at h); omega) | ((try dsimp only at hk); (try dsimp only at h); omega)))).weak (fun j hj => ⟨hj.1, by have := hj.2.1; omega, hj.2.2⟩)), ?_⟩, by first | omega | (simp only []; omega)⟩
              exact ⟨by omega, by rw [List.length_append]; simp; omega, by rw [List.length_append]; simp; omega, hgo9, hS8⟩
            ·
              obtain ⟨wq, hwq⟩ : ∃ x, x = w6 := ⟨_, rfl⟩
              have hzq : wq.heap.size = w6.heap.size := by rw [hwq]
              have hn9 : (((([] : List Dt.Dot), ds), its)).2.length ≤ 1000000 := by show its.length ≤ 1000000; omega
              have hS9 : ∀ x ∈ (((([] : List Dt.Dot), ds), its)).2, x.1.length ≤ 1000000 ∧ x.2.length ≤ 1000000 := hS
              have hp9 : (((([] : List Dt.Dot), ds), its)).1.1.length ≤ 1000000 := by simp
              have hq9 : (((([] : List Dt.Dot), ds), its)).1.2.length ≤ 1000000 := by show ds.length ≤ 1000000; omega
              have hsa1 : Sl Dt.dotF.enc w6 (fun k => k < wq.heap.size) (.slice none 0 0) (((([] : List Dt.Dot), ds), its)).1.1 := Sl.nil _ _ _
              have hsa2 : Sl Dt.dotF.enc w6 (fun k => k < wq.heap.size) (u) (((([] : List Dt.Dot), ds), its)).1.2 := (r1_1).sl.weak (by intro j hj; have q := hub j hj; show j < wq.heap.size; omega)
              have hsa3 : Sl itemE w6 (fun k => k < wq.heap.size) o (((([] : List Dt.Dot), ds), its)).2 := (hit.weak (by intro j hj; have q := hj.2.1; show j < wq.heap.size; omega)).sl ((r2_1).sl.weak (by intro j hj; have q := hob j hj; show j < wq.heap.size; omega))
              refine C.exit ?_
              refine hK11 _ _ ?_
              refine hK9 _ _ ?_
              refine C.seqK fun K21 hK21 => ?_
              refine C.seqK fun K22 hK22 => ?_
              refine C.region ?_
              refine O.loadOA Tryz.isAgg28 Tryz.sizeOf28 s11_1 r0_1 (Nat.le_of_ble_eq_true rfl) ?_
              refine O.call Tryz.call19 (args1 rfl) (cartValid_spec (.slice none 0 0) u o ((([] : List Dt.Dot), ds), its) (fun k => k < wq.heap.size) _ hsa1 hsa2 hsa3 (fun k hk => by have hk : k < wq.heap.size := hk; omega) hn9 hS9 (mx.keep e_1)) ?_
              rintro v_95 w18 ⟨rfl, e18⟩
              have z18 := e18.size
              refine O.not rfl ?_
              refine O.nil ?_
              refine hK22 _ _ ?_
              refine C.cond rfl (fun c96 => ?_) (fun c96 => ?_)
              ·
                have hva : Cn.valid ((([] : List Dt.Dot), ds), its) = false := by simpa using c96
                refine C.seqK fun K23 hK23 => ?_
                refine C.region ?_
                refine O.loadOA Tryz.isAgg28 Tryz.sizeOf28 s11_1 (r0_1.keep e18) (Nat.le_of_ble_eq_true rfl) ?_
                refine O.call Tryz.call20 (args3 rfl rfl rfl) (encodes_spec (.slice none 0 0) u o ((([] : List Dt.Dot), ds), its) (fun k => k < wq.heap.size) _ [] (fun _ => False) 2 _ (hsa1.keep e18) (hsa2.keep e18) (hsa3.keep e18) (fun k hk => by have hk : k < wq.heap.size := hk; omega) hn9 hS9 hp9 hq9 ((mx.keep e_1).keep e18) (Sl.nil _ _ _)) ?_
                rintro v_98 w19 ⟨rfl, e19⟩
                have z19 := e19.size
                refine O.cast (v' := .bool true) (congrArg Value.bool (by simp [hva])) ?_
                refine O.mv ?_
                refine O.yes rfl rfl ?_
                refine O.call Tryz.call14 (argsN) (known_spec _ (((mx.keep e_1).keep e18).keep e19)) ?_
                rintro v_100 w20 ⟨rfl, e20⟩
                have z20 := e20.size
                refine O.pickT rfl ?_
                refine O.asg ?_
                refine O.nil ?_
                refine hK23 _ _ ?_
                refine C.ret ?_
                refine Outs.one rfl rfl ?_
                exact ⟨rfl, (Ext.trans (Ext.trans (Ext.trans e_1 e18) e19) e20)⟩
              ·
                have hva : Cn.valid ((([] : List Dt.Dot), ds), its) = true := by simpa using c96
                refine C.skip ?_
                refine hK21 _ _ ?_
                refine C.seqK fun K24 hK24 => ?_
                refine C.region ?_
                refine O.loadOA Tryz.isAgg28 Tryz.sizeOf28 s11_1 (r0_1.keep e18) (Nat.le_of_ble_eq_true rfl) ?_
                refine O.call Tryz.call24 (args1 rfl) (size_spec (.slice none 0 0) u o ((([] : List Dt.Dot), ds), its) (fun k => k < wq.heap.size) _ (hsa1.keep e18) (hsa2.keep e18) (hsa3.keep e18) (fun k hk => by have hk : k < wq.heap.size := hk; omega) hn9 hS9 hp9 hq9 ((mx.keep e_1).keep e18)) ?_
                rintro v_104 w21 ⟨rfl, e21⟩
                have z21 := e21.size
                refine O.mv ?_
                refine O.extract rfl rfl ?_
                refine O.extract rfl rfl ?_
                refine O.asg ?_
                refine O.asg ?_
                refine O.nil ?_
                refine hK24 _ _ ?_
                refine C.seqK fun K25 hK25 => ?_
                refine C.draw (by kernel_rfl) fun w22 e22 => ?_
                have z22 := e22.size
                refine D.take (i := 0) rfl rfl rfl rfl (by kernel_rfl) (Le.refl _) ⟨_, rfl⟩ (fun w_ hw_ N_ hN => (O.loadOA Tryz.isAgg28 Tryz.sizeOf28 s11_1 ((((r0_1.keep e18).keep e21).keep e22).keep hw_) (Nat.le_of_ble_eq_true rfl) (O.nil hN))) ?_
                refine D.take (i := 1) rfl rfl rfl rfl (by kernel_rfl) (Le.refl _) ⟨_, rfl⟩ (fun w_ hw_ N_ hN => (O.loadOA Tryz.isAgg28 Tryz.sizeOf28 s11_1 ((((r0_1.keep e18).keep e21).keep e22).keep hw_) (Nat.le_of_ble_eq_true rfl) (O.nil hN))) ?_
                refine D.one (i := 2) rfl rfl (by kernel_rfl) ?_
                refine O.call Tryz.call22 (args1 rfl) (rbytes_spec (.slice none 0 0) u o ((([] : List Dt.Dot), ds), its) (fun k => k < wq.heap.size) _ (((hsa1.keep e18).keep e21).keep e22) (((hsa2.keep e18).keep e21).keep e22) (((hsa3.keep e18).keep e21).keep e22) (fun k hk => by have hk : k < wq.heap.size := hk; omega) hn9 hS9 hp9 hq9) ?_
                rintro v_109 w23 ⟨e23, h109⟩
                have z23 := e23.size
                refine O.nil ⟨e23, ?_⟩
                have h109s := h109.sl
                refine D.one (i := 3) rfl rfl (by kernel_rfl) ?_
                refine O.call Tryz.call20 (args3 rfl rfl rfl) (encodes_spec (.slice none 0 0) u o ((([] : List Dt.Dot), ds), its) (fun k => k < wq.heap.size) _ (Cn.bytes ((([] : List Dt.Dot), ds), its)) _ 0 _ ((((hsa1.keep e18).keep e21).keep e22).keep e23) ((((hsa2.keep e18).keep e21).keep e22).keep e23) ((((hsa3.keep e18).keep e21).keep e22).keep e23) (fun k hk => by have hk : k < wq.heap.size := hk; omega) hn9 hS9 hp9 hq9 (((((mx.keep e_1).keep e18).keep e21).keep e22).keep e23) h109s) ?_
                rintro v_110 w24 ⟨rfl, e24⟩
                have z24 := e24.size
                refine O.nil ⟨(Ext.trans e23 e24), ?_⟩
                refine D.cast (v' := .bool true) (congrArg Value.bool (by simp [hva])) ?_
                refine D.take (i := 4) rfl rfl rfl rfl (by kernel_rfl) (Ext.trans e23 e24) ⟨pure _, rfl⟩ (fun w_ hw_ N_ hN => (O.mv (O.nil hN))) ?_
                refine D.takeYes (i := 5) rfl rfl rfl (by kernel_rfl) rfl rfl (Ext.trans e23 e24) ⟨pure _, rfl⟩ (fun w_ hw_ N_ hN => (O.mv (O.nil hN))) ?_
                refine D.takeYes (i := 6) rfl rfl rfl (by kernel_rfl) rfl rfl (Ext.trans e23 e24) ⟨_, rfl⟩ (fun w_ hw_ N_ hN => (O.loadOA Tryz.isAgg28 Tryz.sizeOf28 s11_1 ((((r0_1.keep e18).keep e21).keep e22).keep hw_) (Nat.le_of_ble_eq_true rfl) (O.nil hN))) ?_
                refine D.oneYes (i := 7) rfl rfl rfl (by kernel_rfl) ?_
                refine O.call Tryz.call22 (args1 rfl) (rbytes_spec (.slice none 0 0) u o ((([] : List Dt.Dot), ds), its) (fun k => k < wq.heap.size) _ (((((hsa1.keep e18).keep e21).keep e22).keep e23).keep e24) (((((hsa2.keep e18).keep e21).keep e22).keep e23).keep e24) (((((hsa3.keep e18).keep e21).keep e22).keep e23).keep e24) (fun k hk => by have hk : k < wq.heap.size := hk; omega) hn9 hS9 hp9 hq9) ?_
                rintro v_114 w25 ⟨e25, h114⟩
                have z25 := e25.size
                refine O.nil ⟨(Ext.trans (Ext.trans e23 e24) e25), ?_⟩
                have h114s := h114.sl
                refine D.oneYes (i := 8) rfl rfl rfl (by kernel_rfl) ?_
                refine O.len Tryz.underlying32 rfl h114s ?_
                refine O.nil ⟨(Ext.trans (Ext.trans e23 e24) e25), ?_⟩
                refine D.takeYes (i := 9) rfl rfl rfl (by kernel_rfl) rfl rfl (Ext.trans (Ext.trans e23 e24) e25) ⟨_, rfl⟩ (fun w_ hw_ N_ hN => (O.eqlI rfl rfl (O.nil hN))) ?_
                refine D.cast (v' := .bool true) (congrArg Value.bool (by simp [hva])) ?_
                refine D.take (i := 10) rfl rfl rfl rfl (by kernel_rfl) (Ext.trans (Ext.trans e23 e24) e25) pick_form (fun w_ hw_ N_ hN => (O.pickT rfl (O.nil hN))) ?_
                refine D.take (i := 11) rfl rfl rfl rfl (by kernel_rfl) (Ext.trans (Ext.trans e23 e24) e25) ⟨pure _, rfl⟩ (fun w_ hw_ N_ hN => (O.mv (O.nil hN))) ?_
                refine D.takeYes (i := 12) rfl rfl rfl (by kernel_rfl) rfl rfl (Ext.trans (Ext.trans e23 e24) e25) ⟨pure _, rfl⟩ (fun w_ hw_ N_ hN => (O.mv (O.nil hN))) ?_
                refine D.takeYes (i := 13) rfl rfl rfl (by kernel_rfl) rfl rfl (Ext.trans (Ext.trans e23 e24) e25) ⟨_, rfl⟩ (fun w_ hw_ N_ hN => (O.eqlI rfl rfl (O.nil hN))) ?_
                refine D.cast (v' := .bool true) (congrArg Value.bool (by simp [hva])) ?_
                refine D.take (i := 14) rfl rfl rfl rfl (by kernel_rfl) (Ext.trans (Ext.trans e23 e24) e25) pick_form (fun w_ hw_ N_ hN => (O.pickT rfl (O.nil hN))) ?_
                refine D.take (i := 15) rfl rfl rfl rfl (by kernel_rfl) (Ext.trans (Ext.trans e23 e24) e25) ⟨pure _, rfl⟩ (fun w_ hw_ N_ hN => (O.mv (O.nil hN))) ?_
                refine D.oneYes (i := 16) rfl rfl rfl (by kernel_rfl) ?_
                refine O.call Tryz.call14 (argsN) (known_spec _ (((((((mx.keep e_1).keep e18).keep e21).keep e22).keep e23).keep e24).keep e25)) ?_
                rintro v_123 w26 ⟨rfl, e26⟩
                have z26 := e26.size
                refine O.nil ⟨(Ext.trans (Ext.trans (Ext.trans e23 e24) e25) e26), ?_⟩
                refine D.take (i := 17) rfl rfl rfl rfl (by kernel_rfl) (Ext.trans (Ext.trans (Ext.trans e23 e24) e25) e26) pick_form (fun w_ hw_ N_ hN => (O.pickT rfl (O.nil hN))) ?_
                refine D.take (i := 18) rfl rfl rfl rfl (by kernel_rfl) (Ext.trans (Ext.trans (Ext.trans e23 e24) e25) e26) ⟨pure _, rfl⟩ (fun w_ hw_ N_ hN => (O.asg (O.nil hN))) ?_
                refine D.done (by kernel_rfl) ?_
                refine hK25 _ _ ?_
                refine C.ret ?_
                refine Outs.one rfl rfl ?_
                exact ⟨rfl, (Ext.trans (Ext.trans (Ext.trans (Ext.trans (Ext.trans (Ext.trans (Ext.trans e_1 e18) e21) e22) e23) e24) e25) e26)⟩

set_option maxHeartbeats 16000000 in
theorem canonLongsF_spec (many : BitVec 16) (first : BitVec 32) (qty : Int) (time : BitVec 64) (w : World) (hqty : -2147483648 ≤ qty ∧ qty ≤ 2147483647) (mx : Mx w) :
    Ret Tryz.prog 6 #[.int .u16 ((many).toNat : Int), .int .u32 ((first).toNat : Int), .int .i32 (qty), .int .u64 ((time).toNat : Int), .bool (false)] w (fun v w' => v = .bool true ∧ Le w w') := by
  obtain ⟨ie51, ti51, ts51, tb51, tz51⟩ := inf51
  obtain ⟨ie53, ti53, ts53, tb53, tz53⟩ := inf53
  obtain ⟨ie56, ti56, ts56, tb56, tz56⟩ := inf56
  obtain ⟨ie5, ti5, ts5, tb5, tz5⟩ := inf5
  have hft := first.isLt
  have hmt := many.isLt
  refine enter (args := [.int .u16 ((many).toNat : Int), .int .u32 ((first).toNat : Int), .int .i32 (qty), .int .u64 ((time).toNat : Int), .bool (false)]) (n := 125) Tryz.func6 rfl rfl (Nat.le_of_ble_eq_true rfl) ?_
  refine C.seqK fun K1 hK1 => ?_
  refine C.region ?_
  refine O.asg ?_
  refine O.nil ?_
  refine hK1 _ _ ?_
  refine C.seqK fun K2 hK2 => ?_
  refine C.seqK fun K3 hK3 => ?_
  refine C.region ?_
  refine O.mv ?_
  refine O.gtrU (m := 16) (b := 300#16) rfl rfl ?_
  refine O.mv ?_
  refine O.splitD (x := .tmp 19) rfl (fun c19 => ?_) (fun c19 => ?_)
  ·
    refine O.no rfl (noB (isT rfl c19) rfl) ?_
    refine O.no rfl (noB (isT rfl c19) rfl) ?_
    refine O.pickT (isT rfl c19) ?_
    refine O.mv ?_
    refine O.no rfl (noB rfl rfl) ?_
    refine O.no rfl (noB rfl rfl) ?_
    refine O.pickT rfl ?_
    refine O.mv ?_
    refine O.no rfl (noB rfl rfl) ?_
    refine O.no rfl (noB rfl rfl) ?_
    refine O.pickT rfl ?_
    refine O.nil ?_
    refine hK3 _ _ ?_
    refine C.condT rfl ?_
    refine C.seqK fun K4 hK4 => ?_
    refine C.region ?_
    refine O.call Tryz.call14 (argsN) (known_spec _ mx) ?_
    rintro v_31 w1 ⟨rfl, e1⟩
    have z1 := e1.size
    refine O.asg ?_
    refine O.nil ?_
    refine hK4 _ _ ?_
    refine C.ret ?_
    refine Outs.one rfl rfl ?_
    exact ⟨rfl, e1⟩
  ·
    refine O.yes rfl (isF rfl c19) ?_
    refine O.mv ?_
    refine O.yes rfl (isF rfl c19) ?_
    refine O.gtrU (m := 32) (b := 4294966296#32) rfl rfl ?_
    refine O.pickF (isF rfl c19) ?_
    refine O.mv ?_
    refine O.splitD (x := .tmp 23) rfl (fun c23 => ?_) (fun c23 => ?_)
    ·
      refine O.no rfl (noB (isT rfl c23) rfl) ?_
      refine O.no rfl (noB (isT rfl c23) rfl) ?_
      refine O.pickT (isT rfl c23) ?_
      refine O.mv ?_
      refine O.no rfl (noB rfl rfl) ?_
      refine O.no rfl (noB rfl rfl) ?_
      refine O.pickT rfl ?_
      refine O.nil ?_
      refine hK3 _ _ ?_
      refine C.condT rfl ?_
      refine C.seqK fun K5 hK5 => ?_
      refine C.region ?_
      refine O.call Tryz.call14 (argsN) (known_spec _ mx) ?_
      rintro v_31 w2 ⟨rfl, e2⟩
      have z2 := e2.size
      refine O.asg ?_
      refine O.nil ?_
      refine hK5 _ _ ?_
      refine C.ret ?_
      refine Outs.one rfl rfl ?_
      exact ⟨rfl, e2⟩
    ·
      refine O.yes rfl (isF rfl c23) ?_
      refine O.mv ?_
      refine O.yes rfl (isF rfl c23) ?_
      refine O.lssU (m := 32) (b := 2#32) rfl rfl ?_
      refine O.pickF (isF rfl c23) ?_
      refine O.mv ?_
      refine O.splitD (x := .tmp 27) rfl (fun c27 => ?_) (fun c27 => ?_)
      ·
        refine O.no rfl (noB (isT rfl c27) rfl) ?_
        refine O.no rfl (noB (isT rfl c27) rfl) ?_
        refine O.pickT (isT rfl c27) ?_
        refine O.nil ?_
        refine hK3 _ _ ?_
        refine C.condT rfl ?_
        refine C.seqK fun K6 hK6 => ?_
        refine C.region ?_
        refine O.call Tryz.call14 (argsN) (known_spec _ mx) ?_
        rintro v_31 w3 ⟨rfl, e3⟩
        have z3 := e3.size
        refine O.asg ?_
        refine O.nil ?_
        refine hK6 _ _ ?_
        refine C.ret ?_
        refine Outs.one rfl rfl ?_
        exact ⟨rfl, e3⟩
      ·
        refine O.yes rfl (isF rfl c27) ?_
        refine O.mv ?_
        refine O.yes rfl (isF rfl c27) ?_
        refine O.lssK rfl rfl ?_
        refine O.pickF (isF rfl c27) ?_
        refine O.nil ?_
        refine hK3 _ _ ?_
        refine C.condD rfl (fun c30 => ?_) (fun c30 => ?_)
        ·
          refine C.seqK fun K7 hK7 => ?_
          refine C.region ?_
          refine O.call Tryz.call14 (argsN) (known_spec _ mx) ?_
          rintro v_31 w4 ⟨rfl, e4⟩
          have z4 := e4.size
          refine O.asg ?_
          refine O.nil ?_
          refine hK7 _ _ ?_
          refine C.ret ?_
          refine Outs.one rfl rfl ?_
          exact ⟨rfl, e4⟩
        ·
          have hmany : many.toNat ≤ 300 := by simp only [BitVec.lt_def] at c19; simp at c19; omega
          have hfirst : first.toNat ≤ 4294966296 := by simp only [BitVec.lt_def] at c23; simp at c23; omega
          refine C.skip ?_
          refine hK2 _ _ ?_
          refine C.seqK fun K8 hK8 => ?_
          refine C.region ?_
          refine O.alloc Tryz.zeroValue28 (fun b11 w5 hb11 hz11 e5 => ?_)
          have z5 := e5.size
          have h11 := hz11.own
          have hl11 := h11.lt
          refine O.nil ?_
          refine hK8 _ _ ?_
          refine C.seqK fun K9 hK9 => ?_
          refine C.seqK fun K10 hK10 => ?_
          refine C.region ?_
          refine O.asg ?_
          refine O.nil ?_
          refine hK10 _ _ ?_
          refine C.block fun K11 hK11 => ?_
          refine C.loop0 (σ := Nat × Value × List Dt.Dot × Value × List (List UInt8 × (Option Addr × Nat × Nat)) × List ItemT) (fun f0 w0 ⟨k, u, ds, o, raw, its⟩ f wz => f 12 = .int .i64 ((k : Int)) ∧ f 0 = f0 0 ∧ f 1 = f0 1 ∧ f 2 = f0 2 ∧ f 3 = f0 3 ∧ f 4 = f0 4 ∧ f 10 = f0 10 ∧ f 11 = f0 11 ∧ Le w wz ∧ Own wz b11 28 [u, .slice none 0 0, o] ∧ OwnF Dt.dotF 51 (b11 + 1) wz u (ds) ∧ OwnF itemF 56 (b11 + 1) wz o (raw) ∧ Items wz (fun j => b11 < j ∧ j < wz.heap.size ∧ ¬ bk u j ∧ ¬ bk o j) raw (its) ∧ k ≤ many.toNat ∧ ds.length ≤ k ∧ its.length ≤ k ∧ (∀ j, bk o j → ¬ bk u j) ∧ (∀ x ∈ its, x.1.length ≤ 1000000 ∧ x.2.length ≤ 1000000)) (fun ⟨k, u, ds, o, raw, its⟩ => many.toNat - k) (0, .slice none 0 0, [], .slice none 0 0, [], []) ?_ ?_
          ·
            refine ⟨rfl, rfl, rfl, rfl, rfl, rfl, rfl, rfl, e5, h11, (OwnF.nil _ _ _ _), (OwnF.nil _ _ _ _), Items.nil, ?_⟩
            exact ⟨Nat.zero_le _, Nat.le_refl _, Nat.le_refl _, fun _ h => h.elim, fun x hx => by cases hx⟩
          ·
            rintro ⟨k, u, ds, o, raw, its⟩ f_1 w6 ⟨s12_1, s0_1, s1_1, s2_1, s3_1, s4_1, s10_1, s11_1, e_1, r0_1, r1_1, r2_1, r3_1, ⟨hk, hds, hits, hgo, hS⟩⟩
            have z_1 := e_1.size
            have r1_1s := r1_1.sl
            have r2_1s := r2_1.sl
            obtain ⟨wL, hwL⟩ : ∃ x, x = w6 := ⟨_, rfl⟩
            have hzL : wL.heap.size = w6.heap.size := by rw [hwL]
            have hbl11 := (r0_1).lt
            have hit := r3_1
            have hitl := hit.1
            have hub := (r1_1).bk_ge
            have hob := (r2_1).bk_ge
            refine C.seqK fun K12 hK12 => ?_
            refine C.seqK fun K13 hK13 => ?_
            refine C.region ?_
            refine O.mv ?_
            refine O.mv ?_
            refine O.convUI (m := 16) Tryz.underlying47 Tryz.underlying3 s0_1 (by decide) ?_
            refine O.lssI s12_1 rfl ?_
            refine O.nil ?_
            refine hK13 _ _ ?_
            refine C.condD rfl (fun c35 => ?_) (fun c35 => ?_)
            ·
              have hk2 : k < many.toNat := by omega
              refine C.skip ?_
              refine hK12 _ _ ?_
              refine C.seqK fun K14 hK14 => ?_
              refine C.block fun K15 hK15 => ?_
              refine C.seqK fun K16 hK16 => ?_
              refine C.region ?_
              refine O.mv ?_
              refine O.addI s12_1 rfl (by unfold InI; omega) ?_
              refine O.mv ?_
              refine O.convUI (m := 32) Tryz.underlying48 Tryz.underlying3 s1_1 (by decide) ?_
              refine O.build (cells := #[.int .i64 ((k : Int) + 1), .int .i64 (first.toNat : Int)]) rfl (by kernel_rfl) ?_
              refine O.alloc Tryz.zeroValue51 (fun b13 w7 hb13 hz13 e7 => ?_)
              have z7 := e7.size
              have h13 := hz13.own
              have hl13 := h13.lt
              refine O.storeA (vs := [.int .i64 ((k : Int) + 1), .int .i64 (first.toNat : Int)]) Tryz.sizeOf51 rfl rfl rfl (by simp [Value.oneCell']) h13 (Nat.le_of_ble_eq_true rfl) (fun w8 hs8 e8 z8 => ?_)
              refine O.nil ?_
              refine hK16 _ _ ?_
              refine C.seqK fun K17 hK17 => ?_
              refine C.seqK fun K18 hK18 => ?_
              refine C.region ?_
              refine O.mv ?_
              refine O.nil ?_
              refine hK18 _ _ ?_
              refine C.condF s4_1 ?_
              refine C.region ?_
              refine O.fieldAd Tryz.underlying28 rfl Tryz.sizeOf25 (by decide) s11_1 ?_
              refine O.fieldAd Tryz.underlying25 rfl Tryz.sizeOf23 (by decide) rfl ?_
              refine O.loadO Tryz.isAgg23 rfl ((r0_1.keep e7).keepM e8 (by intro h; (try dsimp only at h); omega)) rfl ?_
              refine O.loadOA Tryz.isAgg51 Tryz.sizeOf51 rfl hs8 (Nat.le_of_ble_eq_true rfl) ?_
              refine O.litG (G := Dt.dotF) [((k : Int) + 1, (first.toNat : Int))] Tryz.underlying23 ti51 ts51 tz51 rfl (by decide) (by decide) rfl (fun b62 w9 hb62 hz62 e9 => ?_)
              have z9 := e9.size
              have h62 := hz62.own
              have hq62 := Sl.litG (n := 1) h62 rfl (by unfold maxLen; omega)
              refine O.appW (G := Dt.dotF) Tryz.underlying23 ti51 tz51 ts51 rfl rfl rfl (((r1_1.keep e7).keepM e8 (fun k hk h => by have := r1_1.bk_ge k hk; (try dsimp only at h); omega)).keep e9) hq62 (by rw [tb51]; simp; omega) (by unfold maxLen; simp; omega) (by omega) (fun v63 w10 h63 e10 hw63 => ?_)
              have z10 := e10.size
              have h63s := h63.sl
              have h63b := h63.bk_ge
              have hgu9 : ∀ j, bk v63 j → ¬ bk o j := by
                intro j hj hq
                rcases hw63 j hj with q | q
                · exact hgo j hq q
                · have := hob j hq; omega
              have hit63 := (((((r3_1.keep e7).keepM e8 (by intro k hk h; first | (have q1 := hF k hk; (try dsimp only at h); omega) | (have q1 := hF2 k hk; (try dsimp only at h); omega) | (have q1 := hFb k hk; (try dsimp only at h); omega) | ((try dsimp only at hk); (try dsimp only at h); omega))).keep e9).keepM e10 (fun j hj h => hj.2.2.1 h))).weak (F' := fun j => (b11 < j ∧ ¬ bk v63 j) ∧ ¬ bk o j ∧ j < wL.heap.size) (fun j hj => ⟨⟨hj.1, fun hq => by
                rcases hw63 j hq with q | q
                · exact hj.2.2.1 q
                · have := hj.2.1; omega⟩, hj.2.2.2, by have := hj.2.1; omega⟩)
              refine O.fieldAd Tryz.underlying28 rfl Tryz.sizeOf25 (by decide) s11_1 ?_
              refine O.fieldAd Tryz.underlying25 rfl Tryz.sizeOf23 (by decide) rfl ?_
              refine O.store Tryz.sizeOf23 rfl rfl h63.one ((((r0_1.keep e7).keepM e8 (by intro h; (try dsimp only at h); omega)).keep e9).keepM e10 (by intro h; have := (((r1_1.keep e7).keepM e8 (fun k hk h => by have := r1_1.bk_ge k hk; (try dsimp only at h); omega)).keep e9).bk_ge _ h; omega)) (by simp) (fun w11 hs11 e11 z11 => ?_)
              try simp only [Nat.zero_add] at hs11
              refine O.nil ?_
              refine hK17 _ _ ?_
              refine C.seqK fun K19 hK19 => ?_
              refine C.region ?_
              refine O.mv ?_
              refine O.quoI s12_1 rfl (by omega) ?_
              refine O.addI rfl rfl (by unfold InI; omega) ?_
              refine O.convIU (m' := 8) Tryz.underlying3 Tryz.underlying5 rfl rfl rfl ?_
              refine O.mv ?_
              refine O.quoI s12_1 rfl (by omega) ?_
              refine O.remI rfl rfl (by omega) ?_
              refine O.addI rfl rfl (by unfold InI; omega) ?_
              refine O.convIU (m' := 8) Tryz.underlying3 Tryz.underlying5 rfl rfl rfl ?_
              refine O.mv ?_
              refine O.remI s12_1 rfl (by omega) ?_
              refine O.addI rfl rfl (by unfold InI; omega) ?_
              refine O.convIU (m' := 8) Tryz.underlying3 Tryz.underlying5 rfl rfl rfl ?_
              refine O.litn [.int .u8 ((BitVec.ofInt 8 (97 + (k : Int) / 100)).toNat : Int), .int .u8 ((BitVec.ofInt 8 (48 + (k : Int) / 10 % 10)).toNat : Int), .int .u8 ((BitVec.ofInt 8 (48 + (k : Int) % 10)).toNat : Int)] Tryz.underlying32 ti5 ts5 tz5 rfl (by decide) (by decide) rfl (by simp [Value.oneCell']) (fun b79 w12 hb79 hz79 e12 => ?_)
              have z12 := e12.size
              have h79 := hz79.own
              have hl79 := h79.lt
              have h79s : Sl byteE w12 (fun k => k = b79) (.slice (some ⟨b79, 0, none⟩) 3 3) [UInt8.ofBitVec (BitVec.ofInt 8 (97 + (k : Int) / 100)), UInt8.ofBitVec (BitVec.ofInt 8 (48 + (k : Int) / 10 % 10)), UInt8.ofBitVec (BitVec.ofInt 8 (48 + (k : Int) % 10))] := Sl.of_own (G := byteF) h79 rfl (Nat.le_refl _) (by unfold maxLen; omega) (by simp [byteF])
              refine O.bytesS Tryz.underlying32 Tryz.underlying5 Tryz.underlying9 rfl h79s ?_
              refine O.asg ?_
              refine O.nil ?_
              refine hK19 _ _ ?_
              refine C.region ?_
              refine O.fieldAd Tryz.underlying28 rfl Tryz.sizeOf26 (by decide) s11_1 ?_
              refine O.loadO Tryz.isAgg26 rfl (hs11.keep e12) rfl ?_
              refine O.mv ?_
              refine O.loadOA Tryz.isAgg51 Tryz.sizeOf51 rfl ((((hs8.keep e9).keepM e10 (fun h => by have := hub _ h; omega)).keepM e11 (by intro h; (try dsimp only at h); omega)).keep e12) (Nat.le_of_ble_eq_true rfl) ?_
              refine O.cast (v' := Dt.dv (((k : Int) + 1, (first.toNat : Int)))) rfl ?_
              refine O.mv ?_
              refine O.convKI Tryz.underlying21 Tryz.underlying3 (by unfold InI; omega) s2_1 ?_
              refine O.mv ?_
              refine O.cast (v' := .int .u64 (time.toNat : Int)) s3_1 ?_
              refine O.build (cells := #[.int .i64 ((k : Int) + 1), .int .i64 (first.toNat : Int), .int .i64 qty, .int .u64 (time.toNat : Int)]) rfl (by kernel_rfl) ?_
              refine O.litG (G := markF) [(((k : Int) + 1, (first.toNat : Int)), qty, time)] Tryz.underlying54 ti53 ts53 tz53 rfl (by decide) (by decide) rfl (fun b89 w13 hb89 hz89 e13 => ?_)
              have z13 := e13.size
              have h89 := hz89.own
              have hq89 := Sl.litG (n := 1) h89 rfl (by unfold maxLen; omega)
              refine O.build (cells := #[str ([UInt8.ofBitVec (BitVec.ofInt 8 (97 + (k : Int) / 100)), UInt8.ofBitVec (BitVec.ofInt 8 (48 + (k : Int) / 10 % 10)), UInt8.ofBitVec (BitVec.ofInt 8 (48 + (k : Int) % 10))]), .slice (some ⟨b89, 0, none⟩) 1 1]) rfl (by kernel_rfl) ?_
              refine O.litG (G := itemF) [(([UInt8.ofBitVec (BitVec.ofInt 8 (97 + (k : Int) / 100)), UInt8.ofBitVec (BitVec.ofInt 8 (48 + (k : Int) / 10 % 10)), UInt8.ofBitVec (BitVec.ofInt 8 (48 + (k : Int) % 10))]), (some ⟨b89, 0, none⟩, 1, 1))] Tryz.underlying26 ti56 ts56 tz56 rfl (by decide) (by decide) rfl (fun b91 w14 hb91 hz91 e14 => ?_)
              have z14 := e14.size
              have h91 := hz91.own
              have hq91 := Sl.litG (n := 1) h91 rfl (by unfold maxLen; omega)
              refine O.appW (G := itemF) Tryz.underlying26 ti56 tz56 ts56 rfl rfl rfl ((((((((r2_1.keep e7).keepM e8 (fun k hk h => by have := r2_1.bk_ge k hk; (try dsimp only at h); omega)).keep e9).keepM e10 (fun j hj h => hgo j hj h)).keepM e11 (fun k hk h => by have := r2_1.bk_ge k hk; (try dsimp only at h); omega)).keep e12).keep e13).keep e14) hq91 (by rw [tb56, hit.1]; simp; omega) (by unfold maxLen; rw [hit.1]; simp; omega) (by omega) (fun v92 w15 h92 e15 hw92 => ?_)
              have z15 := e15.size
              have h92s := h92.sl
              have hgo9 : ∀ j, bk v92 j → ¬ bk v63 j := by
                intro j hj hq
                rcases hw92 j hj with q | q
                · exact hgu9 j hq q
                · have := h63b j hq; omega
              have hit92 : Items w15 (fun j => b11 < j ∧ j < w15.heap.size ∧ ¬ bk v63 j ∧ ¬ bk v92 j) (raw ++ [(([UInt8.ofBitVec (BitVec.ofInt 8 (97 + (k : Int) / 100)), UInt8.ofBitVec (BitVec.ofInt 8 (48 + (k : Int) / 10 % 10)), UInt8.ofBitVec (BitVec.ofInt 8 (48 + (k : Int) % 10))]), (some ⟨b89, 0, none⟩, 1, 1))]) (its ++ [([UInt8.ofBitVec (BitVec.ofInt 8 (97 + (k : Int) / 100)), UInt8.ofBitVec (BitVec.ofInt 8 (48 + (k : Int) / 10 % 10)), UInt8.ofBitVec (BitVec.ofInt 8 (48 + (k : Int) % 10))], [(((k : Int) + 1, (first.toNat : Int)), qty, time)])]) := (((((((hit63.keepM e11 (by intro k hk h; first | (have q1 := hF k hk; (try dsimp only at h); omega) | (have q1 := hF2 k hk; (try dsimp only at h); omega) | (have q1 := hFb k hk; (try dsimp only at h); omega) | ((try dsimp only at hk); (try dsimp only at h); omega))).keep e12).keep e13).keep e14).keepM e15 (fun j hj h => hj.2.1 h))).weak (fun j hj => ⟨hj.1.1, by have := hj.2.2; omega, hj.1.2, fun hq => by
                rcases hw92 j hq with q | q
                · exact hj.2.1 q
                · have := hj.2.2; omega⟩)).snoc (x := ([UInt8.ofBitVec (BitVec.ofInt 8 (97 + (k : Int) / 100)), UInt8.ofBitVec (BitVec.ofInt 8 (48 + (k : Int) / 10 % 10)), UInt8.ofBitVec (BitVec.ofInt 8 (48 + (k : Int) % 10))], [(((k : Int) + 1, (first.toNat : Int)), qty, time)])) rfl ((((hq89.keep e14).keepM e15 (by intro j hj h; have hj : j = b89 := hj; have := hob j h; omega))).weak (by
                intro j hj
                have hj : j = b89 := hj
                have h89l := h89.lt
                refine ⟨by omega, by omega, fun hq => ?_, fun hq => ?_⟩
                · have := h63b j hq; omega
                · rcases hw92 j hq with q | q
                  · have := hob j q; omega
                  · omega))
              have hS8 : ∀ x ∈ its ++ [([UInt8.ofBitVec (BitVec.ofInt 8 (97 + (k : Int) / 100)), UInt8.ofBitVec (BitVec.ofInt 8 (48 + (k : Int) / 10 % 10)), UInt8.ofBitVec (BitVec.ofInt 8 (48 + (k : Int) % 10))], [(((k : Int) + 1, (first.toNat : Int)), qty, time)])], x.1.length ≤ 1000000 ∧ x.2.length ≤ 1000000 := by
                intro x hx
                rcases List.mem_append.1 hx with h | h
                · exact hS x h
                · obtain rfl := List.mem_singleton.1 h
                  exact ⟨by simp, by simp⟩
              refine O.fieldAd Tryz.underlying28 rfl Tryz.sizeOf26 (by decide) s11_1 ?_
              refine O.store Tryz.sizeOf26 rfl rfl h92.one ((((hs11.keep e12).keep e13).keep e14).keepM e15 (by intro h; have := ((((((((r2_1.keep e7).keepM e8 (fun k hk h => by have := r2_1.bk_ge k hk; (try dsimp only at h); omega)).keep e9).keepM e10 (fun j hj h => hgo j hj h)).keepM e11 (fun k hk h => by have := r2_1.bk_ge k hk; (try dsimp only at h); omega)).keep e12).keep e13).keep e14).bk_ge _ h; omega)) (by simp) (fun w16 hs16 e16 z16 => ?_)
              try simp only [Nat.zero_add] at hs16
              refine O.nil ?_
              refine hK15 _ _ ?_
              refine hK14 _ _ ?_
              refine C.region ?_
              refine O.mv ?_
              refine O.addI s12_1 rfl (by unfold InI; omega) ?_
              refine O.asg ?_
              refine O.nil ?_
              refine ⟨(k + 1, _, _, _, _, _), ⟨rfl, s0_1, s1_1, s2_1, s3_1, s4_1, s10_1, s11_1, (Ext.new (Ext.new (Ext.trans (Ext.trans (Ext.trans (Ext.new (Ext.new (Ext.trans (Ext.new (Ext.trans e_1 e7) e8 (by rintro i hi rfl; omega)) e9) e10 (by intro i hi h; have := (((r1_1.keep e7).keepM e8 (fun k hk h => by have := r1_1.bk_ge k hk; (try dsimp only at h); omega)).keep e9).bk_ge i h; omega)) e11 (by rintro i hi rfl; omega)) e12) e13) e14) e15 (by intro i hi h; have := ((((((((r2_1.keep e7).keepM e8 (fun k hk h => by have := r2_1.bk_ge k hk; (try dsimp only at h); omega)).keep e9).keepM e10 (fun j hj h => hgo j hj h)).keepM e11 (fun k hk h => by have := r2_1.bk_ge k hk; (try dsimp only at h); omega)).keep e12).keep e13).keep e14).bk_ge i h; omega)) e16 (by rintro i hi rfl; omega)), hs16, ((((((h63.keepM e11 (fun k hk h => by have := h63.bk_ge k hk; (try dsimp only at h); omega)).keep e12).keep e13).keep e14).keepM e15 (fun j hj h => hgu9 j hj h)).keepM e16 (fun k hk h => by have := h63.bk_ge k hk; (try dsimp only at h); omega)), (h92.keepM e16 (fun k hk h => by have := h92.bk_ge k hk; (try dsimp only at h); omega)), (((hit92.keepM e16 (by intro k hk h; first | (have q1 := hF k hk; (try dsimp only at h); omega) | (have q1 := hF2 k hk; (try dsimp only at h); omega) | (have q1 := hFb k hk; (try dsimp only at h); omega) | ((try dsimp only at hk); (try dsimp only at h); omega)))).weak (fun j hj => ⟨hj.1, by have := hj.2.1; omega, hj.2.2⟩)), ?_⟩, by first | omega | (simp only []; omega)⟩
              exact ⟨by omega, by rw [List.length_append]; simp; omega, by rw [List.length_append]; simp; omega, hgo9, hS8⟩
            ·
              obtain ⟨wq, hwq⟩ : ∃ x, x = w6 := ⟨_, rfl⟩
              have hzq : wq.heap.size = w6.heap.size := by rw [hwq]
              have hn9 : (((ds, ([] : List Dt.Dot)), its)).2.length ≤ 1000000 := by show its.length ≤ 1000000; omega
              have hS9 : ∀ x ∈ (((ds, ([] : List Dt.Dot)), its)).2, x.1.length ≤ 1000000 ∧ x.2.length ≤ 1000000 := hS
              have hp9 : (((ds, ([] : List Dt.Dot)), its)).1.1.length ≤ 1000000 := by show ds.length ≤ 1000000; omega
              have hq9 : (((ds, ([] : List Dt.Dot)), its)).1.2.length ≤ 1000000 := by simp
              have hsa1 : Sl Dt.dotF.enc w6 (fun k => k < wq.heap.size) (u) (((ds, ([] : List Dt.Dot)), its)).1.1 := (r1_1).sl.weak (by intro j hj; have q := hub j hj; show j < wq.heap.size; omega)
              have hsa2 : Sl Dt.dotF.enc w6 (fun k => k < wq.heap.size) (.slice none 0 0) (((ds, ([] : List Dt.Dot)), its)).1.2 := Sl.nil _ _ _
              have hsa3 : Sl itemE w6 (fun k => k < wq.heap.size) o (((ds, ([] : List Dt.Dot)), its)).2 := (hit.weak (by intro j hj; have q := hj.2.1; show j < wq.heap.size; omega)).sl ((r2_1).sl.weak (by intro j hj; have q := hob j hj; show j < wq.heap.size; omega))
              refine C.exit ?_
              refine hK11 _ _ ?_
              refine hK9 _ _ ?_
              refine C.seqK fun K20 hK20 => ?_
              refine C.seqK fun K21 hK21 => ?_
              refine C.region ?_
              refine O.loadOA Tryz.isAgg28 Tryz.sizeOf28 s11_1 r0_1 (Nat.le_of_ble_eq_true rfl) ?_
              refine O.call Tryz.call19 (args1 rfl) (cartValid_spec u (.slice none 0 0) o ((ds, ([] : List Dt.Dot)), its) (fun k => k < wq.heap.size) _ hsa1 hsa2 hsa3 (fun k hk => by have hk : k < wq.heap.size := hk; omega) hn9 hS9 (mx.keep e_1)) ?_
              rintro v_95 w17 ⟨rfl, e17⟩
              have z17 := e17.size
              refine O.not rfl ?_
              refine O.nil ?_
              refine hK21 _ _ ?_
              refine C.cond rfl (fun c96 => ?_) (fun c96 => ?_)
              ·
                have hva : Cn.valid ((ds, ([] : List Dt.Dot)), its) = false := by simpa using c96
                refine C.seqK fun K22 hK22 => ?_
                refine C.region ?_
                refine O.loadOA Tryz.isAgg28 Tryz.sizeOf28 s11_1 (r0_1.keep e17) (Nat.le_of_ble_eq_true rfl) ?_
                refine O.call Tryz.call20 (args3 rfl rfl rfl) (encodes_spec u (.slice none 0 0) o ((ds, ([] : List Dt.Dot)), its) (fun k => k < wq.heap.size) _ [] (fun _ => False) 2 _ (hsa1.keep e17) (hsa2.keep e17) (hsa3.keep e17) (fun k hk => by have hk : k < wq.heap.size := hk; omega) hn9 hS9 hp9 hq9 ((mx.keep e_1).keep e17) (Sl.nil _ _ _)) ?_
                rintro v_98 w18 ⟨rfl, e18⟩
                have z18 := e18.size
                refine O.cast (v' := .bool true) (congrArg Value.bool (by simp [hva])) ?_
                refine O.mv ?_
                refine O.yes rfl rfl ?_
                refine O.call Tryz.call14 (argsN) (known_spec _ (((mx.keep e_1).keep e17).keep e18)) ?_
                rintro v_100 w19 ⟨rfl, e19⟩
                have z19 := e19.size
                refine O.pickT rfl ?_
                refine O.asg ?_
                refine O.nil ?_
                refine hK22 _ _ ?_
                refine C.ret ?_
                refine Outs.one rfl rfl ?_
                exact ⟨rfl, (Ext.trans (Ext.trans (Ext.trans e_1 e17) e18) e19)⟩
              ·
                have hva : Cn.valid ((ds, ([] : List Dt.Dot)), its) = true := by simpa using c96
                refine C.skip ?_
                refine hK20 _ _ ?_
                refine C.seqK fun K23 hK23 => ?_
                refine C.region ?_
                refine O.loadOA Tryz.isAgg28 Tryz.sizeOf28 s11_1 (r0_1.keep e17) (Nat.le_of_ble_eq_true rfl) ?_
                refine O.call Tryz.call24 (args1 rfl) (size_spec u (.slice none 0 0) o ((ds, ([] : List Dt.Dot)), its) (fun k => k < wq.heap.size) _ (hsa1.keep e17) (hsa2.keep e17) (hsa3.keep e17) (fun k hk => by have hk : k < wq.heap.size := hk; omega) hn9 hS9 hp9 hq9 ((mx.keep e_1).keep e17)) ?_
                rintro v_104 w20 ⟨rfl, e20⟩
                have z20 := e20.size
                refine O.mv ?_
                refine O.extract rfl rfl ?_
                refine O.extract rfl rfl ?_
                refine O.asg ?_
                refine O.asg ?_
                refine O.nil ?_
                refine hK23 _ _ ?_
                refine C.seqK fun K24 hK24 => ?_
                refine C.draw (by kernel_rfl) fun w21 e21 => ?_
                have z21 := e21.size
                refine D.take (i := 0) rfl rfl rfl rfl (by kernel_rfl) (Le.refl _) ⟨_, rfl⟩ (fun w_ hw_ N_ hN => (O.loadOA Tryz.isAgg28 Tryz.sizeOf28 s11_1 ((((r0_1.keep e17).keep e20).keep e21).keep hw_) (Nat.le_of_ble_eq_true rfl) (O.nil hN))) ?_
                refine D.take (i := 1) rfl rfl rfl rfl (by kernel_rfl) (Le.refl _) ⟨_, rfl⟩ (fun w_ hw_ N_ hN => (O.loadOA Tryz.isAgg28 Tryz.sizeOf28 s11_1 ((((r0_1.keep e17).keep e20).keep e21).keep hw_) (Nat.le_of_ble_eq_true rfl) (O.nil hN))) ?_
                refine D.one (i := 2) rfl rfl (by kernel_rfl) ?_
                refine O.call Tryz.call22 (args1 rfl) (rbytes_spec u (.slice none 0 0) o ((ds, ([] : List Dt.Dot)), its) (fun k => k < wq.heap.size) _ (((hsa1.keep e17).keep e20).keep e21) (((hsa2.keep e17).keep e20).keep e21) (((hsa3.keep e17).keep e20).keep e21) (fun k hk => by have hk : k < wq.heap.size := hk; omega) hn9 hS9 hp9 hq9) ?_
                rintro v_109 w22 ⟨e22, h109⟩
                have z22 := e22.size
                refine O.nil ⟨e22, ?_⟩
                have h109s := h109.sl
                refine D.one (i := 3) rfl rfl (by kernel_rfl) ?_
                refine O.call Tryz.call20 (args3 rfl rfl rfl) (encodes_spec u (.slice none 0 0) o ((ds, ([] : List Dt.Dot)), its) (fun k => k < wq.heap.size) _ (Cn.bytes ((ds, ([] : List Dt.Dot)), its)) _ 0 _ ((((hsa1.keep e17).keep e20).keep e21).keep e22) ((((hsa2.keep e17).keep e20).keep e21).keep e22) ((((hsa3.keep e17).keep e20).keep e21).keep e22) (fun k hk => by have hk : k < wq.heap.size := hk; omega) hn9 hS9 hp9 hq9 (((((mx.keep e_1).keep e17).keep e20).keep e21).keep e22) h109s) ?_
                rintro v_110 w23 ⟨rfl, e23⟩
                have z23 := e23.size
                refine O.nil ⟨(Ext.trans e22 e23), ?_⟩
                refine D.cast (v' := .bool true) (congrArg Value.bool (by simp [hva])) ?_
                refine D.take (i := 4) rfl rfl rfl rfl (by kernel_rfl) (Ext.trans e22 e23) ⟨pure _, rfl⟩ (fun w_ hw_ N_ hN => (O.mv (O.nil hN))) ?_
                refine D.takeYes (i := 5) rfl rfl rfl (by kernel_rfl) rfl rfl (Ext.trans e22 e23) ⟨pure _, rfl⟩ (fun w_ hw_ N_ hN => (O.mv (O.nil hN))) ?_
                refine D.takeYes (i := 6) rfl rfl rfl (by kernel_rfl) rfl rfl (Ext.trans e22 e23) ⟨_, rfl⟩ (fun w_ hw_ N_ hN => (O.loadOA Tryz.isAgg28 Tryz.sizeOf28 s11_1 ((((r0_1.keep e17).keep e20).keep e21).keep hw_) (Nat.le_of_ble_eq_true rfl) (O.nil hN))) ?_
                refine D.oneYes (i := 7) rfl rfl rfl (by kernel_rfl) ?_
                refine O.call Tryz.call22 (args1 rfl) (rbytes_spec u (.slice none 0 0) o ((ds, ([] : List Dt.Dot)), its) (fun k => k < wq.heap.size) _ (((((hsa1.keep e17).keep e20).keep e21).keep e22).keep e23) (((((hsa2.keep e17).keep e20).keep e21).keep e22).keep e23) (((((hsa3.keep e17).keep e20).keep e21).keep e22).keep e23) (fun k hk => by have hk : k < wq.heap.size := hk; omega) hn9 hS9 hp9 hq9) ?_
                rintro v_114 w24 ⟨e24, h114⟩
                have z24 := e24.size
                refine O.nil ⟨(Ext.trans (Ext.trans e22 e23) e24), ?_⟩
                have h114s := h114.sl
                refine D.oneYes (i := 8) rfl rfl rfl (by kernel_rfl) ?_
                refine O.len Tryz.underlying32 rfl h114s ?_
                refine O.nil ⟨(Ext.trans (Ext.trans e22 e23) e24), ?_⟩
                refine D.takeYes (i := 9) rfl rfl rfl (by kernel_rfl) rfl rfl (Ext.trans (Ext.trans e22 e23) e24) ⟨_, rfl⟩ (fun w_ hw_ N_ hN => (O.eqlI rfl rfl (O.nil hN))) ?_
                refine D.cast (v' := .bool true) (congrArg Value.bool (by simp [hva])) ?_
                refine D.take (i := 10) rfl rfl rfl rfl (by kernel_rfl) (Ext.trans (Ext.trans e22 e23) e24) pick_form (fun w_ hw_ N_ hN => (O.pickT rfl (O.nil hN))) ?_
                refine D.take (i := 11) rfl rfl rfl rfl (by kernel_rfl) (Ext.trans (Ext.trans e22 e23) e24) ⟨pure _, rfl⟩ (fun w_ hw_ N_ hN => (O.mv (O.nil hN))) ?_
                refine D.takeYes (i := 12) rfl rfl rfl (by kernel_rfl) rfl rfl (Ext.trans (Ext.trans e22 e23) e24) ⟨pure _, rfl⟩ (fun w_ hw_ N_ hN => (O.mv (O.nil hN))) ?_
                refine D.takeYes (i := 13) rfl rfl rfl (by kernel_rfl) rfl rfl (Ext.trans (Ext.trans e22 e23) e24) ⟨_, rfl⟩ (fun w_ hw_ N_ hN => (O.eqlI rfl rfl (O.nil hN))) ?_
                refine D.cast (v' := .bool true) (congrArg Value.bool (by simp [hva])) ?_
                refine D.take (i := 14) rfl rfl rfl rfl (by kernel_rfl) (Ext.trans (Ext.trans e22 e23) e24) pick_form (fun w_ hw_ N_ hN => (O.pickT rfl (O.nil hN))) ?_
                refine D.take (i := 15) rfl rfl rfl rfl (by kernel_rfl) (Ext.trans (Ext.trans e22 e23) e24) ⟨pure _, rfl⟩ (fun w_ hw_ N_ hN => (O.mv (O.nil hN))) ?_
                refine D.oneYes (i := 16) rfl rfl rfl (by kernel_rfl) ?_
                refine O.call Tryz.call14 (argsN) (known_spec _ (((((((mx.keep e_1).keep e17).keep e20).keep e21).keep e22).keep e23).keep e24)) ?_
                rintro v_123 w25 ⟨rfl, e25⟩
                have z25 := e25.size
                refine O.nil ⟨(Ext.trans (Ext.trans (Ext.trans e22 e23) e24) e25), ?_⟩
                refine D.take (i := 17) rfl rfl rfl rfl (by kernel_rfl) (Ext.trans (Ext.trans (Ext.trans e22 e23) e24) e25) pick_form (fun w_ hw_ N_ hN => (O.pickT rfl (O.nil hN))) ?_
                refine D.take (i := 18) rfl rfl rfl rfl (by kernel_rfl) (Ext.trans (Ext.trans (Ext.trans e22 e23) e24) e25) ⟨pure _, rfl⟩ (fun w_ hw_ N_ hN => (O.asg (O.nil hN))) ?_
                refine D.done (by kernel_rfl) ?_
                refine hK24 _ _ ?_
                refine C.ret ?_
                refine Outs.one rfl rfl ?_
                exact ⟨rfl, (Ext.trans (Ext.trans (Ext.trans (Ext.trans (Ext.trans (Ext.trans (Ext.trans e_1 e17) e20) e21) e22) e23) e24) e25)⟩


theorem canonLongs_spec (many : BitVec 16) (first : BitVec 32) (qty : Int) (time : BitVec 64) (cloud : Bool) (w : World) (hqty : -2147483648 ≤ qty ∧ qty ≤ 2147483647) (mx : Mx w) :
    Ret Tryz.prog 6 #[.int .u16 (many.toNat : Int), .int .u32 (first.toNat : Int), .int .i32 qty, .int .u64 (time.toNat : Int), .bool cloud] w (fun v w' => v = .bool true ∧ Le w w') := by
  cases cloud
  · exact canonLongsF_spec many first qty time w hqty mx
  · exact canonLongsT_spec many first qty time w hqty mx

end Go.Proofs.YtnkcmaoaagnopaaGreatDoor
