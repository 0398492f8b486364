/-
 The walks of the reference's bytes of carts. Conditions: slices as they lie in memory.
-/
import Derived.Test.YtpbcafkcfobngaaGreatDoorRows
import Derived.Shelf.SlLaysF
import Derived.Shelf.SlLaysF0
import Derived.Ground.SlsfProg
import Derived.Test.YtpbcafkcfobngaaGreatDoorProg
import Derived.Shelf.Strings.Trim
import Derived.Shelf.Small.Bits
import Derived.Shelf.Small.Wraps
import Derived.Shelf.Strings.Search3
import Derived.Shelf.LaysM
import Derived.Shelf.Strings.Shaped
import Derived.Shelf.Strings.Runes
import Derived.Shelf.Slices.CompactS
import Derived.Shelf.SlSortCmp.WholeK
import Derived.Shelf.Small.Utf8
import Derived.Shelf.Small.Strs
import Derived.Test.YtpbcafkcfobngaaGreatDoorBatchDecodesM1
set_option maxHeartbeats 16000000
namespace Go.Proofs.YtpbcafkcfobngaaGreatDoor
open Go.Pn Go.RowKit Go.Proofs _root_.Go.Proofs.Tryz
attribute [local irreducible] O C D
theorem rnum_a_spec (n : BitVec 64) (w : World) (ih : ∀ m : BitVec 64, m.toNat < n.toNat → ∀ w : World, Ret prog 67 #[.int .u64 (m.toNat : Int)] w (fun v w' => Le w w' ∧ OwnF byteF 5 w.heap.size w' v (Cn.num m.toNat))) :
 Ret prog 67 #[.int .u64 ((n).toNat : Int)] w (fun v w' => Le w w' ∧ OwnF byteF 5 w.heap.size w' v (Cn.num n.toNat)) := by
 obtain ⟨ie5, ti5, ts5, tb5, tz5⟩ := inf5
 refine enT [.int .u64 ((n).toNat : Int)] 17 func67 rfl rfl (C.sr fun K1 => O.asg (K1 (C.sq fun K2 => C.sr fun K3 => O.mv (O.lssU (m := 64) (b := 128#64) rfl rfl (K3 (C.condD rfl (fun c4 => ?_) (fun c4 => ?_)))))))
 ·
  have hs4 : n.toNat < 128 := by simpa [BitVec.lt_def] using c4
  refine C.sr fun K4 => O.mv (O.convUU (m := 64) (m' := 8) U110 U5 rfl rfl rfl (O.lit1 U30 ti5 ts5 tz5 rfl rfl (fun b7 w1 hb7 hz7 e1 => ?_)))
  have z1 := e1.size
  have hl7 := hz7.own.lt
  have h1007 : OwnF byteF 5 w.heap.size w1 _ [UInt8.ofBitVec (n.setWidth 8)] := OwnF.lit1 rfl hz7 rfl (by omega)
  refine O.asg (K4 (C.ret (Outs.one rfl rfl ?_)))
  exact ⟨e1, h1007.lst (Cn.num_last hs4).symm⟩
 have hs4 : ¬ n.toNat < 128 := by simpa [BitVec.lt_def, BitVec.le_def] using c4
 have hlt : (n / 128#64).toNat < n.toNat := by rw [BitVec.toNat_udiv]; show n.toNat / 128 < n.toNat; omega
 refine C.skip (K2 (C.sr fun K5 => O.mv (O.remU (m := 64) (b := 128#64) rfl rfl rfl rfl (by decide) (O.addU (m := 64) (a := 128#64) rfl rfl rfl rfl (O.convUU (m := 64) (m' := 8) U110 U5 rfl rfl rfl (O.lit1 U30 ti5 ts5 tz5 rfl rfl (fun b12 w2 hb12 hz12 e2 => ?_)))))))
 have z2 := e2.size
 have hl12 := hz12.own.lt
 have h1012 : OwnF byteF 5 w.heap.size w2 _ [UInt8.ofBitVec ((128#64 + n % 128#64).setWidth 8)] := OwnF.lit1 rfl hz12 rfl (by omega)
 refine O.mv (O.quoU (m := 64) (b := 128#64) rfl rfl rfl rfl (by decide) (O.call call67 (args1 rfl) (ih (n / 128#64) hlt _) ?_))
 rintro v_15 w3 ⟨e3, h15⟩
 have z3 := e3.size
 have h15s := h15.sl
 refine O.appF (G := byteF) U30 ti5 tz5 ts5 rfl rfl rfl (h1012.keep e3) h15s (by rw [tb5]; have := Cn.num_u (n / 128#64); simp only [List.length_cons, List.length_nil]; omega) (by unfold maxLen; have := Cn.num_u (n / 128#64); simp only [List.length_cons, List.length_nil]; omega) (by omega) (fun v16 w4 h16 e4 => ?_)
 have z4 := e4.size
 have h16s := h16.sl
 refine O.asg (K5 (C.ret (Outs.one rfl rfl ?_)))
 first
 | exact ⟨(Ext.new (Ext.trans e2 e3) e4 (by intro i hi h; have := (h1012.keep e3).bk_ge i h; omega)), h1007.lst (Cn.num_last hs4).symm⟩
 | exact ⟨(Ext.new (Ext.trans e2 e3) e4 (by intro i hi h; have := (h1012.keep e3).bk_ge i h; omega)), (h16).lst (Cn.num_step2 hs4).symm⟩
theorem rnum_spec (n : BitVec 64) (w : World) : Ret prog 67 #[.int .u64 (n.toNat : Int)] w (fun v w' => Le w w' ∧ OwnF byteF 5 w.heap.size w' v (Cn.num n.toNat)) := by
 have key : ∀ (k : Nat) (n : BitVec 64), n.toNat = k → ∀ w : World, Ret prog 67 #[.int .u64 (n.toNat : Int)] w (fun v w' => Le w w' ∧ OwnF byteF 5 w.heap.size w' v (Cn.num n.toNat)) := by
  intro k
  induction k using Nat.strongRecOn with
  | _ k ih => exact fun n hn w => rnum_a_spec n w fun m hm w => ih m.toNat (hn ▸ hm) m rfl w
 exact key _ n rfl w
theorem rises_spec (v0 : Value) (raw : List EntR) (l : List EntT) (F : Nat → Prop) (w : World) (hr : Sl entF.enc w F v0 raw) (he : EntL w F raw l) :
 Ret prog 62 #[v0] w (fun v w' => v = .bool (Bt.rises l) ∧ Le w w') := by
 have hl := he.1
 have hrl := hr.le
 refine enT [v0] 22 func62 rfl rfl (C.sr fun K1 => O.asg (K1 (C.sq fun K2 => C.sr fun K3 => O.asg (K3 (C.bl fun K4 => C.loop0 (σ := Nat) (fun f0 w0 k f w => f 3 = .int .i64 ((k : Int)) ∧ f 0 = f0 0 ∧ Le w0 w ∧ (1 ≤ k ∧ k ≤ l.length + 1) ∧ (∀ i, ∀ h : i + 1 < l.length, i + 1 < k → Op.bytesLess l[i].1 l[i + 1].1 = true)) (fun k => l.length + 1 - k) 1 ?_ ?_)))))
 ·
  refine ⟨rfl, rfl, Le.refl _, ?_⟩
  exact ⟨by omega, fun i h k => by omega⟩
 rintro k f_1 w1 ⟨s3_1, s0_1, e_1, ⟨hk, hJ⟩⟩
 have z_1 := e_1.size
 refine C.sq fun K5 => C.sr fun K6 => O.mv (O.mv (O.len U22 s0_1 (hr.keep e_1) (O.lssI s3_1 rfl (K6 (C.condD rfl (fun c7 => ?_) (fun c7 => ?_))))))
 ·
  have hk2 : k < l.length := by omega
  refine C.skip (K5 (C.sq fun K7 => C.bl fun K8 => C.sd fun K9 w2 e2 z2 => D.mv 0 rfl (Le.refl _) (D.mv 1 rfl (Le.refl _) (D.t 2 rfl (Le.refl _) (fun _ _ _ hN => O.subI s3_1 rfl (by unfold InI; omega) (O.nil hN)) ?_))))
  have sp4_ := Sl.at (i := (k : Int) - 1) (P := prog) U22 Z50 rfl ((hr.keep e_1).keep e2) (by omega)
  obtain ⟨a13, h13, hr13⟩ := sp4_
  refine D.t 3 rfl (Le.refl _) (fun _ _ _ hN => O.idxR s0_1 rfl hr13 (O.nil hN)) (D.t 4 rfl (Le.refl _) (fun _ _ _ hN => O.ft U50 rfl Z9 rfl (O.nil hN)) (D.t 5 rfl (Le.refl _) (fun _ hw_ _ hN => O.loadAtF (G := entF) isAgg9 rfl rfl (h13.keep hw_) (O.nil hN)) (D.mv 6 rfl (Le.refl _) (D.mv 7 rfl (Le.refl _) ?_))))
  have sp5_ := Sl.at (i := (k : Int)) (P := prog) U22 Z50 rfl ((hr.keep e_1).keep e2) (by omega)
  obtain ⟨a18, h18, hr18⟩ := sp5_
  refine D.t 8 rfl (Le.refl _) (fun _ _ _ hN => O.idxR s0_1 s3_1 hr18 (O.nil hN)) (D.t 9 rfl (Le.refl _) (fun _ _ _ hN => O.ft U50 rfl Z9 rfl (O.nil hN)) (D.t 10 rfl (Le.refl _) (fun _ hw_ _ hN => O.loadAtF (G := entF) isAgg9 rfl rfl (h18.keep hw_) (O.nil hN)) (D.t 11 rfl (Le.refl _) (fun _ _ _ hN => O.geqS rfl rfl (O.nil hN)) (K9 (C.cond rfl (fun c21 => ?_) (fun c21 => ?_))))))
  ·
   have e9 : ((k : Int) - 1).toNat = k - 1 := by omega
   simp only [e9, Int.toNat_natCast] at c21
   rw [(he.2 (k - 1) (by omega) (by omega)).1, (he.2 k (by omega) (by omega)).1] at c21
   refine C.sr fun K10 => O.asg (K10 (C.ret (Outs.one rfl rfl ?_)))
   exact ⟨congrArg Value.bool (Bt.rises_no (i := k) (j := k - 1) hk2 (by omega) (by omega) (by simpa using c21)).symm, (Ext.trans e_1 e2)⟩
  have e9 : ((k : Int) - 1).toNat = k - 1 := by omega
  simp only [e9, Int.toNat_natCast] at c21
  rw [(he.2 (k - 1) (by omega) (by omega)).1, (he.2 k (by omega) (by omega)).1] at c21
  refine C.skip (K8 (K7 (C.region (O.mv (O.addI s3_1 rfl (by unfold InI; omega) (O.asg (O.nil (⟨k + 1, ⟨rfl, s0_1, (Ext.trans e_1 e2), ?_⟩, by first | omega | (simp only []; omega)⟩))))))))
  refine ⟨by omega, fun i hi hik => ?_⟩
  rcases Nat.lt_or_eq_of_le (Nat.le_of_lt_succ hik) with h | rfl
  ·exact hJ i hi h
  ·simpa using c21
 refine C.exit (K4 (K2 (C.sr fun K11 => O.asg (K11 (C.ret (Outs.one rfl rfl ?_))))))
 first
 | exact ⟨congrArg Value.bool (Bt.rises_no (i := k) (j := k - 1) hk2 (by omega) (by omega) (by simpa using c21)).symm, e_1⟩
 | exact ⟨congrArg Value.bool (Bt.rises_yes (fun i hi => hJ i hi (by omega))).symm, e_1⟩
theorem lordered_spec (v0 : Value) (raw : List EntR) (l : List EntT) (F : Nat → Prop) (w : World) (hr : Sl entF.enc w F v0 raw) (he : EntL w F raw l) (hF : ∀ k, F k → k < w.heap.size) (hB : Bt.Big l) (mx : Mx w) :
 Ret prog 19 #[v0] w (fun v w' => v = .bool (Bt.ordered l) ∧ Le w w') := by
 have hl := he.1
 have hrl := hr.le
 refine enT [v0] 28 func19 rfl rfl (C.sr fun K1 => O.asg (K1 (C.sq fun K2 => C.sr fun K3 => O.asg (K3 (C.bl fun K4 => C.loop0 (σ := Nat) (fun f0 w0 k f w => f 3 = .int .i64 ((k : Int)) ∧ f 0 = f0 0 ∧ Le w0 w ∧ k ≤ l.length ∧ (∀ i, ∀ h : i < l.length, i < k → Bt.okE l[i] = true)) (fun k => l.length - k) 0 ?_ ?_)))))
 ·
  refine ⟨rfl, rfl, Le.refl _, ?_⟩
  exact ⟨Nat.zero_le _, fun i h k => absurd k (Nat.not_lt_zero _)⟩
 rintro k f_1 w1 ⟨s3_1, s0_1, e_1, ⟨hk, hI⟩⟩
 have z_1 := e_1.size
 refine C.sq fun K5 => C.sr fun K6 => O.mv (O.mv (O.len U22 s0_1 (hr.keep e_1) (O.lssI s3_1 rfl (K6 (C.condD rfl (fun c7 => ?_) (fun c7 => ?_))))))
 ·
  have hk2 : k < l.length := by omega
  have hk9r : k < raw.length := by have q9 := ((he.keep e_1)).1; omega
  have hk8r : k < l.length := by have q9 := ((he.keep e_1)).1; omega
  have sp6_ : ∃ q : EntR, q = raw[k] := ⟨_, rfl⟩
  obtain ⟨r, hrr⟩ := sp6_
  have sp7_ : ∃ q : EntT, q = l[k] := ⟨_, rfl⟩
  obtain ⟨x, hxr⟩ := sp7_
  have t0 := ((he.keep e_1)).2 k hk9r hk8r
  have hkxr : r.1 = x.1 := by rw [hrr, hxr]; exact t0.1
  have hca : CartAt w1 F r.2 x.2 := by rw [hrr, hxr]; exact t0.2
  have hmxr : x ∈ l := by rw [hxr]; exact List.getElem_mem _
  have hbr := hB x hmxr
  refine C.skip (K5 (C.sq fun K7 => C.bl fun K8 => C.sr fun K9 => O.mv (O.mv (O.idx U22 Z50 rfl s0_1 (hr.keep e_1) s3_1 (by omega) (fun a12 h12 => O.ft U50 rfl Z9 rfl (O.loadAtF (G := entF) isAgg9 rfl rfl h12 (O.cast (v' := str r.1) (by rw [hrr]; rfl) (O.call call60 (args1 rfl) (okKey_spec r.1 _ (by rw [hkxr]; exact hbr.1)) ?_))))))))
  rintro v_15 w2 ⟨rfl, e2⟩
  have z2 := e2.size
  refine O.not rfl (O.mv (O.split (x := .tmp 17) rfl (fun c17 => ?_) (fun c17 => ?_)))
  ·
   refine O.no rfl (noB (isT' rfl c17) rfl) (O.no rfl (noB (isT' rfl c17) rfl) (O.no rfl (noB (isT' rfl c17) rfl) (O.no rfl (noB (isT' rfl c17) rfl) (O.no rfl (noB (isT' rfl c17) rfl) (O.no rfl (noB (isT' rfl c17) rfl) (O.no rfl (noB (isT' rfl c17) rfl) (O.pickT (isT' rfl c17) (K9 (C.condT rfl (C.sr fun K10 => O.asg (K10 (C.ret (Outs.one rfl rfl ?_)))))))))))))
   exact ⟨congrArg Value.bool (Bt.ordered_no1 hk2 (by rw [← hxr]; exact Bt.okE_no1 (by rw [← hkxr]; simpa using c17))).symm, (Ext.trans e_1 e2)⟩
  refine O.yes rfl (isF' rfl c17) (O.mv (O.yes rfl (isF' rfl c17) (O.mv (O.yes rfl (isF' rfl c17) (O.idx U22 Z50 rfl s0_1 ((hr.keep e_1).keep e2) s3_1 (by omega) (fun a20 h20 => O.yes rfl (isF' rfl c17) (O.ft U50 rfl Z47 rfl (O.yes rfl (isF' rfl c17) (O.loadPart (G := entF) isAgg47 Z47 (by decide) rfl h20 (O.cast (v' := .agg #[slv r.2.1.1, slv r.2.1.2, slv r.2.2]) (by rw [hrr]; rfl) (O.yes rfl (isF' rfl c17) ?_)))))))))))
  refine O.call call61 (args1 rfl) (cartValid_spec (slv r.2.1.1) (slv r.2.1.2) (slv r.2.2) x.2 F _ ((hca.keep e2)).1 ((hca.keep e2)).2.1 ((hca.keep e2)).2.2 (fun j hj => by have q1 := hF j hj; omega) hbr.2.2.2.1 hbr.2.2.2.2 ((mx.keep e_1).keep e2)) ?_
  rintro v_23 w3 ⟨rfl, e3⟩
  have z3 := e3.size
  refine O.yes rfl (isF' rfl c17) (O.not rfl (O.pickF (isF' rfl c17) (K9 (C.cond rfl (fun c25 => ?_) (fun c25 => ?_)))))
  ·
   refine C.sr fun K11 => O.asg (K11 (C.ret (Outs.one rfl rfl ?_)))
   first
   | exact ⟨congrArg Value.bool (Bt.ordered_no1 hk2 (by rw [← hxr]; exact Bt.okE_no1 (by rw [← hkxr]; simpa using c17))).symm, (Ext.trans (Ext.trans e_1 e2) e3)⟩
   | exact ⟨congrArg Value.bool (Bt.ordered_no1 hk2 (by rw [← hxr]; exact Bt.okE_no2 (by simpa using c25))).symm, (Ext.trans (Ext.trans e_1 e2) e3)⟩
  refine C.skip (K8 (K7 (C.region (O.mv (O.addI s3_1 rfl (by unfold InI; omega) (O.asg (O.nil (⟨k + 1, ⟨rfl, s0_1, (Ext.trans (Ext.trans e_1 e2) e3), ?_⟩, by first | omega | (simp only []; omega)⟩))))))))
  refine ⟨by omega, fun i hi hik => ?_⟩
  rcases Nat.lt_or_eq_of_le (Nat.le_of_lt_succ hik) with h | rfl
  ·exact hI i hi h
  ·rw [← hxr]; exact Bt.okE_of (by rw [← hkxr]; simpa using c17) (by simpa using c25)
 have hall : ∀ i, ∀ h : i < l.length, Bt.okE l[i] = true := fun i hi => hI i hi (by omega)
 refine C.exit (K4 (K2 (C.sr fun K12 => O.mv (O.call call62 (args1 s0_1) (rises_spec v0 raw l F _ (hr.keep e_1) (he.keep e_1)) ?_))))
 rintro v_27 w4 ⟨rfl, e4⟩
 have z4 := e4.size
 refine O.asg (K12 (C.ret (Outs.one rfl rfl ?_)))
 first
 | exact ⟨congrArg Value.bool (Bt.ordered_no1 hk2 (by rw [← hxr]; exact Bt.okE_no1 (by rw [← hkxr]; simpa using c17))).symm, (Ext.trans e_1 e4)⟩
 | exact ⟨congrArg Value.bool (Bt.ordered_no1 hk2 (by rw [← hxr]; exact Bt.okE_no2 (by simpa using c25))).symm, (Ext.trans e_1 e4)⟩
 | exact ⟨congrArg Value.bool (Bt.ordered_of hall).symm, (Ext.trans e_1 e4)⟩
theorem rend_spec (v0 : Value) (b : List UInt8) (F : Nat → Prop) (n : BitVec 32) (w : World) (hl : Sl byteE w F v0 b) (hL : b.length ≤ 1000000000) :
 Ret prog 24 #[v0, .int .u32 ((n).toNat : Int)] w (fun v w' => Le w w' ∧ OwnF byteF 5 w.heap.size w' v (b ++ Bt.sum4 n)) := by
 obtain ⟨ie5, ti5, ts5, tb5, tz5⟩ := inf5
 refine enT [v0, .int .u32 ((n).toNat : Int)] 23 func24 rfl rfl (C.sr fun K1 => O.asg (K1 (C.sr fun K2 => O.mv (O.appF (G := byteF) U30 ti5 tz5 ts5 rfl rfl rfl (OwnF.nil _ _ _ _) hl (by rw [tb5]; simp; omega) (by unfold maxLen; simp; omega) (Nat.le_refl _) (fun v6 w1 h6 e1 => ?_)))))
 replace e1 : Le w w1 := e1.mono (fun _ _ h => h)
 have z1 := e1.size
 have h6s := h6.sl
 replace h6 : OwnF byteF 5 w.heap.size w1 v6 b := h6
 replace h6s := h6.sl
 refine O.mv (O.quoU (m := 32) (b := 16777216#32) rfl rfl rfl rfl (by decide) (O.convUU (m := 32) (m' := 8) U34 U5 rfl rfl rfl (O.mv (O.quoU (m := 32) (b := 65536#32) rfl rfl rfl rfl (by decide) (O.remU (m := 32) (b := 256#32) rfl rfl rfl rfl (by decide) (O.convUU (m := 32) (m' := 8) U34 U5 rfl rfl rfl (O.mv (O.quoU (m := 32) (b := 256#32) rfl rfl rfl rfl (by decide) (O.remU (m := 32) (b := 256#32) rfl rfl rfl rfl (by decide) (O.convUU (m := 32) (m' := 8) U34 U5 rfl rfl rfl (O.mv (O.remU (m := 32) (b := 256#32) rfl rfl rfl rfl (by decide) ?_))))))))))))
 refine O.convUU (m := 32) (m' := 8) U34 U5 rfl rfl rfl (O.litn [.int .u8 (((n / 16777216#32).setWidth 8).toNat : Int), .int .u8 (((n / 65536#32 % 256#32).setWidth 8).toNat : Int), .int .u8 (((n / 256#32 % 256#32).setWidth 8).toNat : Int), .int .u8 (((n % 256#32).setWidth 8).toNat : Int)] U30 ti5 ts5 tz5 rfl (by decide) (by decide) rfl (by simp [Value.oneCell']) (fun b21 w2 hb21 hz21 e2 => ?_))
 have z2 := e2.size
 have h21 := hz21.own
 have hl21 := h21.lt
 have hq21 : Sl byteE w2 (fun k => k = b21) (.slice (some ⟨b21, 0, none⟩) 4 4) (Bt.end4L n) := Sl.litG (G := byteF) (n := 4) h21 rfl (by unfold maxLen; omega)
 refine O.appF (G := byteF) U30 ti5 tz5 ts5 rfl rfl rfl (h6.keep e2) hq21 (by rw [tb5, Bt.end4L_eq, Bt.sum4_len]; omega) (by unfold maxLen; rw [Bt.end4L_eq, Bt.sum4_len]; omega) (by omega) (fun v22 w3 h22 e3 => ?_)
 have z3 := e3.size
 have h22s := h22.sl
 refine O.asg (K2 (C.ret (Outs.one rfl rfl ?_)))
 exact ⟨(Ext.new (Ext.trans e1 e2) e3 (by intro i hi h; have := (h6.keep e2).bk_ge i h; omega)), (h22).lst (by rw [Bt.end4L_eq])⟩
theorem xnum_spec (b : Nat) (vl : Value) (l : List UInt8) (k : Nat) (bad : Bool) (F : Nat → Prop) (w : World) (ho : Own w b 201 [vl, .int .i64 ((k : Int)), .bool bad]) (hl : Sl byteE w F vl l) (hk : k ≤ l.length) (hF : ∀ j, F j → j ≠ b ∧ j < w.heap.size) (hL : l.length ≤ 1000000) :
 Ret prog 154 #[.pointer (some ⟨b, 0, none⟩)] w (fun v w' => ∃ (n : BitVec 64) (k' : Nat) (bad' : Bool), v = .int .u64 (n.toNat : Int) ∧ Own w' b 201 [vl, .int .i64 ((k' : Int)), .bool bad'] ∧ Cn.RdN l k bad n k' bad' ∧ (bad' = true → n = 0#64) ∧ Ext (fun j => j = b) w w') := by
 have _hF9 := hF
 have _hk9 := hk
 have hbl := ho.lt
 have hll := hl.le
 refine enT [.pointer (some ⟨b, 0, none⟩)] 87 func154 rfl rfl (C.sr fun K1 => O.asg (K1 (C.sq fun K2 => C.sr fun K3 => O.mv (O.nilChk rfl (O.fa underlying201 rfl sizeOf4 rfl (O.loadO isAgg4 rfl ho rfl (K3 (C.cond rfl (fun c10 => ?_) (fun c10 => ?_)))))))))
 ·
  subst c10
  refine C.sr fun K4 => O.asg (K4 (C.ret (Outs.one rfl rfl ?_)))
  exact ⟨0#64, k, true, rfl, ho, Cn.RdN.of_bad hk rfl, fun _ => rfl, (Ext.refl _ _)⟩
 subst c10
 refine C.skip (K2 (C.sr fun K5 => O.asg (K5 (C.sq fun K6 => C.sr fun K7 => O.asg (K7 (C.bl fun K8 => C.loop0 (σ := Nat) (fun f0 w0 i f w => f 3 = .int .u64 ((BitVec.ofNat 64 (Cn.valN ((l.drop k).take i))).toNat : Int) ∧ f 4 = .int .i64 ((i : Int)) ∧ f 0 = f0 0 ∧ Le w0 w ∧ i ≤ 10 ∧ k + i ≤ l.length ∧ ∀ j, ∀ h : j < (l.drop k).length, j < i → ¬ (l.drop k)[j].toNat < 128) (fun i => 10 - i) 0 ?_ ?_))))))
 ·
  refine ⟨(Eq.trans rfl (by rw [List.take_zero]; rfl)), rfl, rfl, Le.refl _, ?_⟩
  exact ⟨Nat.zero_le _, by omega, fun j h h2 => absurd h2 (Nat.not_lt_zero _)⟩
 rintro i f_1 w1 ⟨s3_1, s4_1, s0_1, e_1, ⟨hi, hki, hall⟩⟩
 have z_1 := e_1.size
 refine C.sq fun K9 => C.sd fun K10 w2 e2 z2 => D.mv 0 rfl (Le.refl _) (D.t 1 rfl (Le.refl _) (fun _ _ _ hN => O.lssI s4_1 rfl (O.nil hN)) (D.mv 2 rfl (Le.refl _) (D.splitD (x := .tmp 13) rfl (fun c13 => ?_) (fun c13 => ?_))))
 ·
  refine D.ty 3 rfl rfl rfl rfl (isT rfl c13) (Le.refl _) ⟨pure _, rfl⟩ (fun _ hw_ _ hN => O.mv (O.nil hN)) (D.ty 4 rfl rfl rfl rfl (isT rfl c13) (Le.refl _) (nil_form s0_1) (fun _ hw_ _ hN => O.nilChk s0_1 (O.nil hN)) (D.ty 5 rfl rfl rfl rfl (isT rfl c13) (Le.refl _) ⟨_, rfl⟩ (fun _ hw_ _ hN => O.fa underlying201 rfl Z3 rfl (O.nil hN)) ?_))
  have t0 := (ho.keep e_1).keep e2
  refine D.ty 6 rfl rfl rfl rfl (isT rfl c13) (Le.refl _) ⟨_, rfl⟩ (fun _ hw_ _ hN => O.loadO isAgg3 rfl (t0.keep hw_) rfl (O.nil hN)) (D.ty 7 rfl rfl rfl rfl (isT rfl c13) (Le.refl _) ⟨pure _, rfl⟩ (fun _ hw_ _ hN => O.mv (O.nil hN)) (D.ty 8 rfl rfl rfl rfl (isT rfl c13) (Le.refl _) ⟨_, rfl⟩ (fun _ hw_ _ hN => O.addI rfl s4_1 (by unfold InI; omega) (O.nil hN)) (D.ty 9 rfl rfl rfl rfl (isT rfl c13) (Le.refl _) ⟨pure _, rfl⟩ (fun _ hw_ _ hN => O.mv (O.nil hN)) (D.ty 10 rfl rfl rfl rfl (isT rfl c13) (Le.refl _) (nil_form s0_1) (fun _ hw_ _ hN => O.nilChk s0_1 (O.nil hN)) ?_))))
  refine D.ty 11 rfl rfl rfl rfl (isT rfl c13) (Le.refl _) ⟨_, rfl⟩ (fun _ hw_ _ hN => O.fa underlying201 rfl Z30 rfl (O.nil hN)) (D.ty 12 rfl rfl rfl rfl (isT rfl c13) (Le.refl _) ⟨_, rfl⟩ (fun _ hw_ _ hN => O.loadO isAgg30 rfl (t0.keep hw_) rfl (O.nil hN)) ?_)
  have t1 := (hl.keep e_1).keep e2
  refine D.ty 13 rfl rfl rfl rfl (isT rfl c13) (Le.refl _) len_form (fun _ hw_ _ hN => O.len U30 rfl (t1.keep hw_) (O.nil hN)) (D.ty 14 rfl rfl rfl rfl (isT rfl c13) (Le.refl _) ⟨_, rfl⟩ (fun _ hw_ _ hN => O.lssI rfl rfl (O.nil hN)) (D.tk 15 rfl rfl rfl rfl (Le.refl _) pick_form (fun _ hw_ _ hN => O.pickT (isT rfl c13) (O.nil hN)) (K10 (C.condD rfl (fun c26 => ?_) (fun c26 => ?_)))))
  ·
   have hy2 : i < (l.drop k).length := by rw [List.length_drop]; omega
   obtain ⟨y, hy⟩ : ∃ y, y = (l.drop k)[i] := ⟨_, rfl⟩
   refine C.skip (K9 (C.sq fun K11 => C.bl fun K12 => C.sd fun K13 w3 e3 z3 => D.mv 0 rfl (Le.refl _) (D.tk 1 rfl rfl rfl rfl (Le.refl _) (nil_form s0_1) (fun _ hw_ _ hN => O.nilChk s0_1 (O.nil hN)) (D.t 2 rfl (Le.refl _) (fun _ _ _ hN => O.fa underlying201 rfl Z30 rfl (O.nil hN)) (D.t 3 rfl (Le.refl _) (fun _ hw_ _ hN => O.loadO isAgg30 rfl ((t0.keep e3).keep hw_) rfl (O.nil hN)) (D.mv 4 rfl (Le.refl _) (D.tk 5 rfl rfl rfl rfl (Le.refl _) (nil_form s0_1) (fun _ hw_ _ hN => O.nilChk s0_1 (O.nil hN)) (D.t 6 rfl (Le.refl _) (fun _ _ _ hN => O.fa underlying201 rfl Z3 rfl (O.nil hN)) ?_))))))))
   refine D.t 7 rfl (Le.refl _) (fun _ hw_ _ hN => O.loadO isAgg3 rfl ((t0.keep e3).keep hw_) rfl (O.nil hN)) (D.mv 8 rfl (Le.refl _) (D.t 9 rfl (Le.refl _) (fun _ _ _ hN => O.addI rfl s4_1 (by unfold InI; omega) (O.nil hN)) ?_))
   obtain ⟨a39, h39, hr39⟩ := Sl.at (i := ((k : Int) + (i : Int))) (P := prog) U30 Z5 rfl (t1.keep e3) (by omega)
   refine D.t 10 rfl (Le.refl _) (fun _ _ _ hN => O.idxR rfl rfl hr39 (O.nil hN)) (D.t 11 rfl (Le.refl _) (fun _ hw_ _ hN => O.loadB isAgg5 rfl (h39.keep hw_) (O.nil hN)) (D.as 12 rfl (Le.refl _) (D.cast (v' := .int .u8 (y.toBitVec.toNat : Int)) (by show Value.int .u8 ((l[((k : Int) + (i : Int)).toNat]'(by omega)).toBitVec.toNat : Int) = _; rw [hy, Cn.drop_get (by omega) hy2]; simp only [show ((k : Int) + (i : Int)).toNat = k + i by omega]) (K13 (C.sr fun K14 => O.mv (O.mv (O.remU (m := 8) (b := 128#8) rfl rfl rfl rfl (by decide) (O.convUU (m := 8) (m' := 64) U5 U110 rfl rfl rfl (O.mv (O.mulI rfl s4_1 (by unfold InI; omega) ?_))))))))))
   refine O.cast (v' := .int .i64 ((7 * i : Nat) : Int)) (congrArg (Value.int .i64) (by omega)) (O.shlU (m := 64) rfl rfl rfl rfl (O.addU (m := 64) rfl rfl s3_1 rfl (O.cast (v' := .int .u64 ((BitVec.ofNat 64 (Cn.valN ((l.drop k).take (i + 1)))).toNat : Int)) (congrArg (fun q : BitVec 64 => Value.int .u64 (q.toNat : Int)) (by rw [Cn.valN_front hy2, ← hy]; exact Cn.group2 _ _ _)) (O.asg (K14 (C.sq fun K15 => C.sr fun K16 => O.mv (O.geqU (m := 8) (b := 128#8) rfl rfl (K16 (C.condD rfl (fun c50 => ?_) (fun c50 => ?_))))))))))
   ·
    have hy3 : ¬ (l.drop k)[i].toNat < 128 := by
     rw [← hy]
     have q := BitVec.le_def.1 c50
     exact Nat.not_lt.2 q
    refine C.exit (K12 (K11 (C.region (O.mv (O.addI s4_1 rfl (by unfold InI; omega) (O.asg (O.nil (⟨(i + 1), ⟨rfl, rfl, s0_1, (Ext.trans (Ext.trans e_1 e2) e3), ?_⟩, by first | omega | (simp only []; omega)⟩))))))))
    refine ⟨by omega, by omega, fun j h h2 => ?_⟩
    rcases Nat.lt_or_eq_of_le (Nat.le_of_lt_succ h2) with h3 | h3
    ·exact hall j h h3
    ·subst h3; exact hy3
   have hy4 : (l.drop k)[i].toNat < 128 := by
    rw [← hy]
    have q := mt BitVec.le_def.2 c50
    exact Nat.lt_of_not_le q
   refine C.skip (K15 (C.sq fun K17 => C.sr fun K18 => O.mv (O.call call67 (args1 rfl) (rnum_spec (BitVec.ofNat 64 (Cn.valN ((l.drop k).take (i + 1)))) _) ?_)))
   rintro v_52 w4 ⟨e4, h52⟩
   have z4 := e4.size
   have h52s := h52.sl
   refine O.asg (K18 (C.sd fun K19 w5 e5 z5 => D.mv 0 rfl (Le.refl _) (D.t 1 rfl (Le.refl _) (fun _ hw_ _ hN => O.bytesS U30 U5 U9 rfl ((h52s.keep e5).keep hw_) (O.nil hN)) (D.mv 2 rfl (Le.refl _) (D.tk 3 rfl rfl rfl rfl (Le.refl _) (nil_form s0_1) (fun _ hw_ _ hN => O.nilChk s0_1 (O.nil hN)) (D.t 4 rfl (Le.refl _) (fun _ _ _ hN => O.fa underlying201 rfl Z30 rfl (O.nil hN)) ?_))))))
   have t2 := (t0.keep e3).keep e4
   refine D.t 5 rfl (Le.refl _) (fun _ hw_ _ hN => O.loadO isAgg30 rfl ((t2.keep e5).keep hw_) rfl (O.nil hN)) (D.mv 6 rfl (Le.refl _) (D.tk 7 rfl rfl rfl rfl (Le.refl _) (nil_form s0_1) (fun _ hw_ _ hN => O.nilChk s0_1 (O.nil hN)) (D.t 8 rfl (Le.refl _) (fun _ _ _ hN => O.fa underlying201 rfl Z3 rfl (O.nil hN)) (D.t 9 rfl (Le.refl _) (fun _ hw_ _ hN => O.loadO isAgg3 rfl ((t2.keep e5).keep hw_) rfl (O.nil hN)) (D.mv 10 rfl (Le.refl _) (D.tk 11 rfl rfl rfl rfl (Le.refl _) (nil_form s0_1) (fun _ hw_ _ hN => O.nilChk s0_1 (O.nil hN)) (D.t 12 rfl (Le.refl _) (fun _ _ _ hN => O.fa underlying201 rfl Z3 rfl (O.nil hN)) ?_)))))))
   refine D.t 13 rfl (Le.refl _) (fun _ hw_ _ hN => O.loadO isAgg3 rfl ((t2.keep e5).keep hw_) rfl (O.nil hN)) (D.mv 14 rfl (Le.refl _) (D.t 15 rfl (Le.refl _) (fun _ _ _ hN => O.addI rfl s4_1 (by unfold InI; omega) (O.nil hN)) (D.t 16 rfl (Le.refl _) (fun _ _ _ hN => O.addI rfl rfl (by unfold InI; omega) (O.nil hN)) (D.cast (v' := .int .i64 ((k + (i + 1) : Nat) : Int)) (congrArg (Value.int .i64) (by omega)) ?_))))
   have hb70 := Sl.sub (P := prog) (k) (k + (i + 1)) U30 Z5 (by rfl) (((t1.keep e3).keep e4).keep e5) (by omega) (by omega)
   obtain ⟨v70, hs70, hr70⟩ := hb70
   refine D.t 17 rfl (Le.refl _) (fun _ _ _ hN => O.subR rfl hr70 (.inr ⟨_, _, rfl, rfl⟩) (.inr ⟨_, _, rfl, rfl⟩) (O.nil hN)) (D.t 18 rfl (Le.refl _) (fun _ hw_ _ hN => O.bytesS U30 U5 U9 rfl (hs70.keep hw_) (O.nil hN)) (D.t 19 rfl (Le.refl _) (fun _ _ _ hN => O.eqlS rfl rfl (O.nil hN)) (K19 (C.condD rfl (fun c72 => ?_) (fun c72 => ?_)))))
   ·
    have hq9 : Cn.num (BitVec.ofNat 64 (Cn.valN ((l.drop k).take (i + 1)))).toNat = (l.drop k).take (i + 1) := by
     rw [c72, List.drop_take, show k + (i + 1) - k = i + 1 by omega]
    refine C.sr fun K20 => O.mv (O.mv (O.nilChk s0_1 (O.fa underlying201 rfl Z3 rfl (O.loadO isAgg3 rfl (t2.keep e5) rfl (O.mv (O.addI rfl s4_1 (by unfold InI; omega) (O.addI rfl rfl (by unfold InI; omega) (O.cast (v' := .int .i64 ((k + (i + 1) : Nat) : Int)) (congrArg (Value.int .i64) (by omega)) (O.nilChk s0_1 (O.fa underlying201 rfl Z3 rfl (O.store Z3 rfl rfl rfl (t2.keep e5) (by simp) (fun w6 hs6 e6 z6 => ?_))))))))))))
    try simp only [Nat.zero_add] at hs6
    refine K20 (C.sr fun K21 => O.mv (O.asg (K21 (C.ret (Outs.one rfl rfl ?_)))))
    first
    | exact ⟨0#64, k, true, rfl, hs6, Cn.RdN.of_bad hk rfl, fun _ => rfl, (Ext.nw (Ext.nw (Ext.nw (Ext.nw (Ext.nw (Ext.nw (Ext.refl _ _) e_1) e2) e3) e4) e5) e6)⟩
    | exact ⟨0#64, k, true, rfl, hs6, ⟨hk, .inr ⟨rfl, fun _ => Cn.num_no2 hall hy2 hy4 hq8⟩⟩, fun _ => rfl, (Ext.nw (Ext.nw (Ext.nw (Ext.nw (Ext.nw (Ext.nw (Ext.refl _ _) e_1) e2) e3) e4) e5) e6)⟩
    | exact ⟨0#64, k, true, rfl, hs6, ⟨hk, .inr ⟨rfl, fun _ => Cn.num_no1 hall (by first | (left; omega) | (right; rw [List.length_drop]; omega))⟩⟩, fun _ => rfl, (Ext.nw (Ext.nw (Ext.nw (Ext.nw (Ext.nw (Ext.nw (Ext.refl _ _) e_1) e2) e3) e4) e5) e6)⟩
    | exact ⟨BitVec.ofNat 64 (Cn.valN ((l.drop k).take (i + 1))), k + (i + 1), false, rfl, hs6, ⟨by omega, .inl ⟨rfl, rfl, Cn.num_yes (by omega) hq9⟩⟩, (fun h => by cases h), (Ext.nw (Ext.nw (Ext.nw (Ext.nw (Ext.nw (Ext.nw (Ext.refl _ _) e_1) e2) e3) e4) e5) e6)⟩
   have hq8 : Cn.num (BitVec.ofNat 64 (Cn.valN ((l.drop k).take (i + 1)))).toNat ≠ (l.drop k).take (i + 1) := by
    intro q
    apply c72
    rw [q, List.drop_take, show k + (i + 1) - k = i + 1 by omega]
   refine C.skip (K17 (C.exit (K8 (K6 (C.sr fun K22 => O.mv (O.nilChk s0_1 (O.fa underlying201 rfl sizeOf4 rfl (O.store sizeOf4 rfl rfl rfl (t2.keep e5) (by simp) (fun w7 hs7 e7 z7 => ?_)))))))))
   try simp only [Nat.zero_add] at hs7
   refine K22 (C.sr fun K23 => O.asg (K23 (C.ret (Outs.one rfl rfl ?_))))
   first
   | exact ⟨0#64, k, true, rfl, hs7, Cn.RdN.of_bad hk rfl, fun _ => rfl, (Ext.nw (Ext.nw (Ext.nw (Ext.nw (Ext.nw (Ext.nw (Ext.refl _ _) e_1) e2) e3) e4) e5) e7)⟩
   | exact ⟨0#64, k, true, rfl, hs7, ⟨hk, .inr ⟨rfl, fun _ => Cn.num_no2 hall hy2 hy4 hq8⟩⟩, fun _ => rfl, (Ext.nw (Ext.nw (Ext.nw (Ext.nw (Ext.nw (Ext.nw (Ext.refl _ _) e_1) e2) e3) e4) e5) e7)⟩
  refine C.exit (K8 (K6 (C.sr fun K24 => O.mv (O.nilChk s0_1 (O.fa underlying201 rfl sizeOf4 rfl (O.store sizeOf4 rfl rfl rfl t0 (by simp) (fun w8 hs8 e8 z8 => ?_)))))))
  try simp only [Nat.zero_add] at hs8
  refine K24 (C.sr fun K25 => O.asg (K25 (C.ret (Outs.one rfl rfl ?_))))
  first
  | exact ⟨0#64, k, true, rfl, hs8, Cn.RdN.of_bad hk rfl, fun _ => rfl, (Ext.nw (Ext.nw (Ext.nw (Ext.refl _ _) e_1) e2) e8)⟩
  | exact ⟨0#64, k, true, rfl, hs8, ⟨hk, .inr ⟨rfl, fun _ => Cn.num_no2 hall hy2 hy4 hq8⟩⟩, fun _ => rfl, (Ext.nw (Ext.nw (Ext.nw (Ext.refl _ _) e_1) e2) e8)⟩
  | exact ⟨0#64, k, true, rfl, hs8, ⟨hk, .inr ⟨rfl, fun _ => Cn.num_no1 hall (by first | (left; omega) | (right; rw [List.length_drop]; omega))⟩⟩, fun _ => rfl, (Ext.nw (Ext.nw (Ext.nw (Ext.refl _ _) e_1) e2) e8)⟩
 refine D.tn 3 rfl rfl (Le.refl _) rfl (noB (isF rfl c13) rfl) (D.tn 4 rfl rfl (Le.refl _) rfl (noB (isF rfl c13) rfl) (D.tn 5 rfl rfl (Le.refl _) rfl (noB (isF rfl c13) rfl) (D.tn 6 rfl rfl (Le.refl _) rfl (noB (isF rfl c13) rfl) (D.tn 7 rfl rfl (Le.refl _) rfl (noB (isF rfl c13) rfl) (D.tn 8 rfl rfl (Le.refl _) rfl (noB (isF rfl c13) rfl) (D.tn 9 rfl rfl (Le.refl _) rfl (noB (isF rfl c13) rfl) (D.tn 10 rfl rfl (Le.refl _) rfl (noB (isF rfl c13) rfl) (D.tn 11 rfl rfl (Le.refl _) rfl (noB (isF rfl c13) rfl) (D.tn 12 rfl rfl (Le.refl _) rfl (noB (isF rfl c13) rfl) (D.tn 13 rfl rfl (Le.refl _) rfl (noB (isF rfl c13) rfl) ?_))))))))))
 refine D.tn 14 rfl rfl (Le.refl _) rfl (noB (isF rfl c13) rfl) (D.tk 15 rfl rfl rfl rfl (Le.refl _) pick_form (fun _ hw_ _ hN => O.pickF (isF rfl c13) (O.nil hN)) (K10 (C.condF rfl (C.exit (K8 (K6 (C.sr fun K26 => O.mv (O.nilChk s0_1 (O.fa underlying201 rfl sizeOf4 rfl (O.store sizeOf4 rfl rfl rfl ((ho.keep e_1).keep e2) (by simp) (fun w9 hs9 e9 z9 => ?_)))))))))))
 try simp only [Nat.zero_add] at hs9
 refine K26 (C.sr fun K27 => O.asg (K27 (C.ret (Outs.one rfl rfl ?_))))
 first
 | exact ⟨0#64, k, true, rfl, hs9, Cn.RdN.of_bad hk rfl, fun _ => rfl, (Ext.nw (Ext.nw (Ext.nw (Ext.refl _ _) e_1) e2) e9)⟩
 | exact ⟨0#64, k, true, rfl, hs9, ⟨hk, .inr ⟨rfl, fun _ => Cn.num_no2 hall hy2 hy4 hq8⟩⟩, fun _ => rfl, (Ext.nw (Ext.nw (Ext.nw (Ext.refl _ _) e_1) e2) e9)⟩
 | exact ⟨0#64, k, true, rfl, hs9, ⟨hk, .inr ⟨rfl, fun _ => Cn.num_no1 hall (by first | (left; omega) | (right; rw [List.length_drop]; omega))⟩⟩, fun _ => rfl, (Ext.nw (Ext.nw (Ext.nw (Ext.refl _ _) e_1) e2) e9)⟩
theorem xtext_spec (b : Nat) (vl : Value) (l : List UInt8) (k : Nat) (bad : Bool) (F : Nat → Prop) (w : World) (ho : Own w b 201 [vl, .int .i64 ((k : Int)), .bool bad]) (hl : Sl byteE w F vl l) (hk : k ≤ l.length) (hF : ∀ j, F j → j ≠ b ∧ j < w.heap.size) (hL : l.length ≤ 1000000) :
 Ret prog 155 #[.pointer (some ⟨b, 0, none⟩)] w (fun v w' => ∃ (s : List UInt8) (k' : Nat) (bad' : Bool), v = str s ∧ Own w' b 201 [vl, .int .i64 ((k' : Int)), .bool bad'] ∧ s.length ≤ l.length ∧ Cn.Rd (fun _ : List UInt8 => True) Cn.strB l k bad s k' bad' ∧ Ext (fun j => j = b) w w') := by
 have _hF9 := hF
 have _hk9 := hk
 have hbl := ho.lt
 have hll := hl.le
 refine enT [.pointer (some ⟨b, 0, none⟩)] 57 func155 rfl rfl (C.sr fun K1 => O.asg (K1 (C.sr fun K2 => O.mv (O.call call154 (args1 rfl) (xnum_spec b vl l k bad F _ ho hl hk (fun j hj => by have q1 := hF j hj; omega) hL) ?_))))
 rintro v_6 w1 ⟨nv6, knv6, bv6, rfl, hov6, hrv6, hzv6, e1⟩
 have z1 := e1.size
 have hk6 := hrv6.1
 have hn6 := nv6.isLt
 refine O.asg (K2 (C.sq fun K3 => C.sd fun K4 w2 e2 z2 => D.mv 0 rfl (Le.refl _) (D.tk 1 rfl rfl rfl rfl (Le.refl _) (nil_form rfl) (fun _ hw_ _ hN => O.nilChk rfl (O.nil hN)) (D.t 2 rfl (Le.refl _) (fun _ _ _ hN => O.fa underlying201 rfl sizeOf4 rfl (O.nil hN)) (D.t 3 rfl (Le.refl _) (fun _ hw_ _ hN => O.loadO isAgg4 rfl ((hov6.keep e2).keep hw_) rfl (O.nil hN)) (D.mv 4 rfl (Le.refl _) (D.split (x := .tmp 11) rfl (fun c11 => ?_) (fun c11 => ?_))))))))
 ·
  have c11b := c11
  obtain rfl := c11b
  refine D.tn 5 rfl rfl (Le.refl _) rfl (noB (isT' rfl c11) rfl) (D.tn 6 rfl rfl (Le.refl _) rfl (noB (isT' rfl c11) rfl) (D.tn 7 rfl rfl (Le.refl _) rfl (noB (isT' rfl c11) rfl) (D.tn 8 rfl rfl (Le.refl _) rfl (noB (isT' rfl c11) rfl) (D.tn 9 rfl rfl (Le.refl _) rfl (noB (isT' rfl c11) rfl) (D.tn 10 rfl rfl (Le.refl _) rfl (noB (isT' rfl c11) rfl) (D.tn 11 rfl rfl (Le.refl _) rfl (noB (isT' rfl c11) rfl) (D.tn 12 rfl rfl (Le.refl _) rfl (noB (isT' rfl c11) rfl) (D.tn 13 rfl rfl (Le.refl _) rfl (noB (isT' rfl c11) rfl) (D.tn 14 rfl rfl (Le.refl _) rfl (noB (isT' rfl c11) rfl) (D.tn 15 rfl rfl (Le.refl _) rfl (noB (isT' rfl c11) rfl) ?_))))))))))
  refine D.tn 16 rfl rfl (Le.refl _) rfl (noB (isT' rfl c11) rfl) (D.tn 17 rfl rfl (Le.refl _) rfl (noB (isT' rfl c11) rfl) (D.tk 18 rfl rfl rfl rfl (Le.refl _) pick_form (fun _ hw_ _ hN => O.pickT (isT' rfl c11) (O.nil hN)) (K4 (C.condT rfl (C.sr fun K5 => O.mv (O.nilChk rfl (O.fa underlying201 rfl sizeOf4 rfl (O.store sizeOf4 rfl rfl rfl (hov6.keep e2) (by simp) (fun w3 hs3 e3 z3 => ?_)))))))))
  try simp only [Nat.zero_add] at hs3
  refine K5 (C.sr fun K6 => O.asg (K6 (C.ret (Outs.one rfl rfl ?_))))
  first
  | exact ⟨_, knv6 + nv6.toNat, false, rfl, hs3, by rw [List.length_take, List.length_drop]; omega, Cn.Rd.str hrv6 hn7, (Ext.nw (Ext.nw (Ext.nw (Ext.refl _ _) e1) e2) e3)⟩
  | exact ⟨[], knv6, true, rfl, hs3, Nat.zero_le _, Cn.Rd.nostr hL hrv6 (.inl rfl), (Ext.nw (Ext.nw (Ext.nw (Ext.refl _ _) e1) e2) e3)⟩
 have c11b := c11
 obtain rfl := c11b
 refine D.ty 5 rfl rfl rfl rfl (isF' rfl c11) (Le.refl _) ⟨pure _, rfl⟩ (fun _ hw_ _ hN => O.mv (O.nil hN)) (D.ty 6 rfl rfl rfl rfl (isF' rfl c11) (Le.refl _) ⟨pure _, rfl⟩ (fun _ hw_ _ hN => O.mv (O.nil hN)) (D.ty 7 rfl rfl rfl rfl (isF' rfl c11) (Le.refl _) (nil_form rfl) (fun _ hw_ _ hN => O.nilChk rfl (O.nil hN)) (D.ty 8 rfl rfl rfl rfl (isF' rfl c11) (Le.refl _) ⟨_, rfl⟩ (fun _ hw_ _ hN => O.fa underlying201 rfl Z30 rfl (O.nil hN)) (D.ty 9 rfl rfl rfl rfl (isF' rfl c11) (Le.refl _) ⟨_, rfl⟩ (fun _ hw_ _ hN => O.loadO isAgg30 rfl ((hov6.keep e2).keep hw_) rfl (O.nil hN)) ?_))))
 refine D.ty 10 rfl rfl rfl rfl (isF' rfl c11) (Le.refl _) len_form (fun _ hw_ _ hN => O.len U30 rfl (((hl.keepA e1).keep e2).keep hw_) (O.nil hN)) (D.ty 11 rfl rfl rfl rfl (isF' rfl c11) (Le.refl _) ⟨pure _, rfl⟩ (fun _ hw_ _ hN => O.mv (O.nil hN)) (D.ty 12 rfl rfl rfl rfl (isF' rfl c11) (Le.refl _) (nil_form rfl) (fun _ hw_ _ hN => O.nilChk rfl (O.nil hN)) (D.ty 13 rfl rfl rfl rfl (isF' rfl c11) (Le.refl _) ⟨_, rfl⟩ (fun _ hw_ _ hN => O.fa underlying201 rfl Z3 rfl (O.nil hN)) (D.ty 14 rfl rfl rfl rfl (isF' rfl c11) (Le.refl _) ⟨_, rfl⟩ (fun _ hw_ _ hN => O.loadO isAgg3 rfl ((hov6.keep e2).keep hw_) rfl (O.nil hN)) ?_))))
 refine D.ty 15 rfl rfl rfl rfl (isF' rfl c11) (Le.refl _) ⟨_, rfl⟩ (fun _ hw_ _ hN => O.subI rfl rfl (by unfold InI; omega) (O.nil hN)) (D.ty 16 rfl rfl rfl rfl (isF' rfl c11) (Le.refl _) ⟨_, rfl⟩ (fun _ hw_ _ hN => O.convIU (m' := 64) U3 U110 rfl rfl rfl (O.nil hN)) (D.ty 17 rfl rfl rfl rfl (isF' rfl c11) (Le.refl _) ⟨_, rfl⟩ (fun _ hw_ _ hN => O.gtrU (m := 64) rfl rfl (O.nil hN)) (D.tk 18 rfl rfl rfl rfl (Le.refl _) pick_form (fun _ hw_ _ hN => O.pickF (isF' rfl c11) (O.nil hN)) (K4 (C.condD rfl (fun c25 => ?_) (fun c25 => ?_))))))
 ·
  have hn8 : l.length - knv6 < nv6.toNat := by
   have q := BitVec.lt_def.1 c25
   rw [BitVec.toNat_ofInt] at q
   omega
  refine C.sr fun K7 => O.mv (O.nilChk rfl (O.fa underlying201 rfl sizeOf4 rfl (O.store sizeOf4 rfl rfl rfl (hov6.keep e2) (by simp) (fun w4 hs4 e4 z4 => ?_))))
  try simp only [Nat.zero_add] at hs4
  refine K7 (C.sr fun K8 => O.asg (K8 (C.ret (Outs.one rfl rfl ?_))))
  first
  | exact ⟨_, knv6 + nv6.toNat, false, rfl, hs4, by rw [List.length_take, List.length_drop]; omega, Cn.Rd.str hrv6 hn7, (Ext.nw (Ext.nw (Ext.nw (Ext.refl _ _) e1) e2) e4)⟩
  | exact ⟨[], knv6, true, rfl, hs4, Nat.zero_le _, Cn.Rd.nostr hL hrv6 (.inl rfl), (Ext.nw (Ext.nw (Ext.nw (Ext.refl _ _) e1) e2) e4)⟩
  | exact ⟨[], knv6, true, rfl, hs4, Nat.zero_le _, Cn.Rd.nostr hL hrv6 (.inr hn8), (Ext.nw (Ext.nw (Ext.nw (Ext.refl _ _) e1) e2) e4)⟩
 have hn7 : nv6.toNat ≤ l.length - knv6 := by
  have q := mt BitVec.lt_def.2 c25
  rw [BitVec.toNat_ofInt] at q
  omega
 refine C.skip (K3 (C.sd fun K9 w5 e5 z5 => D.mv 0 rfl (Le.refl _) (D.tk 1 rfl rfl rfl rfl (Le.refl _) (nil_form rfl) (fun _ hw_ _ hN => O.nilChk rfl (O.nil hN)) (D.t 2 rfl (Le.refl _) (fun _ _ _ hN => O.fa underlying201 rfl Z30 rfl (O.nil hN)) ?_))))
 have t0 := (hov6.keep e2).keep e5
 refine D.t 3 rfl (Le.refl _) (fun _ hw_ _ hN => O.loadO isAgg30 rfl (t0.keep hw_) rfl (O.nil hN)) (D.mv 4 rfl (Le.refl _) (D.tk 5 rfl rfl rfl rfl (Le.refl _) (nil_form rfl) (fun _ hw_ _ hN => O.nilChk rfl (O.nil hN)) (D.t 6 rfl (Le.refl _) (fun _ _ _ hN => O.fa underlying201 rfl Z3 rfl (O.nil hN)) (D.t 7 rfl (Le.refl _) (fun _ hw_ _ hN => O.loadO isAgg3 rfl (t0.keep hw_) rfl (O.nil hN)) (D.mv 8 rfl (Le.refl _) (D.tk 9 rfl rfl rfl rfl (Le.refl _) (nil_form rfl) (fun _ hw_ _ hN => O.nilChk rfl (O.nil hN)) (D.t 10 rfl (Le.refl _) (fun _ _ _ hN => O.fa underlying201 rfl Z3 rfl (O.nil hN)) ?_)))))))
 refine D.t 11 rfl (Le.refl _) (fun _ hw_ _ hN => O.loadO isAgg3 rfl (t0.keep hw_) rfl (O.nil hN)) (D.mv 12 rfl (Le.refl _) (D.t 13 rfl (Le.refl _) (fun _ _ _ hN => O.convU64I U110 U3 rfl (O.nil hN)) (D.cast (v' := .int .i64 (nv6.toNat : Int)) (congrArg (Value.int .i64) (by rw [BitVec.toInt_eq_toNat_cond, if_pos (by omega)])) (D.t 14 rfl (Le.refl _) (fun _ _ _ hN => O.addI rfl rfl (by unfold InI; omega) (O.nil hN)) (D.cast (v' := .int .i64 ((knv6 + nv6.toNat : Nat) : Int)) (congrArg (Value.int .i64) (by omega)) ?_)))))
 have hb44 := Sl.sub (P := prog) (knv6) (knv6 + nv6.toNat) U30 Z5 (by rfl) (((hl.keepA e1).keep e2).keep e5) (by omega) (by omega)
 obtain ⟨v44, hs44, hr44⟩ := hb44
 refine D.t 15 rfl (Le.refl _) (fun _ _ _ hN => O.subR rfl hr44 (.inr ⟨_, _, rfl, rfl⟩) (.inr ⟨_, _, rfl, rfl⟩) (O.nil hN)) (D.t 16 rfl (Le.refl _) (fun _ hw_ _ hN => O.bytesS U30 U5 U9 rfl (hs44.keep hw_) (O.nil hN)) (D.cast (v' := str ((l.drop knv6).take nv6.toNat)) (by rw [List.drop_take, show knv6 + nv6.toNat - knv6 = nv6.toNat by omega]) (D.as 17 rfl (Le.refl _) (K9 (C.sr fun K10 => O.mv (O.mv (O.nilChk rfl (O.fa underlying201 rfl Z3 rfl (O.loadO isAgg3 rfl t0 rfl (O.mv (O.convU64I U110 U3 rfl ?_)))))))))))
 refine O.cast (v' := .int .i64 (nv6.toNat : Int)) (congrArg (Value.int .i64) (by rw [BitVec.toInt_eq_toNat_cond, if_pos (by omega)])) (O.addI rfl rfl (by unfold InI; omega) (O.cast (v' := .int .i64 ((knv6 + nv6.toNat : Nat) : Int)) (congrArg (Value.int .i64) (by omega)) (O.nilChk rfl (O.fa underlying201 rfl Z3 rfl (O.store Z3 rfl rfl rfl t0 (by simp) (fun w6 hs6 e6 z6 => ?_))))))
 try simp only [Nat.zero_add] at hs6
 refine K10 (C.sr fun K11 => O.mv (O.asg (K11 (C.ret (Outs.one rfl rfl ?_)))))
 exact ⟨_, knv6 + nv6.toNat, false, rfl, hs6, by rw [List.length_take, List.length_drop]; omega, Cn.Rd.str hrv6 hn7, (Ext.nw (Ext.nw (Ext.nw (Ext.nw (Ext.refl _ _) e1) e2) e5) e6)⟩
theorem xdot_spec (b : Nat) (vl : Value) (l : List UInt8) (k : Nat) (bad : Bool) (F : Nat → Prop) (w : World) (ho : Own w b 201 [vl, .int .i64 ((k : Int)), .bool bad]) (hl : Sl byteE w F vl l) (hk : k ≤ l.length) (hF : ∀ j, F j → j ≠ b ∧ j < w.heap.size) (hL : l.length ≤ 1000000) :
 Ret prog 156 #[.pointer (some ⟨b, 0, none⟩)] w (fun v w' => ∃ (d : Dt.Dot) (k' : Nat) (bad' : Bool), v = Dt.dv d ∧ Own w' b 201 [vl, .int .i64 ((k' : Int)), .bool bad'] ∧ Cn.dotR d ∧ Cn.Rd Cn.dotR Cn.dotB l k bad d k' bad' ∧ Ext (fun j => j = b) w w') := by
 have _hF9 := hF
 have _hk9 := hk
 have hbl := ho.lt
 have hll := hl.le
 refine enT [.pointer (some ⟨b, 0, none⟩)] 12 func156 rfl rfl (C.sr fun K1 => O.alloc zeroValue112 (fun b2 w1 hb2 hz2 e1 => ?_))
 have z1 := e1.size
 have h2 := hz2.own
 have hl2 := h2.lt
 refine K1 (C.sr fun K2 => O.mv (O.call call154 (args1 rfl) (xnum_spec b vl l k bad F _ (ho.keep e1) (hl.keep e1) hk (fun j hj => by have q1 := hF j hj; omega) hL) ?_))
 rintro v_5 w2 ⟨nv5, knv5, bv5, rfl, hov5, hrv5, hzv5, e2⟩
 have z2 := e2.size
 refine O.asg (K2 (C.sr fun K3 => O.mv (O.convU64I U110 U3 rfl (O.mv (O.call call154 (args1 rfl) (xnum_spec b vl l knv5 bv5 F _ hov5 ((hl.keep e1).keepA e2) hrv5.1 (fun j hj => by have q1 := hF j hj; omega) hL) ?_)))))
 rintro v_9 w3 ⟨nv9, knv9, bv9, rfl, hov9, hrv9, hzv9, e3⟩
 have z3 := e3.size
 refine O.convU64I U110 U3 rfl (O.build (cells := #[.int .i64 nv5.toInt, .int .i64 nv9.toInt]) rfl (by kernel_rfl) (O.storeA (vs := [.int .i64 nv5.toInt, .int .i64 nv9.toInt]) Z112 rfl rfl rfl (by simp [Value.oneCell']) ((h2.keepO e2).keepO e3) (leB rfl) (fun w4 hs4 e4 z4 => K3 (C.ret (Outs.cellA rfl isAgg112 Z112 rfl hs4 rfl ?_)))))
 exact ⟨(nv5.toInt, nv9.toInt), knv9, bv9, rfl, (hov9.keepO e4), Cn.dotR_mk, Cn.Rd.dot hrv5 hrv9, (Ext.nw (Ext.nw (Ext.nw (Ext.nw (Ext.refl _ _) e1) e2) e3) e4)⟩
theorem xdots_spec (b : Nat) (vl : Value) (l : List UInt8) (k : Nat) (bad : Bool) (F : Nat → Prop) (w : World) (ho : Own w b 201 [vl, .int .i64 ((k : Int)), .bool bad]) (hl : Sl byteE w F vl l) (hk : k ≤ l.length) (hF : ∀ j, F j → j ≠ b ∧ j < w.heap.size) (hL : l.length ≤ 1000000) :
 Ret prog 219 #[.pointer (some ⟨b, 0, none⟩)] w (fun v w' => ∃ (ds : List Dt.Dot) (k' : Nat) (bad' : Bool), Own w' b 201 [vl, .int .i64 ((k' : Int)), .bool bad'] ∧ Sl Dt.dotF.enc w' (fun j => w.heap.size ≤ j ∧ j < w'.heap.size) v ds ∧ ds.length ≤ l.length + 1 ∧ Cn.manyQ Cn.dotR ds ∧ Cn.Rd (Cn.manyQ Cn.dotR) (Cn.manyB Cn.dotB) l k bad ds k' bad' ∧ Ext (fun j => j = b) w w') := by
 have _hF9 := hF
 have _hk9 := hk
 have hbl := ho.lt
 have hll := hl.le
 obtain ⟨ie112, ti112, ts112, tb112, tz112⟩ := inf112
 refine enT [.pointer (some ⟨b, 0, none⟩)] 24 func219 rfl rfl (C.sr fun K1 => O.asg (K1 (C.sr fun K2 => O.asg (K2 (C.sq fun K3 => C.sr fun K4 => O.mv (O.call call154 (args1 rfl) (xnum_spec b vl l k bad F _ ho hl hk (fun j hj => by have q1 := hF j hj; omega) hL) ?_))))))
 rintro v_6 w1 ⟨nv6, knv6, bv6, rfl, hov6, hrv6, hzv6, e1⟩
 have z1 := e1.size
 refine O.asg (K4 (C.bl fun K5 => C.loop0 (σ := List Dt.Dot × Value × Nat × Bool) (fun f0 w0 ⟨ds, vs, kc, bc⟩ f wz => f 3 = vs ∧ f 4 = .int .u64 ((BitVec.ofNat 64 (nv6.toNat - ds.length)).toNat : Int) ∧ f 0 = f0 0 ∧ f 2 = f0 2 ∧ Ext (fun j => j = b) w wz ∧ Own wz b 201 [vl, .int .i64 ((kc : Int)), .bool bc] ∧ OwnF Dt.dotF 112 w.heap.size wz vs ds ∧ ds.length ≤ nv6.toNat ∧ ds.length ≤ l.length + 1 ∧ Cn.Rds Cn.dotR Cn.dotB l k bad nv6 knv6 ds kc bc) (fun ⟨ds, vs, kc, bc⟩ => nv6.toNat - ds.length) ([], .slice none 0 0, knv6, bv6) ?_ ?_))
 ·
  refine ⟨rfl, (Eq.trans rfl (congrArg (fun q : BitVec 64 => Value.int .u64 (q.toNat : Int)) (by simp))), rfl, rfl, (Ext.nw (Ext.refl _ _) e1), hov6, (OwnF.nil _ _ _ _), ?_⟩
  exact ⟨Nat.zero_le _, Nat.zero_le _, Cn.Rds.start hL Cn.dotB_ge hrv6⟩
 rintro ⟨ds, vs, kc, bc⟩ f_1 w2 ⟨s3_1, s4_1, s0_1, s2_1, e_1, r0_1, r1_1, ⟨hj, hj9, hR⟩⟩
 have z_1 := e_1.size
 have r1_1s := r1_1.sl
 have hNl := nv6.isLt
 refine C.sq fun K6 => C.sr fun K7 => O.mv (O.gtrU (m := 64) (b := 0#64) s4_1 rfl (O.mv (O.splitD (x := .tmp 9) rfl (fun c9 => ?_) (fun c9 => ?_))))
 ·
  have hj2 : ds.length < nv6.toNat := by have q := (Cn.pos_ofNat (m := nv6.toNat - ds.length) (by omega)).1 c9; omega
  refine O.yes rfl (isT rfl c9) (O.mv (O.yes rfl (isT rfl c9) (O.nilChk s0_1 (O.yes rfl (isT rfl c9) (O.fa underlying201 rfl sizeOf4 rfl (O.yes rfl (isT rfl c9) (O.loadO isAgg4 rfl r0_1 rfl (O.yes rfl (isT rfl c9) (O.not rfl (O.pickT (isT rfl c9) (K7 (C.cond rfl (fun c15 => ?_) (fun c15 => ?_)))))))))))))
  ·
   obtain rfl : bc = false := by simpa using c15
   have hln := (Cn.Rds.len Cn.dotB_ge hR).1
   refine C.skip (K6 (C.sq fun K8 => C.bl fun K9 => C.region (O.mv (O.mv (O.call call156 (args1 s0_1) (xdot_spec b vl l kc false F _ r0_1 (hl.keepA e_1) hR.1 (fun j hj => by have q1 := hF j hj; omega) hL) ?_)))))
   rintro v_20 w3 ⟨dv20, knv20, bv20, rfl, hov20, hdv20, hrv20, e3⟩
   have z3 := e3.size
   refine O.litG (G := Dt.dotF) [dv20] U41 ti112 ts112 tz112 rfl (by decide) (by decide) rfl (fun b21 w4 hb21 hz21 e4 => ?_)
   have z4 := e4.size
   have h21 := hz21.own
   have hq21 := Sl.litG (n := 1) h21 rfl (by unfold maxLen; omega)
   have t0 := r1_1.keepM e3 (fun k hk h => by have := r1_1.bk_ge k hk; (try dsimp only at h); omega)
   refine O.appF (G := Dt.dotF) U41 ti112 tz112 ts112 rfl s3_1 rfl (t0.keep e4) hq21 (by rw [tb112]; simp; omega) (by unfold maxLen; simp; omega) (by omega) (fun v22 w5 h22 e5 => ?_)
   have e5m : Ext (fun j => w.heap.size ≤ j) w4 w5 := e5.mono (fun j _ hj => by have := (t0.keep e4).bk_ge j hj; omega)
   have z5 := e5.size
   have h22s := h22.sl
   refine O.asg (O.nil (K9 (K8 (C.region (O.mv (O.subU (m := 64) (b := 1#64) rfl rfl s4_1 rfl (O.asg (O.nil (⟨(ds ++ [dv20], v22, knv20, bv20), ⟨rfl, (Eq.trans rfl (congrArg (fun q : BitVec 64 => Value.int .u64 (q.toNat : Int)) (by rw [Cn.dec_ofNat (by omega) (by omega), List.length_append]; rfl))), s0_1, s2_1, (Ext.nw (Ext.nw (Ext.nw (Ext.nw (Ext.refl _ _) e_1) e3) e4) e5m), ((hov20.keep e4).keepM e5 (by intro h; have := (t0.keep e4).bk_ge _ h; omega)), h22, ?_⟩, by show nv6.toNat - (ds ++ [dv20]).length < nv6.toNat - ds.length; rw [List.length_append]; show nv6.toNat - (ds.length + 1) < _; omega⟩)))))))))
   exact ⟨by rw [List.length_append]; exact hj2, by rw [List.length_append]; show ds.length + 1 ≤ _; omega, Cn.Rds.next Cn.pre_dot hR hj2 hdv20 hrv20⟩
  refine C.exit (K5 (K3 (C.sr fun K10 => O.mv (O.asg (K10 (C.ret (Outs.one rfl s3_1 ?_)))))))
  exact ⟨ds, kc, bc, r0_1, (r1_1).sl.weak (fun j hj => by have := (r1_1).bk_ge j hj; exact ⟨by omega, by omega⟩), by omega, hR.2.1, Cn.Rds.done hR (by first | (left; omega) | (right; simpa using c15)), (Ext.nw (Ext.refl _ _) e_1)⟩
 have hj3 : ds.length = nv6.toNat := by have q := mt (Cn.pos_ofNat (m := nv6.toNat - ds.length) (by omega)).2 c9; omega
 refine O.no rfl (noB (isF rfl c9) rfl) (O.no rfl (noB (isF rfl c9) rfl) (O.no rfl (noB (isF rfl c9) rfl) (O.no rfl (noB (isF rfl c9) rfl) (O.no rfl (noB (isF rfl c9) rfl) (O.pickF (isF rfl c9) (K7 (C.condF rfl (C.exit (K5 (K3 (C.sr fun K11 => O.mv (O.asg (K11 (C.ret (Outs.one rfl s3_1 ?_)))))))))))))))
 exact ⟨ds, kc, bc, r0_1, (r1_1).sl.weak (fun j hj => by have := (r1_1).bk_ge j hj; exact ⟨by omega, by omega⟩), by omega, hR.2.1, Cn.Rds.done hR (by first | (left; omega) | (right; simpa using c15)), (Ext.nw (Ext.refl _ _) e_1)⟩
theorem xctx_spec (b : Nat) (vl : Value) (l : List UInt8) (k : Nat) (bad : Bool) (F : Nat → Prop) (w : World) (ho : Own w b 201 [vl, .int .i64 ((k : Int)), .bool bad]) (hl : Sl byteE w F vl l) (hk : k ≤ l.length) (hF : ∀ j, F j → j ≠ b ∧ j < w.heap.size) (hL : l.length ≤ 1000000) :
 Ret prog 153 #[.pointer (some ⟨b, 0, none⟩)] w (fun v w' => ∃ (v1 v2 : Value) (x : Cn.Ctx) (k' : Nat) (bad' : Bool), v = .agg #[v1, v2] ∧ Own w' b 201 [vl, .int .i64 ((k' : Int)), .bool bad'] ∧ Sl Dt.dotF.enc w' (fun j => w.heap.size ≤ j ∧ j < w'.heap.size) v1 x.1 ∧ Sl Dt.dotF.enc w' (fun j => w.heap.size ≤ j ∧ j < w'.heap.size) v2 x.2 ∧ (x.1.length ≤ l.length + 1 ∧ x.2.length ≤ l.length + 1) ∧ Cn.ctxR x ∧ Cn.Rd Cn.ctxR Cn.ctxB l k bad x k' bad' ∧ Ext (fun j => j = b) w w') := by
 have _hF9 := hF
 have _hk9 := hk
 have hbl := ho.lt
 have hll := hl.le
 refine enT [.pointer (some ⟨b, 0, none⟩)] 10 func153 rfl rfl (C.sr fun K1 => O.alloc zeroValue44 (fun b2 w1 hb2 hz2 e1 => ?_))
 have z1 := e1.size
 have h2 := hz2.own
 have hl2 := h2.lt
 refine K1 (C.sr fun K2 => O.mv (O.call call219 (args1 rfl) (xdots_spec b vl l k bad F _ (ho.keep e1) (hl.keep e1) hk (fun j hj => by have q1 := hF j hj; omega) hL) ?_))
 rintro v_5 w2 ⟨dsv5, knv5, bv5, hov5, hlv5, hnv5, hqv5, hrv5, e2⟩
 have z2 := e2.size
 obtain ⟨p5, rfl⟩ := hlv5.slv
 refine O.asg (K2 (C.sr fun K3 => O.mv (O.mv (O.call call219 (args1 rfl) (xdots_spec b vl l knv5 bv5 F _ hov5 ((hl.keep e1).keepA e2) hrv5.1 (fun j hj => by have q1 := hF j hj; omega) hL) ?_))))
 rintro v_8 w3 ⟨dsv8, knv8, bv8, hov8, hlv8, hnv8, hqv8, hrv8, e3⟩
 have z3 := e3.size
 obtain ⟨p8, rfl⟩ := hlv8.slv
 refine O.build (cells := #[slv p5, slv p8]) rfl (by kernel_rfl) (O.storeA (vs := [slv p5, slv p8]) Z44 rfl rfl rfl (by simp [slv, Value.oneCell']) ((h2.keepO e2).keepO e3) (leB rfl) (fun w4 hs4 e4 z4 => K3 (C.ret (Outs.cellA rfl isAgg44 Z44 rfl hs4 rfl ?_))))
 exact ⟨slv p5, slv p8, (dsv5, dsv8), knv8, bv8, rfl, (hov8.keepO e4), (((hlv5.keepA e3).keepA e4)).weakA, ((hlv8.keepA e4)).weakA, ⟨hnv5, hnv8⟩, ⟨hqv5, hqv8⟩, Cn.Rd.ctx hrv5 hqv5 hrv8, (Ext.nw (Ext.nw (Ext.nw (Ext.nw (Ext.refl _ _) e1) e2) e3) e4)⟩
theorem xprefix_spec (p0 : Option Addr × Nat × Nat) (l : List UInt8) (F : Nat → Prop) (w : World) (hl : Sl byteE w F (slv p0) l) (hL9 : l.length ≤ 900000) (hF : ∀ j, F j → j < w.heap.size) :
 Ret prog 103 #[slv p0] w (fun v w' => ∃ (v1 v2 v3 : Value) (c : Cn.Cart) (k' : Nat) (found : Bool), v = .tuple #[.agg #[v1, v2, v3], .int .i64 (k' : Int), .bool found] ∧ Sl Dt.dotF.enc w' (fun j => w.heap.size ≤ j ∧ j < w'.heap.size) v1 c.1.1 ∧ Sl Dt.dotF.enc w' (fun j => w.heap.size ≤ j ∧ j < w'.heap.size) v2 c.1.2 ∧ Sl itemE w' (fun j => w.heap.size ≤ j ∧ j < w'.heap.size) v3 c.2 ∧ Cn.big c ∧ Cn.PrefR l c k' found ∧ Le w w') := by
 have hL : l.length ≤ 1000000 := by omega
 have hll := hl.le
 have _hF9 := hF
 obtain ⟨ie114, ti114, ts114, tb114, tz114⟩ := inf114
 obtain ⟨ie117, ti117, ts117, tb117, tz117⟩ := inf117
 refine enT [slv p0] 78 func103 rfl rfl (C.sr fun K1 => O.alloc zeroValue47 (fun b2 w1 hb2 hz2 e1 => ?_))
 have z1 := e1.size
 have h2 := hz2.own
 have hl2 := h2.lt
 refine O.asg (O.asg (K1 (C.sr fun K2 => O.mv (O.build (cells := #[slv p0, .int .i64 0, .bool false]) rfl (by kernel_rfl) (O.box (v := .agg #[slv p0, .int .i64 0, .bool false]) rfl (fun b13 w2 hb13 hz13 e2 => ?_))))))
 have z2 := e2.size
 have h13 := hz13.own
 have hl13 := h13.lt
 refine O.asg (K2 (C.sr fun K3 => O.mv (O.call call153 (args1 rfl) (xctx_spec b13 (slv p0) l 0 false F _ h13 ((hl.keep e1).keep e2) (Nat.zero_le _) (fun j hj => by have q1 := hF j hj; omega) hL) ?_)))
 rintro v_15 w3 ⟨vav15, vbv15, xv15, knv15, bv15, rfl, hov15, hxv15, hyv15, hnv15, hcv15, hrv15, e3⟩
 have z3 := e3.size
 obtain ⟨p15, rfl⟩ := hxv15.slv
 obtain ⟨q15, rfl⟩ := hyv15.slv
 refine O.build (cells := #[slv p15, slv q15, .slice none 0 0]) rfl (by kernel_rfl) (O.alloc zeroValue47 (fun b6 w4 hb6 hz6 e4 => ?_))
 have z4 := e4.size
 have h6 := hz6.own
 have hl6 := h6.lt
 refine O.storeA (vs := [slv p15, slv q15, .slice none 0 0]) Z47 rfl rfl rfl (by simp [slv, Value.oneCell']) h6 (leB rfl) (fun w5 hs5 e5 z5 => K3 (C.sq fun K4 => C.sr fun K5 => O.mv (O.call call154 (args1 rfl) (xnum_spec b13 (slv p0) l knv15 bv15 F _ ((hov15.keep e4).keepO e5) (((((hl.keep e1).keep e2).keepA e3).keep e4).keepA e5) hrv15.1 (fun j hj => by have q1 := hF j hj; omega) hL) ?_)))
 rintro v_18 w6 ⟨nv18, knv18, bv18, rfl, hov18, hrv18, hzv18, e6⟩
 have z6 := e6.size
 refine O.asg (K5 (C.bl fun K6 => ?_))
 refine C.loop0 (σ := List ItemT × List (List UInt8 × (Option Addr × Nat × Nat)) × Value × Nat × Bool) (fun f0 w0 ⟨its, raw, o, kc, bc⟩ f wz => f 7 = .int .u64 ((BitVec.ofNat 64 (nv18.toNat - its.length)).toNat : Int) ∧ f 2 = f0 2 ∧ f 3 = f0 3 ∧ f 4 = f0 4 ∧ f 5 = f0 5 ∧ f 6 = f0 6 ∧ Le w wz ∧ Own wz b13 201 [slv p0, .int .i64 ((kc : Int)), .bool bc] ∧ Own wz b2 47 [.slice none 0 0, .slice none 0 0, .slice none 0 0] ∧ Own wz b6 47 [slv p15, slv q15, o] ∧ OwnF itemF 117 (b6 + 1) wz o raw ∧ Items wz (fun j => b6 < j ∧ j < wz.heap.size ∧ ¬ bk o j) raw its ∧ Sl Dt.dotF.enc wz (fun j => b13 < j ∧ j < b6) (slv p15) xv15.1 ∧ Sl Dt.dotF.enc wz (fun j => b13 < j ∧ j < b6) (slv q15) xv15.2 ∧ its.length ≤ nv18.toNat ∧ its.length ≤ l.length + 1 ∧ Cn.manyQ (fun x : ItemT => x.1.length ≤ 1000000 ∧ x.2.length ≤ 1000000) its ∧ Cn.Rds Cn.itemR Cn.itemB l knv15 bv15 nv18 knv18 its kc bc) (fun ⟨its, raw, o, kc, bc⟩ => nv18.toNat - its.length) ([], [], .slice none 0 0, knv18, bv18) ?_ ?_
 ·
  refine ⟨(Eq.trans rfl (congrArg (fun q : BitVec 64 => Value.int .u64 (q.toNat : Int)) (by simp))), rfl, rfl, rfl, rfl, rfl, (Ext.nr (Ext.nr (Ext.trans (Ext.nr (Ext.trans e1 e2) e3) e4) e5) e6), hov18, (((((h2.keep e2).keepO e3).keep e4).keepO e5).keepO e6), (hs5.keepO e6), (OwnF.nil _ _ _ _), Items.nil, (((((hxv15.keep e4).keepA e5).keepA e6)).weakA), (((((hyv15.keep e4).keepA e5).keepA e6)).weakA), ?_⟩
  exact ⟨Nat.zero_le _, Nat.zero_le _, Cn.manyQ_nil, Cn.Rds.start hL Cn.itemB_ge hrv18⟩
 rintro ⟨its, raw, o, kc, bc⟩ f_1 w7 ⟨s7_1, s2_1, s3_1, s4_1, s5_1, s6_1, e_1, r0_1, r1_1, r2_1, r3_1, r4_1, r5_1, r6_1, ⟨hj, hj9, hB, hR⟩⟩
 have z_1 := e_1.size
 have r3_1s := r3_1.sl
 obtain ⟨wL, hwL⟩ : ∃ x, x = w7 := ⟨_, rfl⟩
 have hzL : wL.heap.size = w7.heap.size := by rw [hwL]
 have hNl := nv18.isLt
 have ho1 := (r3_1).one
 have hbl6 := (r2_1).lt
 have hbl2 := (r1_1).lt
 have hbl13 := (r0_1).lt
 have hit := r4_1
 have hob := (r3_1).bk_ge
 refine C.sq fun K7 => C.sr fun K8 => O.mv (O.gtrU (m := 64) (b := 0#64) s7_1 rfl (O.mv (O.splitD (x := .tmp 21) rfl (fun c21 => ?_) (fun c21 => ?_))))
 ·
  have hj2 : its.length < nv18.toNat := by have q := (Cn.pos_ofNat (m := nv18.toNat - its.length) (by omega)).1 c21; omega
  refine O.yes rfl (isT rfl c21) (O.mv (O.yes rfl (isT rfl c21) (O.nilChk s5_1 (O.yes rfl (isT rfl c21) (O.fa underlying201 rfl sizeOf4 rfl (O.yes rfl (isT rfl c21) (O.loadO isAgg4 rfl r0_1 rfl (O.yes rfl (isT rfl c21) (O.not rfl (O.pickT (isT rfl c21) (K8 (C.cond rfl (fun c27 => ?_) (fun c27 => ?_)))))))))))))
  ·
   obtain rfl : bc = false := by simpa using c27
   have hln := (Cn.Rds.len Cn.itemB_ge hR).1
   refine C.skip (K7 (C.sq fun K9 => C.bl fun K10 => C.sr fun K11 => O.mv (O.call call155 (args1 s5_1) (xtext_spec b13 (slv p0) l kc false F _ r0_1 (hl.keep e_1) hR.1 (fun j hj => by have q1 := hF j hj; omega) hL) ?_)))
   rintro v_31 w8 ⟨sv31, knv31, bv31, rfl, hov31, hnv31, hrv31, e8⟩
   have z8 := e8.size
   refine O.build (cells := #[str sv31, .slice none 0 0]) rfl (by kernel_rfl) (O.alloc zeroValue117 (fun b8 w9 hb8 hz8 e9 => ?_))
   have z9 := e9.size
   have h8 := hz8.own
   have hl8 := h8.lt
   refine O.storeA (vs := [str sv31, .slice none 0 0]) Z117 rfl rfl rfl (ones2 rfl) h8 (leB rfl) (fun w10 hs10 e10 z10 => K11 (C.sq fun K12 => C.sr fun K13 => O.mv (O.call call154 (args1 s5_1) (xnum_spec b13 (slv p0) l knv31 bv31 F _ ((hov31.keep e9).keepO e10) ((((hl.keep e_1).keepA e8).keep e9).keepA e10) hrv31.1 (fun j hj => by have q1 := hF j hj; omega) hL) ?_)))
   rintro v_34 w11 ⟨nv34, knv34, bv34, rfl, hov34, hrv34, hzv34, e11⟩
   have z11 := e11.size
   have hob8 : ∀ j, bk o j → j < b8 := fun j hj => by have := hob j hj; omega
   refine O.asg (K13 (C.bl fun K14 => ?_))
   refine C.loop0 (σ := List MarkT × Value × Nat × Bool) (fun f0 w0 ⟨ms, vm, kd, bd⟩ f wz => f 9 = .int .u64 ((BitVec.ofNat 64 (nv34.toNat - ms.length)).toNat : Int) ∧ f 2 = f0 2 ∧ f 3 = f0 3 ∧ f 4 = f0 4 ∧ f 5 = f0 5 ∧ f 6 = f0 6 ∧ f 7 = f0 7 ∧ f 8 = f0 8 ∧ Le w wz ∧ Own wz b13 201 [slv p0, .int .i64 ((kd : Int)), .bool bd] ∧ Own wz b2 47 [.slice none 0 0, .slice none 0 0, .slice none 0 0] ∧ Own wz b6 47 [slv p15, slv q15, o] ∧ Own wz b8 117 [str sv31, vm] ∧ OwnF itemF 117 (b6 + 1) wz o raw ∧ OwnF markF 114 (b8 + 1) wz vm ms ∧ Items wz (fun j => b6 < j ∧ j < b8 ∧ ¬ bk o j) raw its ∧ Sl Dt.dotF.enc wz (fun j => b13 < j ∧ j < b6) (slv p15) xv15.1 ∧ Sl Dt.dotF.enc wz (fun j => b13 < j ∧ j < b6) (slv q15) xv15.2 ∧ ms.length ≤ nv34.toNat ∧ ms.length ≤ l.length + 1 ∧ Cn.Rds Cn.markR Cn.markB l knv31 bv31 nv34 knv34 ms kd bd) (fun ⟨ms, vm, kd, bd⟩ => nv34.toNat - ms.length) ([], .slice none 0 0, knv34, bv34) ?_ ?_
   ·
    refine ⟨(Eq.trans rfl (congrArg (fun q : BitVec 64 => Value.int .u64 (q.toNat : Int)) (by simp))), rfl, rfl, rfl, rfl, rfl, rfl, rfl, (Ext.nr (Ext.nr (Ext.trans (Ext.nr e_1 e8) e9) e10) e11), hov34, ((((r1_1.keepO e8).keep e9).keepO e10).keepO e11), ((((r2_1.keepO e8).keep e9).keepO e10).keepO e11), (hs10.keepO e11), ((((r3_1.keepM e8 (fun k hk h => by have := r3_1.bk_ge k hk; (try dsimp only at h); omega)).keep e9).keepM e10 (fun k hk h => by have := r3_1.bk_ge k hk; (try dsimp only at h); omega)).keepM e11 (fun k hk h => by have := r3_1.bk_ge k hk; (try dsimp only at h); omega)), (OwnF.nil _ _ _ _), ((((((r4_1.keepA e8).keep e9).keepA e10).keepA e11)).weak (fun j hj => ⟨hj.1, by have := hj.2.1; omega, hj.2.2⟩)), ((((r5_1.keepA e8).keep e9).keepA e10).keepA e11), ((((r6_1.keepA e8).keep e9).keepA e10).keepA e11), ?_⟩
    exact ⟨Nat.zero_le _, Nat.zero_le _, Cn.Rds.start hL Cn.markB_ge hrv34⟩
   rintro ⟨ms, vm, kd, bd⟩ f_2 w12 ⟨s9_2, s2_2, s3_2, s4_2, s5_2, s6_2, s7_2, s8_2, e_2, r0_2, r1_2, r2_2, r3_2, r4_2, r5_2, r6_2, r7_2, r8_2, ⟨hm, hm9, hM⟩⟩
   have z_2 := e_2.size
   have r4_2s := r4_2.sl
   have r5_2s := r5_2.sl
   have hMl := nv34.isLt
   have hbl8 := (r3_2).lt
   have hbl6b := (r2_2).lt
   have hbl13b := (r0_2).lt
   have hbl2b := (r1_2).lt
   refine C.sq fun K15 => C.sr fun K16 => O.mv (O.gtrU (m := 64) (b := 0#64) s9_2 rfl (O.mv (O.splitD (x := .tmp 37) rfl (fun c37 => ?_) (fun c37 => ?_))))
   ·
    have hm2 : ms.length < nv34.toNat := by have q := (Cn.pos_ofNat (m := nv34.toNat - ms.length) (by omega)).1 c37; omega
    refine O.yes rfl (isT rfl c37) (O.mv (O.yes rfl (isT rfl c37) (O.nilChk (Eq.trans s5_2 s5_1) (O.yes rfl (isT rfl c37) (O.fa underlying201 rfl sizeOf4 rfl (O.yes rfl (isT rfl c37) (O.loadO isAgg4 rfl r0_2 rfl (O.yes rfl (isT rfl c37) (O.not rfl (O.pickT (isT rfl c37) (K16 (C.cond rfl (fun c43 => ?_) (fun c43 => ?_)))))))))))))
    ·
     obtain rfl : bd = false := by simpa using c43
     have hlm := (Cn.Rds.len Cn.markB_ge hM).1
     refine C.skip (K15 (C.sq fun K17 => C.bl fun K18 => C.sr fun K19 => O.mv (O.call call156 (args1 (Eq.trans s5_2 s5_1)) (xdot_spec b13 (slv p0) l kd false F _ r0_2 (hl.keep e_2) hM.1 (fun j hj => by have q1 := hF j hj; omega) hL) ?_)))
     rintro v_47 w13 ⟨dv47, knv47, bv47, rfl, hov47, hdv47, hrv47, e13⟩
     have z13 := e13.size
     refine O.build (cells := #[.int .i64 dv47.1, .int .i64 dv47.2, .int .i64 0, .int .u64 0]) rfl (by kernel_rfl) (O.alloc zeroValue114 (fun b10 w14 hb10 hz10 e14 => ?_))
     have z14 := e14.size
     have h10 := hz10.own
     have hl10 := h10.lt
     refine O.storeA (vs := [.int .i64 dv47.1, .int .i64 dv47.2, .int .i64 0, .int .u64 0]) Z114 rfl rfl rfl (by simp [Value.oneCell']) h10 (leB rfl) (fun w15 hs15 e15 z15 => K19 (C.sr fun K20 => O.mv ?_))
     have t0 := ((hl.keep e_2).keepA e13).keep e14
     refine O.call call154 (args1 (Eq.trans s5_2 s5_1)) (xnum_spec b13 (slv p0) l knv47 bv47 F _ ((hov47.keep e14).keepO e15) (t0.keepA e15) hrv47.1 (fun j hj => by have q1 := hF j hj; omega) hL) ?_
     rintro v_50 w16 ⟨nv50, knv50, bv50, rfl, hov50, hrv50, hzv50, e16⟩
     have z16 := e16.size
     refine O.convU64I U110 U3 rfl (O.fa U114 rfl Z3 rfl (O.store Z3 rfl rfl rfl (hs15.keepO e16) (by simp) (fun w17 hs17 e17 z17 => ?_)))
     (try simp only [Int.toNat_natCast] at hs17); (try simp only [Nat.zero_add] at hs17); (try simp only [Nat.mul_one] at hs17)
     refine K20 (C.sr fun K21 => O.mv (O.call call154 (args1 (Eq.trans s5_2 s5_1)) (xnum_spec b13 (slv p0) l knv50 bv50 F _ (hov50.keepO e17) (((t0.keepA e15).keepA e16).keepA e17) hrv50.1 (fun j hj => by have q1 := hF j hj; omega) hL) ?_))
     rintro v_54 w18 ⟨nv54, knv54, bv54, rfl, hov54, hrv54, hzv54, e18⟩
     have z18 := e18.size
     refine O.fa U114 rfl Z110 rfl (O.store Z110 rfl rfl rfl (hs17.keepO e18) (by simp) (fun w19 hs19 e19 z19 => ?_))
     (try simp only [Int.toNat_natCast] at hs19); (try simp only [Nat.zero_add] at hs19); (try simp only [Nat.mul_one] at hs19)
     refine K21 (C.region (O.fa U117 rfl Z115 s8_2 (O.loadO isAgg115 rfl (((((((r3_2.keepO e13).keep e14).keepO e15).keepO e16).keepO e17).keepO e18).keepO e19) rfl (O.loadOA isAgg114 Z114 rfl hs19 (leB rfl) (O.cast (v' := mv (dv47, nv50.toInt, nv54)) rfl (O.litG (G := markF) [(dv47, nv50.toInt, nv54)] U115 ti114 ts114 tz114 rfl (by decide) (by decide) rfl (fun b59 w20 hb59 hz59 e20 => ?_)))))))
     have z20 := e20.size
     have h59 := hz59.own
     have hq59 := Sl.litG (n := 1) h59 rfl (by unfold maxLen; omega)
     have t1 := r5_2.keepM e13 (fun k hk h => by have := r5_2.bk_ge k hk; (try dsimp only at h); omega)
     have t2 := (t1.keep e14).keepM e15 (fun k hk h => by have := r5_2.bk_ge k hk; (try dsimp only at h); omega)
     have t3 := t2.keepM e16 (fun k hk h => by have := r5_2.bk_ge k hk; (try dsimp only at h); omega)
     have t4 := t3.keepM e17 (fun k hk h => by have := r5_2.bk_ge k hk; (try dsimp only at h); omega)
     have t5 := t4.keepM e18 (fun k hk h => by have := r5_2.bk_ge k hk; (try dsimp only at h); omega)
     have t6 := t5.keepM e19 (fun k hk h => by have := r5_2.bk_ge k hk; (try dsimp only at h); omega)
     refine O.appF (G := markF) U115 ti114 tz114 ts114 rfl rfl rfl (t6.keep e20) hq59 (by rw [tb114]; simp; omega) (by unfold maxLen; simp; omega) (by omega) (fun v60 w21 h60 e21 => ?_)
     have e21m : Ext (fun j => w.heap.size ≤ j) w20 w21 := e21.mono (fun j _ hj => by have := (t6.keep e20).bk_ge j hj; omega)
     have z21 := e21.size
     have h60s := h60.sl
     refine O.fa U117 rfl Z115 s8_2 (O.store Z115 rfl rfl h60.one (((((((((r3_2.keepO e13).keep e14).keepO e15).keepO e16).keepO e17).keepO e18).keepO e19).keep e20).keepM e21 (by intro h; have := (t6.keep e20).bk_ge _ h; omega)) (by simp) (fun w22 hs22 e22 z22 => ?_))
     (try simp only [Int.toNat_natCast] at hs22); (try simp only [Nat.zero_add] at hs22); (try simp only [Nat.mul_one] at hs22)
     refine O.nil (K18 (K17 (C.region (O.mv (O.subU (m := 64) (b := 1#64) rfl rfl s9_2 rfl (O.asg (O.nil ?_)))))))
     refine ⟨(ms ++ [(dv47, nv50.toInt, nv54)], v60, knv54, bv54), ⟨(Eq.trans rfl (congrArg (fun q : BitVec 64 => Value.int .u64 (q.toNat : Int)) (by rw [Cn.dec_ofNat (by omega) (by omega), List.length_append]; rfl))), s2_2, s3_2, s4_2, s5_2, s6_2, s7_2, s8_2, (Ext.nr (Ext.new (Ext.trans (Ext.nr (Ext.nr (Ext.nr (Ext.nr (Ext.nr (Ext.trans (Ext.nr e_2 e13) e14) e15) e16) e17) e18) e19) e20) e21 (by intro i hi h; have := (t6.keep e20).bk_ge i h; omega)) e22), ((((hov54.keepO e19).keep e20).keepM e21 (by intro h; have := (t6.keep e20).bk_ge _ h; omega)).keepO e22), ((((((((((r1_2.keepO e13).keep e14).keepO e15).keepO e16).keepO e17).keepO e18).keepO e19).keep e20).keepM e21 (by intro h; have := (t6.keep e20).bk_ge _ h; omega)).keepO e22), ((((((((((r2_2.keepO e13).keep e14).keepO e15).keepO e16).keepO e17).keepO e18).keepO e19).keep e20).keepM e21 (by intro h; have := (t6.keep e20).bk_ge _ h; omega)).keepO e22), hs22, ((((((((((r4_2.keepM e13 (fun k hk h => by have := r4_2.bk_ge k hk; (try dsimp only at h); omega)).keep e14).keepM e15 (fun k hk h => by have := r4_2.bk_ge k hk; (try dsimp only at h); omega)).keepM e16 (fun k hk h => by have := r4_2.bk_ge k hk; (try dsimp only at h); omega)).keepM e17 (fun k hk h => by have := r4_2.bk_ge k hk; (try dsimp only at h); omega)).keepM e18 (fun k hk h => by have := r4_2.bk_ge k hk; (try dsimp only at h); omega)).keepM e19 (fun k hk h => by have := r4_2.bk_ge k hk; (try dsimp only at h); omega)).keep e20).keepM e21 (fun j hj h => by have q1 := hob8 j hj; have q2 := (t6.keep e20).bk_ge j h; omega)).keepM e22 (fun j hj h => by have q1 := hob8 j hj; (try dsimp only at h); omega)), (h60.keepM e22 (fun k hk h => by have := h60.bk_ge k hk; (try dsimp only at h); omega)), ((((((((((r6_2.keepA e13).keep e14).keepA e15).keepA e16).keepA e17).keepA e18).keepA e19).keep e20).keepM e21 (fun j hj h => by have q1 := hj.2.1; have q2 := (t6.keep e20).bk_ge j h; omega)).keepA e22), ((((((((((r7_2.keepA e13).keep e14).keepA e15).keepA e16).keepA e17).keepA e18).keepA e19).keep e20).keepM e21 (by intro j hj h; have q2 := (t6.keep e20).bk_ge j h; first | (have q1 := hF j hj; omega) | ((try dsimp only at hj); omega))).keepA e22), ((((((((((r8_2.keepA e13).keep e14).keepA e15).keepA e16).keepA e17).keepA e18).keepA e19).keep e20).keepM e21 (by intro j hj h; have q2 := (t6.keep e20).bk_ge j h; first | (have q1 := hF j hj; omega) | ((try dsimp only at hj); omega))).keepA e22), ?_⟩, by show nv34.toNat - (ms ++ [_]).length < nv34.toNat - ms.length; rw [List.length_append]; show nv34.toNat - (ms.length + 1) < _; omega⟩
     exact ⟨by rw [List.length_append]; exact hm2, by rw [List.length_append]; show ms.length + 1 ≤ _; omega, Cn.Rds.next Cn.pre_mark hM hm2 (Cn.markR_mk hdv47) (Cn.Rd.mark hrv47 hdv47 hrv50 hrv54)⟩
    have hm4 : bd = true := by simpa using c43
    have hmd : Cn.Rd (Cn.manyQ Cn.markR) (Cn.manyB Cn.markB) l knv31 bv31 ms kd bd := Cn.Rds.done hM (by first | (left; omega) | exact .inr hm4)
    have hpb := (r5_2).bk_ge
    have hsm := (r5_2).sl
    obtain ⟨pm, rfl⟩ := hsm.slv
    refine C.exit (K14 (K12 (C.region (O.fa U47 rfl Z45 (Eq.trans s6_2 s6_1) (O.loadO isAgg45 rfl r2_2 rfl (O.loadOA isAgg117 Z117 s8_2 r3_2 (leB rfl) (O.cast (v' := .agg #[str sv31, slv pm]) rfl (O.litG (G := itemF) [(sv31, pm)] U45 ti117 ts117 tz117 rfl (by decide) (by decide) rfl (fun b65 w23 hb65 hz65 e23 => ?_)))))))))
    have z23 := e23.size
    have h65 := hz65.own
    have hq65 := Sl.litG (n := 1) h65 rfl (by unfold maxLen; omega)
    refine O.appW (G := itemF) U45 ti117 tz117 ts117 rfl rfl rfl (r4_2.keep e23) hq65 (by rw [tb117, hit.1]; simp; omega) (by unfold maxLen; rw [hit.1]; simp; omega) (by omega) (fun v66 w24 h66 e24 hw66 => ?_)
    have e24m : Ext (fun j => w.heap.size ≤ j) w23 w24 := e24.mono (fun j _ hj => by have := (r4_2.keep e23).bk_ge j hj; omega)
    have z24 := e24.size
    have h66s := h66.sl
    have hit66 : Items w24 (fun j => b6 < j ∧ j < w24.heap.size ∧ ¬ bk v66 j) (raw ++ [(sv31, pm)]) (its ++ [(sv31, ms)]) := ((((r6_2.keep e23).keepM e24 (fun j hj h => hj.2.2 h))).weak (fun j hj => ⟨hj.1, by have := hj.2.1; omega, fun hq => by
     rcases hw66 j hq with q | q
     ·exact hj.2.2 q
     ·have := hj.2.1; omega⟩)).snoc (x := (sv31, ms)) rfl ((((hsm.keep e23).keepM e24 (fun j hj h => by have q1 := hob8 j h; have q2 := hpb j hj; omega))).weak (fun j hj => by
 have q2 := hpb j hj
 refine ⟨by omega, by omega, fun hq => ?_⟩
 rcases hw66 j hq with q | q
 ·have := hob8 j q; omega
 ·omega))
    refine O.fa U47 rfl Z45 (Eq.trans s6_2 s6_1) (O.store Z45 rfl rfl h66.one ((r2_2.keep e23).keepM e24 (by intro h; have := (r4_2.keep e23).bk_ge _ h; omega)) (by simp) (fun w25 hs25 e25 z25 => ?_))
    (try simp only [Int.toNat_natCast] at hs25); (try simp only [Nat.zero_add] at hs25); (try simp only [Nat.mul_one] at hs25)
    refine O.nil (K10 (K9 (C.region (O.mv (O.subU (m := 64) (b := 1#64) rfl rfl (Eq.trans s7_2 s7_1) rfl (O.asg (O.nil ?_)))))))
    refine ⟨(its ++ [(sv31, ms)], raw ++ [(sv31, pm)], v66, kd, bd), ⟨(Eq.trans rfl (congrArg (fun q : BitVec 64 => Value.int .u64 (q.toNat : Int)) (by rw [Cn.dec_ofNat (by omega) (by omega), List.length_append]; rfl))), (Eq.trans s2_2 s2_1), (Eq.trans s3_2 s3_1), (Eq.trans s4_2 s4_1), (Eq.trans s5_2 s5_1), (Eq.trans s6_2 s6_1), (Ext.nr (Ext.new (Ext.trans e_2 e23) e24 (by intro i hi h; have := (r4_2.keep e23).bk_ge i h; omega)) e25), (((r0_2.keep e23).keepM e24 (by intro h; have := (r4_2.keep e23).bk_ge _ h; omega)).keepO e25), (((r1_2.keep e23).keepM e24 (by intro h; have := (r4_2.keep e23).bk_ge _ h; omega)).keepO e25), hs25, (h66.keepM e25 (fun k hk h => by have := h66.bk_ge k hk; (try dsimp only at h); omega)), (((hit66.keepA e25)).weak (fun j hj => ⟨hj.1, by have := hj.2.1; omega, hj.2.2⟩)), (((r7_2.keep e23).keepM e24 (by intro j hj h; have q2 := (r4_2.keep e23).bk_ge j h; first | (have q1 := hF j hj; omega) | ((try dsimp only at hj); omega))).keepA e25), (((r8_2.keep e23).keepM e24 (by intro j hj h; have q2 := (r4_2.keep e23).bk_ge j h; first | (have q1 := hF j hj; omega) | ((try dsimp only at hj); omega))).keepA e25), ?_⟩, by show nv18.toNat - (its ++ [_]).length < nv18.toNat - its.length; rw [List.length_append]; show nv18.toNat - (its.length + 1) < _; omega⟩
    exact ⟨by rw [List.length_append]; exact hj2, by rw [List.length_append]; show its.length + 1 ≤ _; omega, Cn.manyQ_snoc hB ⟨by show sv31.length ≤ 1000000; omega, by show ms.length ≤ 1000000; omega⟩, Cn.Rds.next Cn.pre_itemR hR hj2 hM.2.1 (Cn.Rd.item hrv31 hmd)⟩
   have hm3 : ms.length = nv34.toNat := by have q := mt (Cn.pos_ofNat (m := nv34.toNat - ms.length) (by omega)).2 c37; omega
   have hmd : Cn.Rd (Cn.manyQ Cn.markR) (Cn.manyB Cn.markB) l knv31 bv31 ms kd bd := Cn.Rds.done hM (by first | (left; omega) | exact .inr hm4)
   have hpb := (r5_2).bk_ge
   have hsm := (r5_2).sl
   obtain ⟨pm, rfl⟩ := hsm.slv
   refine O.no rfl (noB (isF rfl c37) rfl) (O.no rfl (noB (isF rfl c37) rfl) (O.no rfl (noB (isF rfl c37) rfl) (O.no rfl (noB (isF rfl c37) rfl) (O.no rfl (noB (isF rfl c37) rfl) (O.pickF (isF rfl c37) (K16 (C.condF rfl (C.exit (K14 (K12 (C.region (O.fa U47 rfl Z45 (Eq.trans s6_2 s6_1) (O.loadO isAgg45 rfl r2_2 rfl (O.loadOA isAgg117 Z117 s8_2 r3_2 (leB rfl) (O.cast (v' := .agg #[str sv31, slv pm]) rfl (O.litG (G := itemF) [(sv31, pm)] U45 ti117 ts117 tz117 rfl (by decide) (by decide) rfl (fun b65 w26 hb65 hz65 e26 => ?_)))))))))))))))))
   have z26 := e26.size
   have h65 := hz65.own
   have hq65 := Sl.litG (n := 1) h65 rfl (by unfold maxLen; omega)
   refine O.appW (G := itemF) U45 ti117 tz117 ts117 rfl rfl rfl (r4_2.keep e26) hq65 (by rw [tb117, hit.1]; simp; omega) (by unfold maxLen; rw [hit.1]; simp; omega) (by omega) (fun v66 w27 h66 e27 hw66 => ?_)
   have e27m : Ext (fun j => w.heap.size ≤ j) w26 w27 := e27.mono (fun j _ hj => by have := (r4_2.keep e26).bk_ge j hj; omega)
   have z27 := e27.size
   have h66s := h66.sl
   have hit66 : Items w27 (fun j => b6 < j ∧ j < w27.heap.size ∧ ¬ bk v66 j) (raw ++ [(sv31, pm)]) (its ++ [(sv31, ms)]) := ((((r6_2.keep e26).keepM e27 (fun j hj h => hj.2.2 h))).weak (fun j hj => ⟨hj.1, by have := hj.2.1; omega, fun hq => by
    rcases hw66 j hq with q | q
    ·exact hj.2.2 q
    ·have := hj.2.1; omega⟩)).snoc (x := (sv31, ms)) rfl ((((hsm.keep e26).keepM e27 (fun j hj h => by have q1 := hob8 j h; have q2 := hpb j hj; omega))).weak (fun j hj => by
 have q2 := hpb j hj
 refine ⟨by omega, by omega, fun hq => ?_⟩
 rcases hw66 j hq with q | q
 ·have := hob8 j q; omega
 ·omega))
   refine O.fa U47 rfl Z45 (Eq.trans s6_2 s6_1) (O.store Z45 rfl rfl h66.one ((r2_2.keep e26).keepM e27 (by intro h; have := (r4_2.keep e26).bk_ge _ h; omega)) (by simp) (fun w28 hs28 e28 z28 => ?_))
   (try simp only [Int.toNat_natCast] at hs28); (try simp only [Nat.zero_add] at hs28); (try simp only [Nat.mul_one] at hs28)
   refine O.nil (K10 (K9 (C.region (O.mv (O.subU (m := 64) (b := 1#64) rfl rfl (Eq.trans s7_2 s7_1) rfl (O.asg (O.nil ?_)))))))
   refine ⟨(its ++ [(sv31, ms)], raw ++ [(sv31, pm)], v66, kd, bd), ⟨(Eq.trans rfl (congrArg (fun q : BitVec 64 => Value.int .u64 (q.toNat : Int)) (by rw [Cn.dec_ofNat (by omega) (by omega), List.length_append]; rfl))), (Eq.trans s2_2 s2_1), (Eq.trans s3_2 s3_1), (Eq.trans s4_2 s4_1), (Eq.trans s5_2 s5_1), (Eq.trans s6_2 s6_1), (Ext.nr (Ext.new (Ext.trans e_2 e26) e27 (by intro i hi h; have := (r4_2.keep e26).bk_ge i h; omega)) e28), (((r0_2.keep e26).keepM e27 (by intro h; have := (r4_2.keep e26).bk_ge _ h; omega)).keepO e28), (((r1_2.keep e26).keepM e27 (by intro h; have := (r4_2.keep e26).bk_ge _ h; omega)).keepO e28), hs28, (h66.keepM e28 (fun k hk h => by have := h66.bk_ge k hk; (try dsimp only at h); omega)), (((hit66.keepA e28)).weak (fun j hj => ⟨hj.1, by have := hj.2.1; omega, hj.2.2⟩)), (((r7_2.keep e26).keepM e27 (by intro j hj h; have q2 := (r4_2.keep e26).bk_ge j h; first | (have q1 := hF j hj; omega) | ((try dsimp only at hj); omega))).keepA e28), (((r8_2.keep e26).keepM e27 (by intro j hj h; have q2 := (r4_2.keep e26).bk_ge j h; first | (have q1 := hF j hj; omega) | ((try dsimp only at hj); omega))).keepA e28), ?_⟩, by show nv18.toNat - (its ++ [_]).length < nv18.toNat - its.length; rw [List.length_append]; show nv18.toNat - (its.length + 1) < _; omega⟩
   exact ⟨by rw [List.length_append]; exact hj2, by rw [List.length_append]; show its.length + 1 ≤ _; omega, Cn.manyQ_snoc hB ⟨by show sv31.length ≤ 1000000; omega, by show ms.length ≤ 1000000; omega⟩, Cn.Rds.next Cn.pre_itemR hR hj2 hM.2.1 (Cn.Rd.item hrv31 hmd)⟩
  have hj4 : bc = true := by simpa using c27
  have hdn : Cn.Rd (Cn.manyQ Cn.itemR) (Cn.manyB Cn.itemB) l knv15 bv15 its kc bc := Cn.Rds.done hR (by first | (left; omega) | exact .inr hj4)
  have hit := r4_1
  have hob2 := (r3_1).bk_ge
  obtain ⟨wq, hwq⟩ : ∃ x, x = w7 := ⟨_, rfl⟩
  have hzq : wq.heap.size = w7.heap.size := by rw [hwq]
  have hsi : Sl itemE w7 (fun j => b6 < j ∧ j < wq.heap.size) o its := (hit.weak (by intro j hj; have q1 := hj.1; have q := hj.2.1; show b6 < j ∧ j < wq.heap.size; omega)).sl ((r3_1).sl.weak (by intro j hj; have q := hob2 j hj; show b6 < j ∧ j < wq.heap.size; omega))
  refine C.exit (K6 (K4 (C.sq fun K22 => C.sr fun K23 => O.mv (O.nilChk s5_1 (O.fa underlying201 rfl sizeOf4 rfl (O.loadO isAgg4 rfl r0_1 rfl (K23 (C.cond rfl (fun c71 => ?_) (fun c71 => ?_)))))))))
  ·
   refine C.sr fun K24 => O.build (cells := #[.slice none 0 0, .slice none 0 0, .slice none 0 0]) rfl (by kernel_rfl) (O.storeA (vs := [.slice none 0 0, .slice none 0 0, .slice none 0 0]) Z47 rfl s2_1 rfl (by first | (have q9 := ho1; intro u hu; simp only [List.mem_cons, List.not_mem_nil, or_false] at hu; rcases hu with rfl | rfl | rfl <;> first | rfl | exact q9) | simp [Value.oneCell']) r1_1 (leB rfl) (fun w29 hs29 e29 z29 => O.asg (O.asg (K24 (C.ret (Outs.cellA3 rfl isAgg47 Z47 s2_1 rfl rfl hs29 rfl ?_))))))
   first
   | exact ⟨slv p15, slv q15, o, (xv15, its), kc, true, rfl, ((r5_1.keepA e29)).weakA, ((r6_1.keepA e29)).weakA, ((hsi.keepA e29)).weakA, ⟨by have := hnv15.1; show xv15.1.length ≤ 1000000; omega, by have := hnv15.2; show xv15.2.length ≤ 1000000; omega, by show its.length ≤ 1000000; omega, hB⟩, .inl ⟨rfl, ⟨hcv15, hR.2.1⟩, (Cn.Rd.cart hrv15 hcv15 hdn).yes c71⟩, (Ext.nr e_1 e29)⟩
   | exact ⟨_, _, _, Cn.nil0, 0, false, rfl, Sl.nil _ _ _, Sl.nil _ _ _, Sl.nil _ _ _, Cn.big_nil0, .inr ⟨rfl, rfl, rfl, (Cn.Rd.cart hrv15 hcv15 hdn).no c71⟩, (Ext.nr e_1 e29)⟩
  refine C.skip (K22 (C.sq fun K25 => C.drawB (wB := (bare w7)) (by kernel_rfl) fun w30 e30 => ?_))
  have z30 := e30.size
  refine D.mv 1 rfl (Ext.bare (Ext.nt (Ext.refl (fun _ => True) _) e30)) (D.tk 2 rfl rfl rfl rfl (Ext.bare (Ext.nt (Ext.refl (fun _ => True) _) e30)) (nil_form s5_1) (fun _ hw_ _ hN => O.nilChk s5_1 (O.nil hN)) (D.t 3 rfl (Ext.bare (Ext.nt (Ext.refl (fun _ => True) _) e30)) (fun _ _ _ hN => O.fa underlying201 rfl Z3 rfl (O.nil hN)) (D.many [0, 4] (by kernel_rfl) (by decide) ⟨?_, ?_, trivial⟩)))
  ·
   refine D.stepU rfl rfl (O.loadOA isAgg47 Z47 s6_1 (r2_1.keep e30) (leB rfl) (O.nil ⟨(Ext.bare (Ext.nt (Ext.refl (fun _ => True) _) e30)), D.many [4, 5] (by kernel_rfl) (by decide) ⟨?_, ?_, trivial⟩⟩))
   ·
    refine D.stepU rfl rfl (O.loadO isAgg3 rfl (r0_1.keep e30) rfl (O.nil ⟨(Ext.bare (Ext.nt (Ext.refl (fun _ => True) _) e30)), D.on 5 rfl rfl (O.storeA (vs := [slv p15, slv q15, o]) Z47 rfl s2_1 rfl (by first | (have q9 := ho1; intro u hu; simp only [List.mem_cons, List.not_mem_nil, or_false] at hu; rcases hu with rfl | rfl | rfl <;> first | rfl | exact q9) | simp [Value.oneCell']) (r1_1.keep e30) (leB rfl) (fun w31 hs31 e31 z31 => O.nil ⟨(Ext.bare (Ext.nt (Ext.nt (Ext.refl (fun _ => True) _) e30) e31)), D.as 6 rfl (Ext.bare (Ext.nt (Ext.nt (Ext.refl (fun _ => True) _) e30) e31)) ?_⟩))⟩))
    refine D.as 7 rfl (Ext.bare (Ext.nt (Ext.nt (Ext.refl (fun _ => True) _) e30) e31)) (D.dn (K25 (C.ret (Outs.cellA3 rfl isAgg47 Z47 s2_1 rfl rfl hs31 rfl ?_))))
    exact ⟨slv p15, slv q15, o, (xv15, its), kc, true, rfl, (((r5_1.keep e30).keepA e31)).weakA, (((r6_1.keep e30).keepA e31)).weakA, (((hsi.keep e30).keepA e31)).weakA, ⟨by have := hnv15.1; show xv15.1.length ≤ 1000000; omega, by have := hnv15.2; show xv15.2.length ≤ 1000000; omega, by show its.length ≤ 1000000; omega, hB⟩, .inl ⟨rfl, ⟨hcv15, hR.2.1⟩, (Cn.Rd.cart hrv15 hcv15 hdn).yes c71⟩, (Ext.nr (Ext.trans e_1 e30) e31)⟩
   refine D.stepU rfl rfl (O.storeA (vs := [slv p15, slv q15, o]) Z47 rfl s2_1 rfl (by first | (have q9 := ho1; intro u hu; simp only [List.mem_cons, List.not_mem_nil, or_false] at hu; rcases hu with rfl | rfl | rfl <;> first | rfl | exact q9) | simp [Value.oneCell']) (r1_1.keep e30) (leB rfl) (fun w32 hs32 e32 z32 => O.nil ⟨(Ext.bare (Ext.nt (Ext.nt (Ext.refl (fun _ => True) _) e30) e32)), D.on 4 rfl rfl (O.loadO isAgg3 rfl ((r0_1.keep e30).keepO e32) rfl (O.nil ⟨(Ext.bare (Ext.nt (Ext.nt (Ext.refl (fun _ => True) _) e30) e32)), D.as 6 rfl (Ext.bare (Ext.nt (Ext.nt (Ext.refl (fun _ => True) _) e30) e32)) ?_⟩))⟩))
   refine D.as 7 rfl (Ext.bare (Ext.nt (Ext.nt (Ext.refl (fun _ => True) _) e30) e32)) (D.dn (K25 (C.ret (Outs.cellA3 rfl isAgg47 Z47 s2_1 rfl rfl hs32 rfl ?_))))
   exact ⟨slv p15, slv q15, o, (xv15, its), kc, true, rfl, (((r5_1.keep e30).keepA e32)).weakA, (((r6_1.keep e30).keepA e32)).weakA, (((hsi.keep e30).keepA e32)).weakA, ⟨by have := hnv15.1; show xv15.1.length ≤ 1000000; omega, by have := hnv15.2; show xv15.2.length ≤ 1000000; omega, by show its.length ≤ 1000000; omega, hB⟩, .inl ⟨rfl, ⟨hcv15, hR.2.1⟩, (Cn.Rd.cart hrv15 hcv15 hdn).yes c71⟩, (Ext.nr (Ext.trans e_1 e30) e32)⟩
  refine D.stepU rfl rfl (O.loadO isAgg3 rfl (r0_1.keep e30) rfl (O.nil ⟨(Ext.bare (Ext.nt (Ext.refl (fun _ => True) _) e30)), D.on 0 rfl rfl (O.loadOA isAgg47 Z47 s6_1 (r2_1.keep e30) (leB rfl) (O.nil ⟨(Ext.bare (Ext.nt (Ext.refl (fun _ => True) _) e30)), D.on 5 rfl rfl (O.storeA (vs := [slv p15, slv q15, o]) Z47 rfl s2_1 rfl (by first | (have q9 := ho1; intro u hu; simp only [List.mem_cons, List.not_mem_nil, or_false] at hu; rcases hu with rfl | rfl | rfl <;> first | rfl | exact q9) | simp [Value.oneCell']) (r1_1.keep e30) (leB rfl) (fun w33 hs33 e33 z33 => O.nil ⟨(Ext.bare (Ext.nt (Ext.nt (Ext.refl (fun _ => True) _) e30) e33)), ?_⟩))⟩))⟩))
  refine D.as 6 rfl (Ext.bare (Ext.nt (Ext.nt (Ext.refl (fun _ => True) _) e30) e33)) (D.as 7 rfl (Ext.bare (Ext.nt (Ext.nt (Ext.refl (fun _ => True) _) e30) e33)) (D.dn (K25 (C.ret (Outs.cellA3 rfl isAgg47 Z47 s2_1 rfl rfl hs33 rfl ?_)))))
  exact ⟨slv p15, slv q15, o, (xv15, its), kc, true, rfl, (((r5_1.keep e30).keepA e33)).weakA, (((r6_1.keep e30).keepA e33)).weakA, (((hsi.keep e30).keepA e33)).weakA, ⟨by have := hnv15.1; show xv15.1.length ≤ 1000000; omega, by have := hnv15.2; show xv15.2.length ≤ 1000000; omega, by show its.length ≤ 1000000; omega, hB⟩, .inl ⟨rfl, ⟨hcv15, hR.2.1⟩, (Cn.Rd.cart hrv15 hcv15 hdn).yes c71⟩, (Ext.nr (Ext.trans e_1 e30) e33)⟩
 have hj3 : its.length = nv18.toNat := by have q := mt (Cn.pos_ofNat (m := nv18.toNat - its.length) (by omega)).2 c21; omega
 have hdn : Cn.Rd (Cn.manyQ Cn.itemR) (Cn.manyB Cn.itemB) l knv15 bv15 its kc bc := Cn.Rds.done hR (by first | (left; omega) | exact .inr hj4)
 have hit := r4_1
 have hob2 := (r3_1).bk_ge
 obtain ⟨wq, hwq⟩ : ∃ x, x = w7 := ⟨_, rfl⟩
 have hzq : wq.heap.size = w7.heap.size := by rw [hwq]
 have hsi : Sl itemE w7 (fun j => b6 < j ∧ j < wq.heap.size) o its := (hit.weak (by intro j hj; have q1 := hj.1; have q := hj.2.1; show b6 < j ∧ j < wq.heap.size; omega)).sl ((r3_1).sl.weak (by intro j hj; have q := hob2 j hj; show b6 < j ∧ j < wq.heap.size; omega))
 refine O.no rfl (noB (isF rfl c21) rfl) (O.no rfl (noB (isF rfl c21) rfl) (O.no rfl (noB (isF rfl c21) rfl) (O.no rfl (noB (isF rfl c21) rfl) (O.no rfl (noB (isF rfl c21) rfl) (O.pickF (isF rfl c21) (K8 (C.condF rfl (C.exit (K6 (K4 (C.sq fun K26 => C.sr fun K27 => O.mv (O.nilChk s5_1 (O.fa underlying201 rfl sizeOf4 rfl (O.loadO isAgg4 rfl r0_1 rfl (K27 (C.cond rfl (fun c71 => ?_) (fun c71 => ?_)))))))))))))))))
 ·
  refine C.sr fun K28 => O.build (cells := #[.slice none 0 0, .slice none 0 0, .slice none 0 0]) rfl (by kernel_rfl) (O.storeA (vs := [.slice none 0 0, .slice none 0 0, .slice none 0 0]) Z47 rfl s2_1 rfl (by first | (have q9 := ho1; intro u hu; simp only [List.mem_cons, List.not_mem_nil, or_false] at hu; rcases hu with rfl | rfl | rfl <;> first | rfl | exact q9) | simp [Value.oneCell']) r1_1 (leB rfl) (fun w34 hs34 e34 z34 => O.asg (O.asg (K28 (C.ret (Outs.cellA3 rfl isAgg47 Z47 s2_1 rfl rfl hs34 rfl ?_))))))
  first
  | exact ⟨slv p15, slv q15, o, (xv15, its), kc, true, rfl, ((r5_1.keepA e34)).weakA, ((r6_1.keepA e34)).weakA, ((hsi.keepA e34)).weakA, ⟨by have := hnv15.1; show xv15.1.length ≤ 1000000; omega, by have := hnv15.2; show xv15.2.length ≤ 1000000; omega, by show its.length ≤ 1000000; omega, hB⟩, .inl ⟨rfl, ⟨hcv15, hR.2.1⟩, (Cn.Rd.cart hrv15 hcv15 hdn).yes c71⟩, (Ext.nr e_1 e34)⟩
  | exact ⟨_, _, _, Cn.nil0, 0, false, rfl, Sl.nil _ _ _, Sl.nil _ _ _, Sl.nil _ _ _, Cn.big_nil0, .inr ⟨rfl, rfl, rfl, (Cn.Rd.cart hrv15 hcv15 hdn).no c71⟩, (Ext.nr e_1 e34)⟩
 refine C.skip (K26 (C.sq fun K29 => C.drawB (wB := (bare w7)) (by kernel_rfl) fun w35 e35 => ?_))
 have z35 := e35.size
 refine D.mv 1 rfl (Ext.bare (Ext.nt (Ext.refl (fun _ => True) _) e35)) (D.tk 2 rfl rfl rfl rfl (Ext.bare (Ext.nt (Ext.refl (fun _ => True) _) e35)) (nil_form s5_1) (fun _ hw_ _ hN => O.nilChk s5_1 (O.nil hN)) (D.t 3 rfl (Ext.bare (Ext.nt (Ext.refl (fun _ => True) _) e35)) (fun _ _ _ hN => O.fa underlying201 rfl Z3 rfl (O.nil hN)) (D.many [0, 4] (by kernel_rfl) (by decide) ⟨?_, ?_, trivial⟩)))
 ·
  refine D.stepU rfl rfl (O.loadOA isAgg47 Z47 s6_1 (r2_1.keep e35) (leB rfl) (O.nil ⟨(Ext.bare (Ext.nt (Ext.refl (fun _ => True) _) e35)), D.many [4, 5] (by kernel_rfl) (by decide) ⟨?_, ?_, trivial⟩⟩))
  ·
   refine D.stepU rfl rfl (O.loadO isAgg3 rfl (r0_1.keep e35) rfl (O.nil ⟨(Ext.bare (Ext.nt (Ext.refl (fun _ => True) _) e35)), D.on 5 rfl rfl (O.storeA (vs := [slv p15, slv q15, o]) Z47 rfl s2_1 rfl (by first | (have q9 := ho1; intro u hu; simp only [List.mem_cons, List.not_mem_nil, or_false] at hu; rcases hu with rfl | rfl | rfl <;> first | rfl | exact q9) | simp [Value.oneCell']) (r1_1.keep e35) (leB rfl) (fun w36 hs36 e36 z36 => O.nil ⟨(Ext.bare (Ext.nt (Ext.nt (Ext.refl (fun _ => True) _) e35) e36)), D.as 6 rfl (Ext.bare (Ext.nt (Ext.nt (Ext.refl (fun _ => True) _) e35) e36)) ?_⟩))⟩))
   refine D.as 7 rfl (Ext.bare (Ext.nt (Ext.nt (Ext.refl (fun _ => True) _) e35) e36)) (D.dn (K29 (C.ret (Outs.cellA3 rfl isAgg47 Z47 s2_1 rfl rfl hs36 rfl ?_))))
   exact ⟨slv p15, slv q15, o, (xv15, its), kc, true, rfl, (((r5_1.keep e35).keepA e36)).weakA, (((r6_1.keep e35).keepA e36)).weakA, (((hsi.keep e35).keepA e36)).weakA, ⟨by have := hnv15.1; show xv15.1.length ≤ 1000000; omega, by have := hnv15.2; show xv15.2.length ≤ 1000000; omega, by show its.length ≤ 1000000; omega, hB⟩, .inl ⟨rfl, ⟨hcv15, hR.2.1⟩, (Cn.Rd.cart hrv15 hcv15 hdn).yes c71⟩, (Ext.nr (Ext.trans e_1 e35) e36)⟩
  refine D.stepU rfl rfl (O.storeA (vs := [slv p15, slv q15, o]) Z47 rfl s2_1 rfl (by first | (have q9 := ho1; intro u hu; simp only [List.mem_cons, List.not_mem_nil, or_false] at hu; rcases hu with rfl | rfl | rfl <;> first | rfl | exact q9) | simp [Value.oneCell']) (r1_1.keep e35) (leB rfl) (fun w37 hs37 e37 z37 => O.nil ⟨(Ext.bare (Ext.nt (Ext.nt (Ext.refl (fun _ => True) _) e35) e37)), D.on 4 rfl rfl (O.loadO isAgg3 rfl ((r0_1.keep e35).keepO e37) rfl (O.nil ⟨(Ext.bare (Ext.nt (Ext.nt (Ext.refl (fun _ => True) _) e35) e37)), D.as 6 rfl (Ext.bare (Ext.nt (Ext.nt (Ext.refl (fun _ => True) _) e35) e37)) ?_⟩))⟩))
  refine D.as 7 rfl (Ext.bare (Ext.nt (Ext.nt (Ext.refl (fun _ => True) _) e35) e37)) (D.dn (K29 (C.ret (Outs.cellA3 rfl isAgg47 Z47 s2_1 rfl rfl hs37 rfl ?_))))
  exact ⟨slv p15, slv q15, o, (xv15, its), kc, true, rfl, (((r5_1.keep e35).keepA e37)).weakA, (((r6_1.keep e35).keepA e37)).weakA, (((hsi.keep e35).keepA e37)).weakA, ⟨by have := hnv15.1; show xv15.1.length ≤ 1000000; omega, by have := hnv15.2; show xv15.2.length ≤ 1000000; omega, by show its.length ≤ 1000000; omega, hB⟩, .inl ⟨rfl, ⟨hcv15, hR.2.1⟩, (Cn.Rd.cart hrv15 hcv15 hdn).yes c71⟩, (Ext.nr (Ext.trans e_1 e35) e37)⟩
 refine D.stepU rfl rfl (O.loadO isAgg3 rfl (r0_1.keep e35) rfl (O.nil ⟨(Ext.bare (Ext.nt (Ext.refl (fun _ => True) _) e35)), D.on 0 rfl rfl (O.loadOA isAgg47 Z47 s6_1 (r2_1.keep e35) (leB rfl) (O.nil ⟨(Ext.bare (Ext.nt (Ext.refl (fun _ => True) _) e35)), D.on 5 rfl rfl (O.storeA (vs := [slv p15, slv q15, o]) Z47 rfl s2_1 rfl (by first | (have q9 := ho1; intro u hu; simp only [List.mem_cons, List.not_mem_nil, or_false] at hu; rcases hu with rfl | rfl | rfl <;> first | rfl | exact q9) | simp [Value.oneCell']) (r1_1.keep e35) (leB rfl) (fun w38 hs38 e38 z38 => O.nil ⟨(Ext.bare (Ext.nt (Ext.nt (Ext.refl (fun _ => True) _) e35) e38)), ?_⟩))⟩))⟩))
 refine D.as 6 rfl (Ext.bare (Ext.nt (Ext.nt (Ext.refl (fun _ => True) _) e35) e38)) (D.as 7 rfl (Ext.bare (Ext.nt (Ext.nt (Ext.refl (fun _ => True) _) e35) e38)) (D.dn (K29 (C.ret (Outs.cellA3 rfl isAgg47 Z47 s2_1 rfl rfl hs38 rfl ?_)))))
 exact ⟨slv p15, slv q15, o, (xv15, its), kc, true, rfl, (((r5_1.keep e35).keepA e38)).weakA, (((r6_1.keep e35).keepA e38)).weakA, (((hsi.keep e35).keepA e38)).weakA, ⟨by have := hnv15.1; show xv15.1.length ≤ 1000000; omega, by have := hnv15.2; show xv15.2.length ≤ 1000000; omega, by show its.length ≤ 1000000; omega, hB⟩, .inl ⟨rfl, ⟨hcv15, hR.2.1⟩, (Cn.Rd.cart hrv15 hcv15 hdn).yes c71⟩, (Ext.nr (Ext.trans e_1 e35) e38)⟩
theorem rnumber_spec (v0 : Value) (p : List UInt8) (F : Nat → Prop) (w : World) (hl : Sl byteE w F v0 p) :
 Ret prog 102 #[v0] w (fun v w' => ∃ (n : BitVec 64) (k : Nat) (ok : Bool), v = .tuple #[.int .u64 (n.toNat : Int), .int .i64 (k : Int), .bool ok] ∧ ((ok = true ∧ Cn.SegN n p 0 k) ∨ (ok = false ∧ Cn.NumA p 0)) ∧ Le w w') := by
 have hll := hl.le
 refine enT [v0] 45 func102 rfl rfl (C.sr fun K1 => O.asg (O.asg (O.asg (K1 (C.sr fun K2 => O.asg (K2 (C.sq fun K3 => C.sr fun K4 => O.asg (K4 (C.bl fun K5 => C.loop0 (σ := Nat) (fun f0 w0 i f w => f 5 = .int .u64 ((BitVec.ofNat 64 (Cn.valN (p.take i))).toNat : Int) ∧ f 6 = .int .i64 ((i : Int)) ∧ f 0 = f0 0 ∧ Le w0 w ∧ i ≤ 10 ∧ i ≤ p.length ∧ ∀ j, ∀ h : j < p.length, j < i → ¬ p[j].toNat < 128) (fun i => 10 - i) 0 ?_ ?_)))))))))
 ·
  refine ⟨(Eq.trans rfl (by rw [List.take_zero]; rfl)), rfl, rfl, Le.refl _, ?_⟩
  exact ⟨Nat.zero_le _, Nat.zero_le _, fun j h h2 => absurd h2 (Nat.not_lt_zero _)⟩
 rintro i f_1 w1 ⟨s5_1, s6_1, s0_1, e_1, ⟨hi, hki, hall⟩⟩
 have z_1 := e_1.size
 refine C.sq fun K6 => C.sr fun K7 => O.mv (O.lssI s6_1 rfl (O.mv (O.cut 5 (fun f f' => f' 14 = .bool (decide ((i : Int) < 10 ∧ (i : Int) < (p.length : Int))) ∧ f' 0 = f 0 ∧ f' 5 = f 5 ∧ f' 6 = f 6) ?_ ?_)))
 ·
  refine O.splitD (x := .tmp 9) rfl (fun c9 => ?_) (fun c9 => ?_)
  ·
   refine O.yes rfl (isT rfl c9) (O.mv (O.yes rfl (isT rfl c9) (O.mv (O.yes rfl (isT rfl c9) (O.len U30 s0_1 (hl.keep e_1) (O.yes rfl (isT rfl c9) (O.lssI s6_1 rfl (O.pickT (isT rfl c9) (O.nil (⟨⟨?_, rfl, rfl, rfl⟩, rfl⟩))))))))))
   exact dJ rfl
  refine O.no rfl (noB (isF rfl c9) rfl) (O.no rfl (noB (isF rfl c9) rfl) (O.no rfl (noB (isF rfl c9) rfl) (O.no rfl (noB (isF rfl c9) rfl) (O.pickF (isF rfl c9) (O.nil (⟨⟨?_, rfl, rfl, rfl⟩, rfl⟩))))))
  exact dJ rfl
 rintro f_2 ⟨s14_2, s0_2, s5_2, s6_2⟩
 refine K7 (C.condD s14_2 (fun c14 => ?_) (fun c14 => ?_))
 ·
  have hi2 : i < p.length := by omega
  have sp1_ : ∃ y : UInt8, y = p[i] := ⟨_, rfl⟩
  obtain ⟨y, hy⟩ := sp1_
  refine C.skip (K6 (C.sq fun K8 => C.bl fun K9 => C.sr fun K10 => O.mv (O.mv (O.mv (O.idx U30 Z5 rfl (Eq.trans s0_2 s0_1) (hl.keep e_1) (Eq.trans s6_2 s6_1) (by omega) (fun a20 h20 => O.loadB isAgg5 rfl h20 (O.cast (v' := .int .u8 (y.toBitVec.toNat : Int)) (by rw [hy]; rfl) (O.remU (m := 8) (b := 128#8) rfl rfl rfl rfl (by decide) (O.convUU (m := 8) (m' := 64) U5 U110 rfl rfl rfl (O.mv (O.mulI rfl (Eq.trans s6_2 s6_1) (by unfold InI; omega) (O.cast (v' := .int .i64 ((7 * i : Nat) : Int)) (congrArg (Value.int .i64) (by omega)) (O.shlU (m := 64) rfl rfl rfl rfl ?_)))))))))))))
  refine O.addU (m := 64) rfl rfl (Eq.trans s5_2 s5_1) rfl (O.cast (v' := .int .u64 ((BitVec.ofNat 64 (Cn.valN (p.take (i + 1)))).toNat : Int)) (congrArg (fun q : BitVec 64 => Value.int .u64 (q.toNat : Int)) (by rw [Cn.valN_front hi2, ← hy]; exact Cn.group2 _ _ _)) (O.asg (K10 (C.sr fun K11 => O.mv (O.mv (O.idx U30 Z5 rfl (Eq.trans s0_2 s0_1) (hl.keep e_1) (Eq.trans s6_2 s6_1) (by omega) (fun a30 h30 => O.loadB isAgg5 rfl h30 (O.cast (v' := .int .u8 (y.toBitVec.toNat : Int)) (by rw [hy]; rfl) (O.lssU (m := 8) (b := 128#8) rfl rfl (K11 (C.condD rfl (fun c32 => ?_) (fun c32 => ?_))))))))))))
  ·
   have hy4 : p[i].toNat < 128 := by rw [← hy]; exact BitVec.lt_def.1 c32
   refine C.sd fun K12 w2 e2 z2 => D.mv 0 rfl (Le.refl _) (D.mv 1 rfl (Le.refl _) (D.t 2 rfl (Le.refl _) (fun _ _ _ hN => O.addI (Eq.trans s6_2 s6_1) rfl (by unfold InI; omega) (O.nil hN)) (D.cast (v' := .int .i64 ((i + 1 : Nat) : Int)) (congrArg (Value.int .i64) (by omega)) (D.mv 3 rfl (Le.refl _) (D.mv 6 rfl (Le.refl _) (D.mv 7 rfl (Le.refl _) (D.t 8 rfl (Le.refl _) (fun _ _ _ hN => O.addI (Eq.trans s6_2 s6_1) rfl (by unfold InI; omega) (O.nil hN)) (D.cast (v' := .int .i64 ((i + 1 : Nat) : Int)) (congrArg (Value.int .i64) (by omega)) ?_))))))))
   have hb42 := Sl.sub (P := prog) (0) ((i + 1)) U30 Z5 (by rfl) ((hl.keep e_1).keep e2) (Nat.zero_le _) (by omega)
   obtain ⟨v42, hs42, hr42⟩ := hb42
   refine D.t 9 rfl (Le.refl _) (fun _ _ _ hN => O.subR (Eq.trans s0_2 s0_1) hr42 (.inl ⟨rfl, rfl⟩) (.inr ⟨_, _, rfl, rfl⟩) (O.nil hN)) ?_
   rw [List.drop_zero] at hs42
   refine D.t 10 rfl (Le.refl _) (fun _ hw_ _ hN => O.bytesS U30 U5 U9 rfl (hs42.keep hw_) (O.nil hN)) (D.on 4 rfl rfl (O.call call67 (args1 rfl) (rnum_spec (BitVec.ofNat 64 (Cn.valN (p.take (i + 1)))) _) ?_))
   rintro v_37 w3 ⟨e3, h37⟩
   have z3 := e3.size
   refine O.nil ⟨e3, ?_⟩
   have h37s := h37.sl
   refine D.as 12 rfl e3 (D.as 13 rfl e3 (D.on 5 rfl rfl (O.bytesS U30 U5 U9 rfl h37s (O.nil ⟨e3, D.t 11 rfl e3 (fun _ _ _ hN => O.eqlS rfl rfl (O.nil hN)) (D.as 14 rfl e3 (K12 (C.ret (Outs.three rfl rfl rfl rfl ?_))))⟩))))
   (by_cases h9 : Cn.num (BitVec.ofNat 64 (Cn.valN (p.take (i + 1)))).toNat = p.take (i + 1)
    ·exact ⟨_, _, _, rfl, .inl ⟨decide_eq_true h9, Bt.n0_yes (by omega) h9⟩, (Ext.trans (Ext.trans e_1 e2) e3)⟩
    ·exact ⟨_, _, _, rfl, .inr ⟨decide_eq_false h9, Bt.n0_no2 hall hi2 hy4 h9⟩, (Ext.trans (Ext.trans e_1 e2) e3)⟩)
  have hy3 : ¬ p[i].toNat < 128 := by rw [← hy]; exact fun q => c32 (BitVec.lt_def.2 q)
  refine C.skip (K9 (K8 (C.region (O.mv (O.addI (Eq.trans s6_2 s6_1) rfl (by unfold InI; omega) (O.asg (O.nil (⟨(i + 1), ⟨rfl, rfl, (Eq.trans s0_2 s0_1), e_1, ?_⟩, by first | omega | (simp only []; omega)⟩))))))))
  refine ⟨by omega, by omega, fun j h h2 => ?_⟩
  rcases Nat.lt_or_eq_of_le (Nat.le_of_lt_succ h2) with h3 | h3
  ·exact hall j h h3
  ·subst h3; exact hy3
 refine C.exit (K5 (K3 (C.sr fun K13 => O.asg (O.asg (O.asg (K13 (C.ret (Outs.three rfl rfl rfl rfl ?_))))))))
 first
 | (by_cases h9 : Cn.num (BitVec.ofNat 64 (Cn.valN (p.take (i + 1)))).toNat = p.take (i + 1)
    ·exact ⟨_, _, _, rfl, .inl ⟨decide_eq_true h9, Bt.n0_yes (by omega) h9⟩, e_1⟩
    ·exact ⟨_, _, _, rfl, .inr ⟨decide_eq_false h9, Bt.n0_no2 hall hi2 hy4 h9⟩, e_1⟩)
 | exact ⟨0#64, 0, false, rfl, .inr ⟨rfl, Bt.n0_no1 hall (by omega)⟩, e_1⟩
theorem rread_spec (v0 : Value) (p : List UInt8) (F : Nat → Prop) (w : World) (hl : Sl byteE w F v0 p) (hL : p.length ≤ 900000) (hF : ∀ k, F k → k < w.heap.size) (mx : Mx w) :
 Ret prog 63 #[v0] w (fun v w' => ∃ (u : Value) (es : List EntT) (ok : Bool), v = .tuple #[u, .bool ok] ∧ Sl entE w' (fun j => w.heap.size ≤ j ∧ j < w'.heap.size) u es ∧ Bt.Big es ∧ Bt.ReadRes p es ok ∧ Le w w') := by
 have hgl9 := mx.lt
 have hll := hl.le
 obtain ⟨ie50, ti50, ts50, tb50, tz50⟩ := inf50
 refine enT [v0] 80 func63 rfl rfl (C.sr fun K1 => O.asg (O.asg (K1 (C.sr fun K2 => O.mv (O.call call102 (args1 rfl) (rnumber_spec _ p _ _ hl) ?_)))))
 rintro v_15 w1 ⟨nv15, knv15, okv15, rfl, hcv15, e1⟩
 have z1 := e1.size
 refine O.mv (O.extract rfl rfl (O.extract rfl rfl (O.extract rfl rfl (O.asg (O.asg (O.asg (K2 (C.sq fun K3 => C.sr fun K4 => O.mv (O.not rfl (K4 (C.cond rfl (fun c20 => ?_) (fun c20 => ?_))))))))))))
 ·
  have hno : Bt.ReadRes p [] false := by
   rcases hcv15 with ⟨q, _⟩ | ⟨_, q⟩
   ·rw [q] at c20; cases c20
   ·exact Bt.rres_num q (by omega)
  refine C.sr fun K5 => O.asg (O.asg (K5 (C.ret (Outs.two rfl rfl rfl ?_))))
  exact ⟨_, [], false, rfl, Sl.nil _ _ _, (fun x hx => by cases hx), hno, e1⟩
 have hs15 : Cn.SegN nv15 p 0 knv15 := by
  rcases hcv15 with ⟨_, q⟩ | ⟨q, _⟩
  ·exact q
  ·rw [q] at c20; cases c20
 have hk15 := hs15.2.2
 refine C.skip (K3 (C.sr fun K6 => O.mv (O.mv ?_)))
 have hb23 := Sl.sub (P := prog) (knv15) (p.length) U30 Z5 (by rfl) (hl.keep e1) (by omega) (Nat.le_refl _)
 obtain ⟨v23, hs23, hr23⟩ := hb23
 refine O.subR rfl hr23 (.inr ⟨_, _, rfl, rfl⟩) (.inl ⟨rfl, rfl⟩) ?_
 rw [List.take_length] at hs23
 refine O.asg (K6 (C.sr fun K7 => O.asg (K7 (C.sq fun K8 => C.bl fun K9 => ?_))))
 refine C.loop0 (σ := Value × Nat × Value × Nat × List EntR × List EntT × Nat) (fun f0 w0 ⟨pv, k, o, gl, rr, es, hi⟩ f wz => f 0 = pv ∧ f 4 = .int .u64 ((BitVec.ofNat 64 (nv15.toNat - es.length)).toNat : Int) ∧ f 7 = o ∧ Le w wz ∧ Sl byteE wz F pv (p.drop k) ∧ OG entF 50 wz o gl (rr) ∧ EntL wz (fun j => w.heap.size ≤ j ∧ j < hi ∧ j ≠ gl) rr es ∧ (k ≤ p.length ∧ es.length ≤ nv15.toNat) ∧ (∀ j, bk o j → w.heap.size ≤ j) ∧ hi ≤ wz.heap.size ∧ Bt.Big es ∧ Cn.manyQ Bt.refQ es ∧ Cn.Seg (es.flatMap Bt.entB) p knv15 k) (fun ⟨pv, k, o, gl, rr, es, hi⟩ => nv15.toNat - es.length) (v23, knv15, .slice none 0 0, 0, [], [], 0) ?_ ?_
 ·
  refine ⟨rfl, (Eq.trans rfl (congrArg (fun q : BitVec 64 => Value.int .u64 (q.toNat : Int)) (by simp))), rfl, e1, hs23, (OG.nil (by omega)), EntL.nil, ?_⟩
  exact ⟨⟨by omega, Nat.zero_le _⟩, fun _ h => h.elim, Nat.zero_le _, (fun x hx => by cases hx), Cn.manyQ_nil, Cn.Seg.nil hk15⟩
 rintro ⟨pv, k, o, gl, rr, es, hi⟩ f_1 w2 ⟨s0_1, s4_1, s7_1, e_1, r0_1, r1_1, r2_1, ⟨⟨hkc, hjn⟩, hob, hhi, hBs, hQ, hS⟩⟩
 have z_1 := e_1.size
 have hogl := (r1_1).2.2
 have hogu := (r1_1).2.1
 have hrx := (r2_1).1
 have hln := Cn.seg_len Bt.entB_ge hS
 have hNl := nv15.isLt
 have hN3 := hS.2.2
 have sp2_ : ∃ n, n = w2.heap.size := ⟨_, rfl⟩
 obtain ⟨w0_, hw0_⟩ := sp2_
 refine C.sq fun K10 => C.sr fun K11 => O.mv (O.gtrU (m := 64) (b := 0#64) s4_1 rfl (K11 (C.condD rfl (fun c25 => ?_) (fun c25 => ?_))))
 ·
  have hj2 : es.length < nv15.toNat := by have q := (Cn.pos_ofNat (m := nv15.toNat - es.length) (by omega)).1 c25; omega
  refine C.skip (K10 (C.sq fun K12 => C.bl fun K13 => C.sr fun K14 => O.mv (O.call call102 (args1 s0_1) (rnumber_spec _ (p.drop k) _ _ r0_1) ?_)))
  rintro v_30 w3 ⟨nv30, knv30, okv30, rfl, hcv30, e3⟩
  have z3 := e3.size
  refine O.mv (O.extract rfl rfl (O.extract rfl rfl (O.extract rfl rfl (O.asg (O.asg (O.asg (K14 (C.sq fun K15 => C.sr fun K16 => O.mv (O.not rfl (O.mv (O.split (x := .tmp 36) rfl (fun c36 => ?_) (fun c36 => ?_))))))))))))
  ·
   have hno : Bt.ReadRes p [] false := by
    rcases hcv30 with ⟨q, _⟩ | ⟨_, q⟩
    ·rw [q] at c36; cases c36
    ·exact Bt.rres_ent hs15 hS hQ hj2 (Bt.no_refQ1 (Bt.no_strA (Bt.numA_drop q) (by omega)))
   refine O.no rfl (noB (isT' rfl c36) rfl) (O.no rfl (noB (isT' rfl c36) rfl) (O.no rfl (noB (isT' rfl c36) rfl) (O.no rfl (noB (isT' rfl c36) rfl) (O.no rfl (noB (isT' rfl c36) rfl) (O.no rfl (noB (isT' rfl c36) rfl) (O.no rfl (noB (isT' rfl c36) rfl) (O.pickT (isT' rfl c36) (K16 (C.condT rfl (C.sr fun K17 => O.asg (O.asg (K17 (C.ret (Outs.two rfl rfl rfl ?_))))))))))))))
   exact ⟨_, [], false, rfl, Sl.nil _ _ _, (fun x hx => by cases hx), hno, (Ext.trans e_1 e3)⟩
  have hs30 : Cn.SegN nv30 (p.drop k) 0 knv30 := by
   rcases hcv30 with ⟨_, q⟩ | ⟨q, _⟩
   ·exact q
   ·rw [q] at c36; cases c36
  have hk30 := hs30.2.2
  have hld : (p.drop k).length = p.length - k := List.length_drop ..
  have hs31 : Cn.SegN nv30 p k (k + knv30) := Bt.seg_drop hs30 hkc
  refine O.yes rfl (isF' rfl c36) (O.mv (O.yes rfl (isF' rfl c36) (O.mv (O.yes rfl (isF' rfl c36) (O.len U30 s0_1 (r0_1.keep e3) (O.yes rfl (isF' rfl c36) (O.mv (O.yes rfl (isF' rfl c36) (O.subI rfl rfl (by unfold InI; omega) (O.cast (v' := .int .i64 (((p.drop k).length - knv30 : Nat) : Int)) (congrArg (Value.int .i64) (by omega)) (O.yes rfl (isF' rfl c36) (O.convIU (m' := 64) U3 U110 rfl rfl rfl (O.yes rfl (isF' rfl c36) (O.gtrU (m := 64) rfl rfl (O.pickF (isF' rfl c36) (K16 (C.condD rfl (fun c44 => ?_) (fun c44 => ?_))))))))))))))))))
  ·
   have hn9 : p.length - (k + knv30) < nv30.toNat := by
    have q := BitVec.lt_def.1 c44
    rw [BitVec.toNat_ofInt] at q
    omega
   have hno : Bt.ReadRes p [] false := Bt.rres_ent hs15 hS hQ hj2 (Bt.no_refQ1 (Bt.no_strB hs31 hn9))
   refine C.sr fun K18 => O.asg (O.asg (K18 (C.ret (Outs.two rfl rfl rfl ?_))))
   exact ⟨_, [], false, rfl, Sl.nil _ _ _, (fun x hx => by cases hx), hno, (Ext.trans e_1 e3)⟩
  have hn8 : nv30.toNat ≤ p.length - (k + knv30) := by
   have q := mt BitVec.lt_def.2 c44
   rw [BitVec.toNat_ofInt] at q
   omega
  refine C.skip (K15 (C.sr fun K19 => O.mv (O.mv (O.mv (O.mv (O.convU64I U110 U3 rfl (O.cast (v' := .int .i64 (nv30.toNat : Int)) (congrArg (Value.int .i64) (by rw [BitVec.toInt_eq_toNat_cond, if_pos (by omega)])) (O.addI rfl rfl (by unfold InI; omega) (O.cast (v' := .int .i64 ((knv30 + nv30.toNat : Nat) : Int)) (congrArg (Value.int .i64) (by omega)) ?_)))))))))
  have hb51 := Sl.sub (P := prog) (knv30) (knv30 + nv30.toNat) U30 Z5 (by rfl) (r0_1.keep e3) (by omega) (by omega)
  obtain ⟨v51, hs51, hr51⟩ := hb51
  refine O.subR s0_1 hr51 (.inr ⟨_, _, rfl, rfl⟩) (.inr ⟨_, _, rfl, rfl⟩) ?_
  have sp3_ : ∃ s : List UInt8, s = (p.drop (k + knv30)).take nv30.toNat := ⟨_, rfl⟩
  obtain ⟨s9, hs9⟩ := sp3_
  have hs51b : ((p.drop k).take (knv30 + nv30.toNat)).drop knv30 = s9 := by rw [hs9, List.drop_take, List.drop_drop, Nat.add_sub_cancel_left]
  rw [hs51b] at hs51
  have hsl9 : s9.length = nv30.toNat := by rw [hs9, List.length_take, List.length_drop]; omega
  have hs32 : Cn.Seg (Cn.strB s9) p k (k + knv30 + nv30.toNat) := by rw [hs9]; exact Cn.seg_str hs31 hn8
  have sp4_ : ∃ q, q = k + knv30 + nv30.toNat := ⟨_, rfl⟩
  obtain ⟨k2, hk2⟩ := sp4_
  rw [← hk2] at hs32
  have hk2l := hs32.2.2
  refine O.bytesS U30 U5 U9 rfl hs51 (O.asg (K19 (C.sr fun K20 => O.mv (O.mv (O.mv (O.convU64I U110 U3 rfl (O.cast (v' := .int .i64 (nv30.toNat : Int)) (congrArg (Value.int .i64) (by rw [BitVec.toInt_eq_toNat_cond, if_pos (by omega)])) (O.addI rfl rfl (by unfold InI; omega) (O.cast (v' := .int .i64 ((knv30 + nv30.toNat : Nat) : Int)) (congrArg (Value.int .i64) (by omega)) ?_)))))))))
  have hb58 := Sl.sub (P := prog) (knv30 + nv30.toNat) ((p.drop k).length) U30 Z5 (by rfl) (r0_1.keep e3) (by omega) (Nat.le_refl _)
  obtain ⟨v58, hs58, hr58⟩ := hb58
  refine O.subR s0_1 hr58 (.inr ⟨_, _, rfl, rfl⟩) (.inl ⟨rfl, rfl⟩) ?_
  rw [List.take_length, List.drop_drop, show k + (knv30 + nv30.toNat) = k2 by omega] at hs58
  have hv58 := hs58.slv
  obtain ⟨p58, hv58⟩ := hv58
  subst hv58
  refine O.asg (K20 (C.sr fun K21 => O.mv (O.call call103 (args1 rfl) (xprefix_spec p58 (p.drop k2) _ _ hs58 (by rw [List.length_drop]; omega) (fun j hj => by have q1 := hF j hj; omega)) ?_)))
  rintro v_61 w4 ⟨vav61, vbv61, vcv61, cv61, knv61, fv61, rfl, hxv61, hyv61, hzv61, hgv61, hrv61, e4⟩
  have z4 := e4.size
  have q1 := hxv61.slv
  obtain ⟨p1, q1⟩ := q1
  subst q1
  have q2 := hyv61.slv
  obtain ⟨p2, q2⟩ := q2
  subst q2
  have q3 := hzv61.slv
  obtain ⟨p3, q3⟩ := q3
  subst q3
  have sp5_ : ∃ n, n = w4.heap.size := ⟨_, rfl⟩
  obtain ⟨wa, hwa⟩ := sp5_
  have hca61 : CartAt w4 (fun j => w0_ ≤ j ∧ j < wa) ((p1, p2), p3) cv61 := ⟨hxv61.weakA, hyv61.weakA, hzv61.weakA⟩
  refine O.mv (O.extract rfl rfl (O.extract rfl rfl (O.extract rfl rfl (O.alloc zeroValue47 (fun b12 w5 hb12 hz12 e5 => ?_)))))
  have z5 := e5.size
  have h12 := hz12.own
  have hl12 := h12.lt
  refine O.storeA (vs := [slv p1, slv p2, slv p3]) Z47 rfl rfl rfl (by intro u hu; simp only [List.mem_cons, List.not_mem_nil, or_false] at hu; rcases hu with rfl | rfl | rfl <;> rfl) h12 (leB rfl) (fun w6 hs6 e6 z6 => O.asg (O.asg (K21 (C.sq fun K22 => C.sr fun K23 => O.mv (O.not rfl (K23 (C.cond rfl (fun c66 => ?_) (fun c66 => ?_))))))))
  ·
   have hno : Bt.ReadRes p [] false := by
    rcases hrv61 with ⟨q, _⟩ | ⟨_, _, _, q⟩
    ·rw [q] at c66; cases c66
    ·exact Bt.rres_ent hs15 hS hQ hj2 (Bt.no_refQ2 hs32 (Bt.no_drop q))
   refine C.sr fun K24 => O.asg (O.asg (K24 (C.ret (Outs.two rfl rfl rfl ?_))))
   exact ⟨_, [], false, rfl, Sl.nil _ _ _, (fun x hx => by cases hx), hno, (Ext.nr (Ext.trans (Ext.trans (Ext.trans e_1 e3) e4) e5) e6)⟩
  have sp6_ : Cn.cartR cv61 ∧ Cn.Seg (Cn.bytes cv61) (p.drop k2) 0 knv61 := by
   rcases hrv61 with ⟨_, q, q2⟩ | ⟨q, _⟩
   ·exact ⟨q, q2⟩
   ·rw [q] at c66; cases c66
  obtain ⟨hcR, hs61⟩ := sp6_
  have hk61 := hs61.2.2
  have hs62 := Bt.seg_drop hs61 hk2l
  refine C.skip (K22 (C.sr fun K25 => O.mv (O.mv ?_)))
  have hb69 := Sl.sub (P := prog) (knv61) ((p.drop k2).length) U30 Z5 (by rfl) (((hs58.keep e4).keep e5).keepA e6) hk61 (Nat.le_refl _)
  obtain ⟨v69, hs69, hr69⟩ := hb69
  refine O.subR rfl hr69 (.inr ⟨_, _, rfl, rfl⟩) (.inl ⟨rfl, rfl⟩) ?_
  rw [List.take_length, List.drop_drop] at hs69
  refine O.asg (K25 (C.region (O.mv (O.mv (O.loadOA isAgg47 Z47 rfl hs6 (leB rfl) (O.build (cells := #[str s9, slv p1, slv p2, slv p3]) rfl (by kernel_rfl) (O.litG (G := entF) [(s9, (p1, p2), p3)] U22 ti50 ts50 tz50 rfl (by decide) (by decide) rfl (fun b74 w7 hb74 hz74 e7 => ?_))))))))
  have z7 := e7.size
  have h74 := hz74.own
  have hq74 := Sl.litG (n := 1) h74 rfl (by unfold maxLen; omega)
  have t0 := ((r1_1.keep e3).keep e4).keep e5
  refine O.appG (G := entF) U22 ti50 tz50 ts50 rfl s7_1 rfl ((t0.keepA e6).keep e7) hq74 (by rw [tb50]; simp; omega) (by unfold maxLen; simp; omega) (fun v75 gg75 w8 h75 hg75 e8 hw75 => ?_)
  have e8m := e8.mono (M' := fun k => k = _) (fun k _ hk => ((t0.keepA e6).keep e7).2.1 k hk)
  have z8 := e8.size
  have hgl75 := h75.2.2
  have hob75 : ∀ k, bk v75 k → w.heap.size ≤ k := fun k hk => by
   rcases hw75 k hk with q | q
   ·exact hob k q
   ·omega
  have hg75 : w.heap.size ≤ gg75 := hob75 _ (h75.bk (by simp))
  have hgg75 := (hw75 _ (h75.bk (by simp))).imp (hogu _) id
  refine O.asg (O.nil (K13 (K12 (C.region (O.mv (O.subU (m := 64) (b := 1#64) rfl rfl s4_1 rfl (O.asg (O.nil ?_))))))))
  refine ⟨(v69, k2 + knv61, v75, gg75, rr ++ [(s9, (p1, p2), p3)], es ++ [(s9, cv61)], wa), ⟨rfl, (Eq.trans rfl (congrArg (fun q : BitVec 64 => Value.int .u64 (q.toNat : Int)) (by rw [Cn.dec_ofNat (by omega) (by omega), List.length_append]; rfl))), rfl, (Ext.new (Ext.trans (Ext.nr (Ext.trans (Ext.trans (Ext.trans e_1 e3) e4) e5) e6) e7) e8 (by intro i hi h; have := hob i h; omega)), ((hs69.keep e7).keepM e8 (by intro j hj h; have q2 := hob j h; have q3 := hogu j h; first | (have q1 := hF j hj; omega) | ((try dsimp only at hj); omega))), h75, (show EntL _ (fun j => w.heap.size ≤ j ∧ j < wa ∧ j ≠ gg75) (rr ++ [(s9, (p1, p2), p3)]) (es ++ [(s9, cv61)]) from ((((((((r2_1.keep e3).keep e4).keep e5).keepA e6).keep e7).keepM e8 (by intro j hj h; exact hj.2.2 (hogu j h)))).weakA).snoc rfl ((((((hca61.keep e5).keepA e6).keep e7).keepM e8 (by intro j hj h; have q3 := hogu j h; (try dsimp only at hj); omega))).weakA)), ?_⟩, by show nv15.toNat - (es ++ [_]).length < nv15.toNat - es.length; rw [List.length_append]; show nv15.toNat - (es.length + 1) < _; omega⟩
  exact ⟨⟨hs62.2.2, by rw [List.length_append]; exact hj2⟩, hob75, by omega, Bt.Big.snoc hBs ⟨by show s9.length ≤ 1000000; omega, hgv61⟩, Cn.manyQ_snoc hQ ⟨trivial, hcR⟩, hS.snoc (Bt.seg_ent hs32 hs62)⟩
 have hj3 : es.length = nv15.toNat := by have q := mt (Cn.pos_ofNat (m := nv15.toNat - es.length) (by omega)).2 c25; omega
 refine C.exit (K9 (K8 (C.sr fun K26 => O.mv (O.mv (O.len U30 s0_1 r0_1 (O.eqlI rfl rfl (O.asg (O.asg (K26 (C.ret (Outs.two rfl s7_1 rfl ?_)))))))))))
 first
 | exact ⟨_, [], false, rfl, Sl.nil _ _ _, (fun x hx => by cases hx), hno, e_1⟩
 | (refine ⟨_, es, _, rfl, ?_, hBs, Bt.rres_end hs15 hS hQ hj3, e_1⟩
    have hbk9 := (r1_1).1.bk_ge
    exact ((r2_1).weakA).sl ((r1_1).1.sl.weak (fun j hj => ⟨hob j hj, (hbk9 j hj).2⟩)))
theorem inf41 : ∃ ie, prog.info? 41 = some ie ∧ ie.size = 1 ∧ ie.bytes = 24 ∧ ie.zero = some (.slice none 0 0) := by
 have h : (prog.info? 41).isSome = true := by kernel_rfl
 exact ⟨(prog.info? 41).get h, (Option.some_get h).symm, by kernel_rfl, by kernel_rfl, by kernel_rfl⟩
theorem stain2_spec (p1 p2 p3 : Raw) (ps : List Raw) (F : Nat → Prop) (w : World) (hst : Stn 112 117 114 w F p1 p2 p3 ps 1000000) (hF : ∀ j, F j → j < w.heap.size) (hp3 : p3.2.1 ≤ 1000000) :
 Ret prog 56 #[.agg #[slv p1, slv p2, slv p3]] w (fun v w' => v = .tuple #[] ∧ Ext (fun j => F j ∨ w.heap.size ≤ j) w w') := by
 obtain ⟨ie41, ti41, ts41, tb41, tz41⟩ := inf41
 have sp1_ : ∃ K, K = 1000000 := ⟨_, rfl⟩
 obtain ⟨K, hKe⟩ := sp1_
 rw [← hKe] at hst
 have hmx : maxLen = 9223372036854775807 := rfl
 refine enT [.agg #[slv p1, slv p2, slv p3]] 77 func56 rfl rfl (C.sr fun K1 => O.box (v := .agg #[slv p1, slv p2, slv p3]) rfl (fun b1 w1 hb1 hz1 e1 => ?_))
 have z1 := e1.size
 have h1 := hz1.own
 have hl1 := h1.lt
 refine K1 (C.sq fun K2 => C.sr fun K3 => O.fa U47 rfl Z44 rfl (O.fa U44 rfl Z42 rfl (O.loadO isAgg42 rfl h1 rfl (O.fa U47 rfl Z44 rfl (O.fa U44 rfl Z41 rfl (O.loadO isAgg41 rfl h1 rfl (O.litn [slv p1, slv p2] underlying142 ti41 ts41 tz41 rfl (by decide) (by decide) rfl (by intro u hu; simp only [List.mem_cons, List.not_mem_nil, or_false] at hu; rcases hu with rfl | rfl <;> rfl) (fun b13 w2 hb13 hz13 e2 => ?_))))))))
 have z2 := e2.size
 have h13 := hz13.own
 have hl13 := h13.lt
 refine O.lenL underlying142 rfl (O.mv (K3 (C.bl fun K4 => C.loop0 (σ := Nat) (fun f0 w0 i f wz => f 15 = .int .i64 ((i : Int)) ∧ f 1 = f0 1 ∧ f 13 = f0 13 ∧ f 14 = f0 14 ∧ Ext (fun j => F j ∨ w.heap.size ≤ j) w wz ∧ Own wz b1 47 [slv p1, slv p2, slv p3] ∧ Stn 112 117 114 wz F p1 p2 p3 ps (K) ∧ Own wz b13 41 [slv p1, slv p2] ∧ i ≤ 2) (fun i => 2 - i) 0 ?_ ?_)))
 ·
  refine ⟨rfl, rfl, rfl, rfl, (Ext.new (Ext.new (Ext.refl _ _) e1 (by intro i hi hk; first | exact hk.elim | exact .inl hk | exact hk | (exfalso; omega) | ((try dsimp only at hk); (try dsimp only); omega))) e2 (by intro i hi hk; first | exact hk.elim | exact .inl hk | exact hk | (exfalso; omega) | ((try dsimp only at hk); (try dsimp only); omega))), (h1.keep e2), ((hst.keep e1).keep e2), h13, ?_⟩
  exact Nat.zero_le _
 rintro i f_1 w3 ⟨s15_1, s1_1, s13_1, s14_1, e_1, r0_1, r1_1, r2_1, hi⟩
 have z_1 := e_1.size
 refine C.sr fun K5 => O.lssI s15_1 s14_1 (K5 (C.sq fun K6 => C.condD rfl (fun c16 => ?_) (fun c16 => ?_)))
 ·
  have sp2_ : ∃ q, [slv p1, slv p2][i]? = some (slv q) ∧ (q = p1 ∨ q = p2) := by
   match i, (show i < 2 by omega) with
   | 0, _ => exact ⟨p1, rfl, .inl rfl⟩
   | 1, _ => exact ⟨p2, rfl, .inr rfl⟩
  obtain ⟨q, hqv, hq⟩ := sp2_
  refine C.skip (K6 (C.sq fun K7 => C.bl fun K8 => C.sr fun K9 => O.idxO underlying142 Z41 s13_1 s15_1 (by omega) (O.loadO isAgg41 rfl r2_1 (show [slv p1, slv p2][0 + Int.toNat (i : Int) * 1]? = some (slv q) by simpa using hqv) (O.asg (K9 (C.sr fun K10 => O.asg (K10 (C.bl fun K11 => C.loop0 (σ := Nat) (fun f0 w0 j f wz => f 4 = .int .i64 ((j : Int)) ∧ f 1 = f0 1 ∧ f 3 = f0 3 ∧ f 13 = f0 13 ∧ f 14 = f0 14 ∧ f 15 = f0 15 ∧ Ext (fun j => F j ∨ w.heap.size ≤ j) w wz ∧ Own wz b1 47 [slv p1, slv p2, slv p3] ∧ Stn 112 117 114 wz F p1 p2 p3 ps (K) ∧ Own wz b13 41 [slv p1, slv p2] ∧ j ≤ maxLen) (fun j => q.2.1 - j) 0 ?_ ?_))))))))
  ·
   refine ⟨rfl, rfl, rfl, rfl, rfl, rfl, (Ext.new (Ext.refl _ _) e_1 (by intro i hi hk; first | exact hk.elim | exact .inl hk | exact hk | (exfalso; omega) | ((try dsimp only at hk); (try dsimp only); omega))), r0_1, r1_1, r2_1, ?_⟩
   exact Nat.zero_le _
  rintro j f_2 w4 ⟨s4_2, s1_2, s3_2, s13_2, s14_2, s15_2, e_2, r0_2, r1_2, r2_2, hj⟩
  have z_2 := e_2.size
  refine C.sq fun K12 => C.sr fun K13 => O.mv (O.mv (O.lenL U41 s3_2 (O.lssI s4_2 rfl (K13 (C.condD rfl (fun c22 => ?_) (fun c22 => ?_))))))
  ·
   have sp3_ := (r1_2).dots hq
   obtain ⟨xs, hx⟩ := sp3_
   have hxl := hx.len
   have hxm := hx.1.2
   have hxw := hx.1
   refine C.skip (K12 (C.sq fun K14 => C.bl fun K15 => C.region (O.mv (O.mv ?_))))
   have sp4_ := OwnF.ptr hxw (by omega)
   obtain ⟨g27, cap27, hv27⟩ := sp4_
   have ho27 := hxw
   rw [hv27] at ho27
   refine O.idxO U41 Z112 (Eq.trans s3_2 hv27) s4_2 (by omega) (O.fa U112 rfl Z3 rfl (O.loadC (G := Dt.dotF) (i := j) (off := 1) (by simp [Dt.dotF]) isAgg3 rfl ho27 (by omega) rfl (O.addW rfl rfl ?_)))
   have sp5_ := OwnF.ptr hxw (by omega)
   obtain ⟨g31, cap31, hv31⟩ := sp5_
   have ho31 := hxw
   rw [hv31] at ho31
   refine O.idxO U41 Z112 (Eq.trans s3_2 hv31) s4_2 (by omega) (O.fa U112 rfl Z3 rfl (O.storeS (G := Dt.dotF) (i := j) (off := 1) (by simp [Dt.dotF]) Z3 rfl rfl rfl ho31 (by omega) (by decide) (fun w5 cr5 hg5 hw5 e5 z5 => ?_)))
   have hFg31 : F g31 := (hx.2 g31 (by rw [hv31]; rfl))
   have hC31 := hF g31 hFg31
   replace e5 : Ext F w4 w5 := e5.mono (fun k _ hk => by have h0 : k = g31 := hk; subst h0; exact hFg31)
   have hste5 : Stn 112 117 114 w5 F p1 p2 p3 ps (K) := by rw [hw5]; exact (r1_2).setD (by decide) (by decide) hg5
   refine O.nil (K15 (K14 (C.region (O.mv (O.addI s4_2 rfl (by unfold InI; omega) (O.asg (O.nil (⟨(j + 1), ⟨rfl, s1_2, s3_2, s13_2, s14_2, s15_2, (Ext.new (Ext.new (Ext.refl _ _) e_2 (by intro i hi hk; first | exact hk.elim | exact .inl hk | exact hk | (exfalso; omega) | ((try dsimp only at hk); (try dsimp only); omega))) e5 (by intro i hi hk; first | exact hk.elim | exact .inl hk | exact hk | (exfalso; omega) | ((try dsimp only at hk); (try dsimp only); omega))), (r0_2.keepM e5 (by intro h; have q9 := hF _ h; omega)), hste5, (r2_2.keepM e5 (by intro h; have q9 := hF _ h; omega)), ?_⟩, by first | omega | (simp only []; omega)⟩))))))))
   omega
  refine C.exit (K11 (K8 (K7 (C.region (O.addI (Eq.trans s15_2 s15_1) rfl (by unfold InI; omega) (O.mv (O.nil (⟨(i + 1), ⟨rfl, (Eq.trans s1_2 s1_1), (Eq.trans s13_2 s13_1), (Eq.trans s14_2 s14_1), (Ext.new (Ext.refl _ _) e_2 (by intro i hi hk; first | exact hk.elim | exact .inl hk | exact hk | (exfalso; omega) | ((try dsimp only at hk); (try dsimp only); omega))), r0_2, r1_2, r2_2, ?_⟩, by first | omega | (simp only []; omega)⟩))))))))
  omega
 refine C.exit (K4 (K2 (C.sr fun K16 => O.asg (K16 (C.bl fun K17 => C.loop0 (σ := Nat) (fun f0 w0 i f wz => f 5 = .int .i64 ((i : Int)) ∧ f 1 = f0 1 ∧ Ext (fun j => F j ∨ w.heap.size ≤ j) w wz ∧ Own wz b1 47 [slv p1, slv p2, slv p3] ∧ Stn 112 117 114 wz F p1 p2 p3 ps (K + i) ∧ i ≤ p3.2.1) (fun i => p3.2.1 - i) 0 ?_ ?_)))))
 ·
  refine ⟨rfl, rfl, (Ext.new (Ext.refl _ _) e_1 (by intro i hi hk; first | exact hk.elim | exact .inl hk | exact hk | (exfalso; omega) | ((try dsimp only at hk); (try dsimp only); omega))), r0_1, r1_1, ?_⟩
  exact Nat.zero_le _
 rintro i f_3 w6 ⟨s5_3, s1_3, e_3, r0_3, r1_3, hi⟩
 have z_3 := e_3.size
 refine C.sq fun K18 => C.sr fun K19 => O.mv (O.fa U47 rfl Z45 (Eq.trans s1_3 s1_1) (O.loadO isAgg45 rfl r0_3 rfl (O.lenL U45 rfl (O.lssI s5_3 rfl (K19 (C.condD rfl (fun c38 => ?_) (fun c38 => ?_)))))))
 ·
  refine C.skip (K18 (C.sq fun K20 => C.bl fun K21 => C.sq fun K22 => C.sr fun K23 => O.asg (K23 (C.bl fun K24 => C.loop0 (σ := Nat) (fun f0 w0 j f wz => f 6 = .int .i64 ((j : Int)) ∧ f 1 = f0 1 ∧ f 5 = f0 5 ∧ Ext (fun j => F j ∨ w.heap.size ≤ j) w wz ∧ Own wz b1 47 [slv p1, slv p2, slv p3] ∧ Stn 112 117 114 wz F p1 p2 p3 ps (K + i) ∧ j ≤ maxLen) (fun j => maxLen - j) 0 ?_ ?_))))
  ·
   refine ⟨rfl, rfl, rfl, (Ext.new (Ext.refl _ _) e_3 (by intro i hi hk; first | exact hk.elim | exact .inl hk | exact hk | (exfalso; omega) | ((try dsimp only at hk); (try dsimp only); omega))), r0_3, r1_3, ?_⟩
   exact Nat.zero_le _
  rintro j f_4 w7 ⟨s6_4, s1_4, s5_4, e_4, r0_4, r1_4, hj⟩
  have z_4 := e_4.size
  have sp6_ := (r1_4).d3
  obtain ⟨raw, hraw, hps, hK⟩ := sp6_
  have hrl := hraw.len
  have hi2 : i < raw.length := by omega
  have hrw := hraw.1
  have sp7_ := (r1_4).m raw[i].2 (by rw [← hps]; exact List.mem_map.2 ⟨_, List.getElem_mem hi2, rfl⟩)
  obtain ⟨ms, hms⟩ := sp7_
  have hml := hms.len
  have hmw := hms.1
  have hmm := hms.1.2
  refine C.sq fun K25 => C.sr fun K26 => O.mv (O.fa U47 rfl Z45 (Eq.trans s1_4 (Eq.trans s1_3 s1_1)) (O.loadO isAgg45 rfl r0_4 rfl (O.mv ?_)))
  have sp8_ := OwnF.ptr hrw (by omega)
  obtain ⟨g45, cap45, hv45⟩ := sp8_
  have ho45 := hrw
  rw [hv45] at ho45
  refine O.idxO U45 Z117 (Eq.trans rfl hv45) (Eq.trans s5_4 s5_3) (by omega) (O.fa U117 rfl Z115 rfl (O.loadC (G := itemF) (i := i) (off := 1) (by simp [itemF]) isAgg115 rfl ho45 (by omega) rfl (O.lenL U115 rfl (O.lssI s6_4 rfl (K26 (C.condD rfl (fun c49 => ?_) (fun c49 => ?_)))))))
  ·
   refine C.skip (K25 (C.sq fun K27 => C.bl fun K28 => C.region (O.fa U47 rfl Z45 (Eq.trans s1_4 (Eq.trans s1_3 s1_1)) (O.loadO isAgg45 rfl r0_4 rfl (O.mv ?_)))))
   have sp9_ := OwnF.ptr hrw (by omega)
   obtain ⟨g55, cap55, hv55⟩ := sp9_
   have ho55 := hrw
   rw [hv55] at ho55
   refine O.idxO U45 Z117 (Eq.trans rfl hv55) (Eq.trans s5_4 s5_3) (by omega) (O.fa U117 rfl Z115 rfl (O.loadC (G := itemF) (i := i) (off := 1) (by simp [itemF]) isAgg115 rfl ho55 (by omega) rfl (O.mv ?_)))
   have sp10_ := OwnF.ptr hmw (by omega)
   obtain ⟨g59, cap59, hv59⟩ := sp10_
   have ho59 := hmw
   rw [hv59] at ho59
   refine O.idxO U115 Z114 (Eq.trans rfl hv59) s6_4 (by omega) (O.fa U114 rfl Z3 rfl (O.loadC (G := markF) (i := j) (off := 2) (by simp [markF]) isAgg3 rfl ho59 (by omega) rfl (O.addW rfl rfl ?_)))
   have sp11_ := OwnF.ptr hmw (by omega)
   obtain ⟨g63, cap63, hv63⟩ := sp11_
   have ho63 := hmw
   rw [hv63] at ho63
   refine O.idxO U115 Z114 (Eq.trans rfl hv63) s6_4 (by omega) (O.fa U114 rfl Z3 rfl (O.storeS (G := markF) (i := j) (off := 2) (by simp [markF]) Z3 rfl rfl rfl ho63 (by omega) (by decide) (fun w8 cr8 hg8 hw8 e8 z8 => ?_)))
   have hFg63 : F g63 := (hms.2 g63 (by rw [hv63]; rfl))
   have hC63 := hF g63 hFg63
   replace e8 : Ext F w7 w8 := e8.mono (fun k _ hk => by have h0 : k = g63 := hk; subst h0; exact hFg63)
   have hste8 : Stn 112 117 114 w8 F p1 p2 p3 ps (K + i) := by rw [hw8]; exact (r1_4).setM (by decide) (by decide) hg8
   refine O.nil (K28 (K27 (C.region (O.mv (O.addI s6_4 rfl (by unfold InI; omega) (O.asg (O.nil (⟨(j + 1), ⟨rfl, s1_4, s5_4, (Ext.new (Ext.new (Ext.refl _ _) e_4 (by intro i hi hk; first | exact hk.elim | exact .inl hk | exact hk | (exfalso; omega) | ((try dsimp only at hk); (try dsimp only); omega))) e8 (by intro i hi hk; first | exact hk.elim | exact .inl hk | exact hk | (exfalso; omega) | ((try dsimp only at hk); (try dsimp only); omega))), (r0_4.keepM e8 (by intro h; have q9 := hF _ h; omega)), hste8, ?_⟩, by first | omega | (simp only []; omega)⟩))))))))
   omega
  refine C.exit (K24 (K22 (C.drawB (wB := (bare w7)) (by kernel_rfl) fun w9 e9 => ?_)))
  have z9 := e9.size
  refine D.t 0 rfl (Ext.bare (Ext.nt (Ext.refl (fun _ => True) _) e9)) (fun _ _ _ hN => O.fa U47 rfl Z45 (Eq.trans s1_4 (Eq.trans s1_3 s1_1)) (O.nil hN)) (D.mv 2 rfl (Ext.bare (Ext.nt (Ext.refl (fun _ => True) _) e9)) (D.t 3 rfl (Ext.bare (Ext.nt (Ext.refl (fun _ => True) _) e9)) (fun _ _ _ hN => O.fa U47 rfl Z45 (Eq.trans s1_4 (Eq.trans s1_3 s1_1)) (O.nil hN)) (D.mv 5 rfl (Ext.bare (Ext.nt (Ext.refl (fun _ => True) _) e9)) (D.many [1, 4] (by kernel_rfl) (by decide) ⟨?_, ?_, trivial⟩))))
  ·
   refine D.stepU rfl rfl (O.loadO isAgg45 rfl (r0_4.keep e9) rfl (O.nil ⟨(Ext.bare (Ext.nt (Ext.refl (fun _ => True) _) e9)), D.on 4 rfl rfl (O.loadO isAgg45 rfl (r0_4.keep e9) rfl (O.nil ⟨(Ext.bare (Ext.nt (Ext.refl (fun _ => True) _) e9)), ?_⟩))⟩))
   have sp12_ := OwnF.ptr (hrw.keep e9) (by omega)
   obtain ⟨g71, cap71, hv71⟩ := sp12_
   have ho71 := (hrw.keep e9)
   rw [hv71] at ho71
   refine D.t 6 rfl (Ext.bare (Ext.nt (Ext.refl (fun _ => True) _) e9)) (fun _ _ _ hN => O.idxO U45 Z117 (Eq.trans rfl hv71) (Eq.trans s5_4 s5_3) (by omega) (O.nil hN)) (D.t 7 rfl (Ext.bare (Ext.nt (Ext.refl (fun _ => True) _) e9)) (fun _ _ _ hN => O.fa U117 rfl Z9 rfl (O.nil hN)) (D.on 8 rfl rfl (O.loadC (G := itemF) (i := i) (off := 0) (by simp [itemF]) isAgg9 rfl ho71 (by omega) rfl (O.nil ⟨(Ext.bare (Ext.nt (Ext.refl (fun _ => True) _) e9)), ?_⟩))))
   refine D.t 9 rfl (Ext.bare (Ext.nt (Ext.refl (fun _ => True) _) e9)) (fun _ _ _ hN => O.addS rfl rfl (by have q9 := hK raw[i] (List.getElem_mem hi2); show raw[i].1.length + 1 ≤ _; omega) (O.nil hN)) ?_
   have sp13_ := OwnF.ptr (hrw.keep e9) (by omega)
   obtain ⟨g75, cap75, hv75⟩ := sp13_
   have ho75 := (hrw.keep e9)
   rw [hv75] at ho75
   refine D.t 10 rfl (Ext.bare (Ext.nt (Ext.refl (fun _ => True) _) e9)) (fun _ _ _ hN => O.idxO U45 Z117 (Eq.trans rfl hv75) (Eq.trans s5_4 s5_3) (by omega) (O.nil hN)) (D.t 11 rfl (Ext.bare (Ext.nt (Ext.refl (fun _ => True) _) e9)) (fun _ _ _ hN => O.fa U117 rfl Z9 rfl (O.nil hN)) (D.on 12 rfl rfl (O.storeS (G := itemF) (i := i) (off := 0) (by simp [itemF]) Z9 rfl rfl rfl ho75 (by omega) (by decide) (fun w10 cr10 hg10 hw10 e10 z10 => ?_))))
   have hFg75 : F g75 := (hraw.2 g75 (by rw [hv75]; rfl))
   have hC75 := hF g75 hFg75
   replace e10 : Ext F w9 w10 := e10.mono (fun k _ hk => by have h0 : k = g75 := hk; subst h0; exact hFg75)
   have hste10 : Stn 112 117 114 w10 F p1 p2 p3 ps (K + i + 1) := by rw [hw10]; exact ((r1_4.keep e9)).setN (by decide) (by decide) (by have q9 := hK raw[i] (List.getElem_mem hi2); rw [List.length_append]; show raw[i].1.length + 1 ≤ _; omega) hg10
   refine O.nil ⟨(Ext.bare (Ext.nt (Ext.nt (Ext.refl (fun _ => True) _) e9) e10)), D.dn (K21 (K20 (C.region (O.mv (O.addI (Eq.trans s5_4 s5_3) rfl (by unfold InI; omega) (O.asg (O.nil ?_)))))))⟩
   refine ⟨(i + 1), ⟨rfl, (Eq.trans s1_4 s1_3), (Ext.new (Ext.new (Ext.new (Ext.refl _ _) e_4 (by intro i hi hk; first | exact hk.elim | exact .inl hk | exact hk | (exfalso; omega) | ((try dsimp only at hk); (try dsimp only); omega))) e9 (by intro i hi hk; first | exact hk.elim | exact .inl hk | exact hk | (exfalso; omega) | ((try dsimp only at hk); (try dsimp only); omega))) e10 (by intro i hi hk; first | exact hk.elim | exact .inl hk | exact hk | (exfalso; omega) | ((try dsimp only at hk); (try dsimp only); omega))), ((r0_4.keep e9).keepM e10 (by intro h; have q9 := hF _ h; omega)), hste10, ?_⟩, by first | omega | (simp only []; omega)⟩
   omega
  refine D.stepU rfl rfl (O.loadO isAgg45 rfl (r0_4.keep e9) rfl (O.nil ⟨(Ext.bare (Ext.nt (Ext.refl (fun _ => True) _) e9)), ?_⟩))
  have sp14_ := OwnF.ptr (hrw.keep e9) (by omega)
  obtain ⟨g71, cap71, hv71⟩ := sp14_
  have ho71 := (hrw.keep e9)
  rw [hv71] at ho71
  refine D.t 6 rfl (Ext.bare (Ext.nt (Ext.refl (fun _ => True) _) e9)) (fun _ _ _ hN => O.idxO U45 Z117 (Eq.trans rfl hv71) (Eq.trans s5_4 s5_3) (by omega) (O.nil hN)) (D.t 7 rfl (Ext.bare (Ext.nt (Ext.refl (fun _ => True) _) e9)) (fun _ _ _ hN => O.fa U117 rfl Z9 rfl (O.nil hN)) (D.many [1, 8] (by kernel_rfl) (by decide) ⟨?_, ?_, trivial⟩))
  ·
   refine D.stepU rfl rfl (O.loadO isAgg45 rfl (r0_4.keep e9) rfl (O.nil ⟨(Ext.bare (Ext.nt (Ext.refl (fun _ => True) _) e9)), D.on 8 rfl rfl (O.loadC (G := itemF) (i := i) (off := 0) (by simp [itemF]) isAgg9 rfl ho71 (by omega) rfl (O.nil ⟨(Ext.bare (Ext.nt (Ext.refl (fun _ => True) _) e9)), D.t 9 rfl (Ext.bare (Ext.nt (Ext.refl (fun _ => True) _) e9)) (fun _ _ _ hN => O.addS rfl rfl (by have q9 := hK raw[i] (List.getElem_mem hi2); show raw[i].1.length + 1 ≤ _; omega) (O.nil hN)) ?_⟩))⟩))
   have sp15_ := OwnF.ptr (hrw.keep e9) (by omega)
   obtain ⟨g75, cap75, hv75⟩ := sp15_
   have ho75 := (hrw.keep e9)
   rw [hv75] at ho75
   refine D.t 10 rfl (Ext.bare (Ext.nt (Ext.refl (fun _ => True) _) e9)) (fun _ _ _ hN => O.idxO U45 Z117 (Eq.trans rfl hv75) (Eq.trans s5_4 s5_3) (by omega) (O.nil hN)) (D.t 11 rfl (Ext.bare (Ext.nt (Ext.refl (fun _ => True) _) e9)) (fun _ _ _ hN => O.fa U117 rfl Z9 rfl (O.nil hN)) (D.on 12 rfl rfl (O.storeS (G := itemF) (i := i) (off := 0) (by simp [itemF]) Z9 rfl rfl rfl ho75 (by omega) (by decide) (fun w11 cr11 hg11 hw11 e11 z11 => ?_))))
   have hFg75 : F g75 := (hraw.2 g75 (by rw [hv75]; rfl))
   have hC75 := hF g75 hFg75
   replace e11 : Ext F w9 w11 := e11.mono (fun k _ hk => by have h0 : k = g75 := hk; subst h0; exact hFg75)
   have hste11 : Stn 112 117 114 w11 F p1 p2 p3 ps (K + i + 1) := by rw [hw11]; exact ((r1_4.keep e9)).setN (by decide) (by decide) (by have q9 := hK raw[i] (List.getElem_mem hi2); rw [List.length_append]; show raw[i].1.length + 1 ≤ _; omega) hg11
   refine O.nil ⟨(Ext.bare (Ext.nt (Ext.nt (Ext.refl (fun _ => True) _) e9) e11)), D.dn (K21 (K20 (C.region (O.mv (O.addI (Eq.trans s5_4 s5_3) rfl (by unfold InI; omega) (O.asg (O.nil ?_)))))))⟩
   refine ⟨(i + 1), ⟨rfl, (Eq.trans s1_4 s1_3), (Ext.new (Ext.new (Ext.new (Ext.refl _ _) e_4 (by intro i hi hk; first | exact hk.elim | exact .inl hk | exact hk | (exfalso; omega) | ((try dsimp only at hk); (try dsimp only); omega))) e9 (by intro i hi hk; first | exact hk.elim | exact .inl hk | exact hk | (exfalso; omega) | ((try dsimp only at hk); (try dsimp only); omega))) e11 (by intro i hi hk; first | exact hk.elim | exact .inl hk | exact hk | (exfalso; omega) | ((try dsimp only at hk); (try dsimp only); omega))), ((r0_4.keep e9).keepM e11 (by intro h; have q9 := hF _ h; omega)), hste11, ?_⟩, by first | omega | (simp only []; omega)⟩
   omega
  refine D.stepU rfl rfl (O.loadC (G := itemF) (i := i) (off := 0) (by simp [itemF]) isAgg9 rfl ho71 (by omega) rfl (O.nil ⟨(Ext.bare (Ext.nt (Ext.refl (fun _ => True) _) e9)), D.t 9 rfl (Ext.bare (Ext.nt (Ext.refl (fun _ => True) _) e9)) (fun _ _ _ hN => O.addS rfl rfl (by have q9 := hK raw[i] (List.getElem_mem hi2); show raw[i].1.length + 1 ≤ _; omega) (O.nil hN)) (D.on 1 rfl rfl (O.loadO isAgg45 rfl (r0_4.keep e9) rfl (O.nil ⟨(Ext.bare (Ext.nt (Ext.refl (fun _ => True) _) e9)), ?_⟩)))⟩))
  have sp16_ := OwnF.ptr (hrw.keep e9) (by omega)
  obtain ⟨g75, cap75, hv75⟩ := sp16_
  have ho75 := (hrw.keep e9)
  rw [hv75] at ho75
  refine D.t 10 rfl (Ext.bare (Ext.nt (Ext.refl (fun _ => True) _) e9)) (fun _ _ _ hN => O.idxO U45 Z117 (Eq.trans rfl hv75) (Eq.trans s5_4 s5_3) (by omega) (O.nil hN)) (D.t 11 rfl (Ext.bare (Ext.nt (Ext.refl (fun _ => True) _) e9)) (fun _ _ _ hN => O.fa U117 rfl Z9 rfl (O.nil hN)) (D.on 12 rfl rfl (O.storeS (G := itemF) (i := i) (off := 0) (by simp [itemF]) Z9 rfl rfl rfl ho75 (by omega) (by decide) (fun w12 cr12 hg12 hw12 e12 z12 => ?_))))
  have hFg75 : F g75 := (hraw.2 g75 (by rw [hv75]; rfl))
  have hC75 := hF g75 hFg75
  replace e12 : Ext F w9 w12 := e12.mono (fun k _ hk => by have h0 : k = g75 := hk; subst h0; exact hFg75)
  have hste12 : Stn 112 117 114 w12 F p1 p2 p3 ps (K + i + 1) := by rw [hw12]; exact ((r1_4.keep e9)).setN (by decide) (by decide) (by have q9 := hK raw[i] (List.getElem_mem hi2); rw [List.length_append]; show raw[i].1.length + 1 ≤ _; omega) hg12
  refine O.nil ⟨(Ext.bare (Ext.nt (Ext.nt (Ext.refl (fun _ => True) _) e9) e12)), D.dn (K21 (K20 (C.region (O.mv (O.addI (Eq.trans s5_4 s5_3) rfl (by unfold InI; omega) (O.asg (O.nil ?_)))))))⟩
  refine ⟨(i + 1), ⟨rfl, (Eq.trans s1_4 s1_3), (Ext.new (Ext.new (Ext.new (Ext.refl _ _) e_4 (by intro i hi hk; first | exact hk.elim | exact .inl hk | exact hk | (exfalso; omega) | ((try dsimp only at hk); (try dsimp only); omega))) e9 (by intro i hi hk; first | exact hk.elim | exact .inl hk | exact hk | (exfalso; omega) | ((try dsimp only at hk); (try dsimp only); omega))) e12 (by intro i hi hk; first | exact hk.elim | exact .inl hk | exact hk | (exfalso; omega) | ((try dsimp only at hk); (try dsimp only); omega))), ((r0_4.keep e9).keepM e12 (by intro h; have q9 := hF _ h; omega)), hste12, ?_⟩, by first | omega | (simp only []; omega)⟩
  omega
 refine C.exit (K17 (Outs.none rfl ?_))
 exact ⟨rfl, (Ext.new (Ext.refl _ _) e_3 (by intro i hi hk; first | exact hk.elim | exact .inl hk | exact hk | (exfalso; omega) | ((try dsimp only at hk); (try dsimp only); omega)))⟩
theorem stainL_spec (u0 v0 : Value) (l : List EntT) (lo hi : Nat) (w : World) (hcp : Clip u0 v0) (hse : SlE 50 112 117 114 w lo hi u0 l) (hhi : hi ≤ w.heap.size) (hB : Bt.Big l) :
 Ret prog 35 #[v0] w (fun v w' => v = .tuple #[] ∧ Ext (fun j => lo ≤ j) w w') := by
 obtain ⟨raw, hfr, hen⟩ := hse
 obtain ⟨hrl, b, hbx, hbm, hbc⟩ := hen
 obtain ⟨hb0, hbn⟩ := hbx
 have hown := hfr.1
 have hrs : RestE 112 117 114 w (fun j => ¬ bk u0 j) b 0 raw l := fun j h1 h2 _ => (hbc j h1 h2).2
 refine enT [v0] 25 func35 rfl rfl (C.sr fun K1 => O.asg (K1 (C.bl fun K2 => C.loop0 (σ := Nat × List EntR) (fun f0 w0 ⟨i, rr⟩ f wz => f 2 = .int .i64 ((i : Int)) ∧ f 0 = f0 0 ∧ Ext (fun j => lo ≤ j) w wz ∧ OwnF entF 50 0 wz u0 rr ∧ RestE 112 117 114 wz (fun j => ¬ bk u0 j) b i raw l ∧ (i ≤ l.length ∧ rr.length = l.length ∧ w.heap.size ≤ wz.heap.size) ∧ (∀ j, ∀ h : j < rr.length, ∀ h2 : j < raw.length, i ≤ j → rr[j] = raw[j])) (fun ⟨i, rr⟩ => l.length - i) (0, raw) ?_ ?_)))
 ·
  refine ⟨rfl, rfl, (Ext.refl _ _), hown, hrs, ?_⟩
  exact ⟨⟨Nat.zero_le _, hrl, Nat.le_refl _⟩, fun _ _ _ _ => rfl⟩
 rintro ⟨i, rr⟩ f_1 w1 ⟨s2_1, s0_1, e_1, r0_1, r1_1, ⟨⟨hk, hrrl, hwz⟩, hsm⟩⟩
 have z_1 := e_1.size
 have r0_1s := r0_1.sl
 have hobk := fun k hk => (hfr.2 k hk)
 have hobk : ∀ k, bk u0 k → lo ≤ k ∧ k < w.heap.size := fun k hk => ⟨(hfr.2 k hk).1, by have := (hfr.2 k hk).2; omega⟩
 have hrrle := (r0_1).sl.le
 have hsv := (r0_1).clips hcp
 refine C.sq fun K3 => C.sr fun K4 => O.mv (O.mv (O.len U22 s0_1 hsv (O.lssI s2_1 rfl (K4 (C.condD rfl (fun c6 => ?_) (fun c6 => ?_))))))
 ·
  have hk2 : i < l.length := by omega
  have sp1_ : ∃ q : EntR, q = raw[i] := ⟨_, rfl⟩
  obtain ⟨r, hrr⟩ := sp1_
  have sp2_ : ∃ q : EntT, q = l[i] := ⟨_, rfl⟩
  obtain ⟨x, hxr⟩ := sp2_
  have hri : rr[i] = r := by rw [hrr]; exact hsm i (by omega) (by omega) (Nat.le_refl _)
  have hkxr : r.1 = x.1 := by rw [hrr, hxr]; exact (hbc i (by omega) hk2).1
  have hmxr : x ∈ l := by rw [hxr]; exact List.getElem_mem _
  have hbr := hB x hmxr
  have hca : CartF 112 117 114 w1 (fun q => ¬ bk u0 q ∧ b i ≤ q ∧ q < b (i + 1)) r.2 x.2 := by rw [hrr, hxr]; exact r1_1 i (by omega) hk2 (Nat.le_refl _)
  have hcl := hca.len
  have hst := hca.stn (K := 1000000) (fun y hy => (hbr.2.2.2.2 y hy).1)
  obtain ⟨ps, hst⟩ := hst
  have hbi := mono_of hbm (Nat.zero_le i)
  have hbi2 := mono_of hbm (show i + 1 ≤ l.length by omega)
  have hrs2 := (r1_1).next
  refine C.skip (K3 (C.sq fun K5 => C.bl fun K6 => C.sr fun K7 => O.mv (O.mv (O.idx U22 Z50 rfl s0_1 hsv s2_1 (by omega) (fun a11 h11 => O.ft U50 rfl Z47 rfl (O.loadPart (G := entF) isAgg47 Z47 (by decide) rfl h11 (O.cast (v' := .agg #[slv r.2.1.1, slv r.2.1.2, slv r.2.2]) (by rw [← hri]; rfl) (O.call call56 (args1 rfl) (stain2_spec r.2.1.1 r.2.1.2 r.2.2 ps _ _ hst (fun j hj => by have q1 := hj.2.2; omega) (by rw [hcl]; exact hbr.2.2.2.1)) ?_))))))))
  rintro v_14 w2 ⟨rfl, e2⟩
  have z2 := e2.size
  refine K7 (C.region (O.mv (O.mv (O.mv (O.mv (O.idx U22 Z50 rfl s0_1 (hsv.keepM e2 (fun k hk h => by rcases h with ⟨q1, _⟩ | q1; exact q1 hk; have := hobk k hk; omega)) s2_1 (by omega) (fun a19 h19 => O.ft U50 rfl Z9 rfl (O.loadAtF (G := entF) isAgg9 rfl rfl h19 (O.addS rfl rfl (by have q7 := hbr.1; rw [← hkxr, ← hri] at q7; simp; omega) ?_)))))))))
  have t0 := r0_1.keepM e2 (fun k hk h => by rcases h with ⟨q1, _⟩ | q1; exact q1 hk; have := hobk k hk; omega)
  have sp3_ := OwnF.ptr t0 (by omega)
  obtain ⟨g23, cap23, hv23⟩ := sp3_
  have ho23 := t0
  rw [hv23] at ho23
  have sp4_ := Clip.ptr hcp hv23
  obtain ⟨cav23, hvv23⟩ := sp4_
  refine O.idxO U22 Z50 (Eq.trans s0_1 hvv23) s2_1 (by omega) ?_
  have hg23 : lo ≤ g23 := (hobk g23 (by rw [hv23]; rfl)).1
  refine O.fa U50 rfl Z9 rfl (O.storeC (G := entF) (i := i) (off := 0) (((rr[i]'(by omega)).1 ++ [120], (rr[i]'(by omega)).2)) (by simp [entF]) Z9 rfl rfl rfl ho23 (by omega) (by decide) rfl (fun w3 hs3 e3 z3 => ?_))
  rw [← hv23] at hs3
  have hsm2 : ∀ j, ∀ h : j < (rr.set i (rr[i].1 ++ [120], rr[i].2)).length, ∀ h2 : j < raw.length, i + 1 ≤ j → (rr.set i (rr[i].1 ++ [120], rr[i].2))[j] = raw[j] := fun j h h2 h3 => by
   rw [List.getElem_set_ne (by omega)]
   exact hsm j (by rw [List.length_set] at h; omega) h2 (by omega)
  refine O.nil (K6 (K5 (C.region (O.mv (O.addI s2_1 rfl (by unfold InI; omega) (O.asg (O.nil ?_)))))))
  refine ⟨(i + 1, rr.set i ((rr[i]'(by omega)).1 ++ [120], (rr[i]'(by omega)).2)), ⟨rfl, s0_1, (Ext.new (Ext.new (Ext.new (Ext.refl _ _) e_1 (by intro i hi hk; first | exact hk.elim | exact hk | (have q1 : i = _ := hk; subst q1; omega) | (rcases hk with ⟨_, q1, _⟩ | q1 <;> omega))) e2 (by intro i hi hk; first | exact hk.elim | exact hk | (have q1 : i = _ := hk; subst q1; omega) | (rcases hk with ⟨_, q1, _⟩ | q1 <;> omega))) e3 (by intro i hi hk; first | exact hk.elim | exact hk | (have q1 : i = _ := hk; subst q1; omega) | (rcases hk with ⟨_, q1, _⟩ | q1 <;> omega))), hs3, ((hrs2.keepM e2 (by rintro k ⟨hk1, j, hj, hij, hk2, hk3⟩ h; have q9 := mono_of hbm hij; rcases h with ⟨_, _, q2⟩ | q2; omega; have q8 := mono_of hbm (show j + 1 ≤ l.length by omega); omega)).keepM e3 (by rintro k ⟨hk1, _⟩ h; exact hk1 (by rw [hv23]; exact h))), ?_⟩, by first | omega | (simp only []; omega)⟩
  exact ⟨⟨by omega, by rw [List.length_set]; exact hrrl, by omega⟩, hsm2⟩
 refine C.exit (K2 (Outs.none rfl ?_))
 exact ⟨rfl, (Ext.new (Ext.refl _ _) e_1 (by intro i hi hk; first | exact hk.elim | exact hk | (have q1 : i = _ := hk; subst q1; omega) | (rcases hk with ⟨_, q1, _⟩ | q1 <;> omega)))⟩
end Go.Proofs.YtpbcafkcfobngaaGreatDoor
