/-
 The walk that writes over what was read. Conditions: what is written may be written.
-/
import Derived.Test.YtpbcafkcfobngaaGreatDoorRows
import Derived.Shelf.SlLaysF
import Derived.Shelf.SlLaysF0
import Derived.Ground.SlsfProg
import Derived.Test.YtpbcafkcfobngaaGreatDoorProg
import Derived.Shelf.Strings.Trim
import Derived.Shelf.Small.Bits
import Derived.Shelf.Small.Wraps
import Derived.Shelf.Strings.Search3
import Derived.Shelf.LaysM
import Derived.Shelf.Strings.Shaped
import Derived.Shelf.Strings.Runes
import Derived.Shelf.Slices.CompactS
import Derived.Shelf.SlSortCmp.WholeK
import Derived.Shelf.Small.Utf8
import Derived.Shelf.Small.Strs
import Derived.Test.YtpbcafkcfobngaaGreatDoorOutboxNewM1
set_option maxHeartbeats 16000000
namespace Go.Proofs.YtpbcafkcfobngaaGreatDoor
open Go.Pn Go.RowKit Go.Proofs _root_.Go.Proofs.Tryz
attribute [local irreducible] O C D
theorem inf41 : ∃ ie, prog.info? 41 = some ie ∧ ie.size = 1 ∧ ie.bytes = 24 ∧ ie.zero = some (.slice none 0 0) := by
 have h : (prog.info? 41).isSome = true := by kernel_rfl
 exact ⟨(prog.info? 41).get h, (Option.some_get h).symm, by kernel_rfl, by kernel_rfl, by kernel_rfl⟩
theorem stain2_spec (p1 p2 p3 : Raw) (ps : List Raw) (F : Nat → Prop) (w : World) (hst : Stn 112 117 114 w F p1 p2 p3 ps 1000000) (hF : ∀ j, F j → j < w.heap.size) (hp3 : p3.2.1 ≤ 1000000) :
 Ret prog 56 #[.agg #[slv p1, slv p2, slv p3]] w (fun v w' => v = .tuple #[] ∧ Ext (fun j => F j ∨ w.heap.size ≤ j) w w') := by
 obtain ⟨ie41, ti41, ts41, tb41, tz41⟩ := inf41
 have sp1_ : ∃ K, K = 1000000 := ⟨_, rfl⟩
 obtain ⟨K, hKe⟩ := sp1_
 rw [← hKe] at hst
 have hmx : maxLen = 9223372036854775807 := rfl
 refine enT [.agg #[slv p1, slv p2, slv p3]] 77 func56 rfl rfl (C.sr fun K1 => O.box (v := .agg #[slv p1, slv p2, slv p3]) rfl (fun b1 w1 hb1 hz1 e1 => ?_))
 have z1 := e1.size
 have h1 := hz1.own
 have hl1 := h1.lt
 refine K1 (C.sq fun K2 => C.sr fun K3 => O.fa U47 rfl Z44 rfl (O.fa U44 rfl Z42 rfl (O.loadO isAgg42 rfl h1 rfl (O.fa U47 rfl Z44 rfl (O.fa U44 rfl Z41 rfl (O.loadO isAgg41 rfl h1 rfl (O.litn [slv p1, slv p2] underlying142 ti41 ts41 tz41 rfl (by decide) (by decide) rfl (by intro u hu; simp only [List.mem_cons, List.not_mem_nil, or_false] at hu; rcases hu with rfl | rfl <;> rfl) (fun b13 w2 hb13 hz13 e2 => ?_))))))))
 have z2 := e2.size
 have h13 := hz13.own
 have hl13 := h13.lt
 refine O.lenL underlying142 rfl (O.mv (K3 (C.bl fun K4 => C.loop0 (σ := Nat) (fun f0 w0 i f wz => f 15 = .int .i64 ((i : Int)) ∧ f 1 = f0 1 ∧ f 13 = f0 13 ∧ f 14 = f0 14 ∧ Ext (fun j => F j ∨ w.heap.size ≤ j) w wz ∧ Own wz b1 47 [slv p1, slv p2, slv p3] ∧ Stn 112 117 114 wz F p1 p2 p3 ps (K) ∧ Own wz b13 41 [slv p1, slv p2] ∧ i ≤ 2) (fun i => 2 - i) 0 ?_ ?_)))
 ·
  refine ⟨rfl, rfl, rfl, rfl, (Ext.new (Ext.new (Ext.refl _ _) e1 (by intro i hi hk; first | exact hk.elim | exact .inl hk | exact hk | (exfalso; omega) | ((try dsimp only at hk); (try dsimp only); omega))) e2 (by intro i hi hk; first | exact hk.elim | exact .inl hk | exact hk | (exfalso; omega) | ((try dsimp only at hk); (try dsimp only); omega))), (h1.keep e2), ((hst.keep e1).keep e2), h13, ?_⟩
  exact Nat.zero_le _
 rintro i f_1 w3 ⟨s15_1, s1_1, s13_1, s14_1, e_1, r0_1, r1_1, r2_1, hi⟩
 have z_1 := e_1.size
 refine C.sr fun K5 => O.lssI s15_1 s14_1 (K5 (C.sq fun K6 => C.condD rfl (fun c16 => ?_) (fun c16 => ?_)))
 ·
  have sp2_ : ∃ q, [slv p1, slv p2][i]? = some (slv q) ∧ (q = p1 ∨ q = p2) := by
   match i, (show i < 2 by omega) with
   | 0, _ => exact ⟨p1, rfl, .inl rfl⟩
   | 1, _ => exact ⟨p2, rfl, .inr rfl⟩
  obtain ⟨q, hqv, hq⟩ := sp2_
  refine C.skip (K6 (C.sq fun K7 => C.bl fun K8 => C.sr fun K9 => O.idxO underlying142 Z41 s13_1 s15_1 (by omega) (O.loadO isAgg41 rfl r2_1 (show [slv p1, slv p2][0 + Int.toNat (i : Int) * 1]? = some (slv q) by simpa using hqv) (O.asg (K9 (C.sr fun K10 => O.asg (K10 (C.bl fun K11 => C.loop0 (σ := Nat) (fun f0 w0 j f wz => f 4 = .int .i64 ((j : Int)) ∧ f 1 = f0 1 ∧ f 3 = f0 3 ∧ f 13 = f0 13 ∧ f 14 = f0 14 ∧ f 15 = f0 15 ∧ Ext (fun j => F j ∨ w.heap.size ≤ j) w wz ∧ Own wz b1 47 [slv p1, slv p2, slv p3] ∧ Stn 112 117 114 wz F p1 p2 p3 ps (K) ∧ Own wz b13 41 [slv p1, slv p2] ∧ j ≤ maxLen) (fun j => q.2.1 - j) 0 ?_ ?_))))))))
  ·
   refine ⟨rfl, rfl, rfl, rfl, rfl, rfl, (Ext.new (Ext.refl _ _) e_1 (by intro i hi hk; first | exact hk.elim | exact .inl hk | exact hk | (exfalso; omega) | ((try dsimp only at hk); (try dsimp only); omega))), r0_1, r1_1, r2_1, ?_⟩
   exact Nat.zero_le _
  rintro j f_2 w4 ⟨s4_2, s1_2, s3_2, s13_2, s14_2, s15_2, e_2, r0_2, r1_2, r2_2, hj⟩
  have z_2 := e_2.size
  refine C.sq fun K12 => C.sr fun K13 => O.mv (O.mv (O.lenL U41 s3_2 (O.lssI s4_2 rfl (K13 (C.condD rfl (fun c22 => ?_) (fun c22 => ?_))))))
  ·
   have sp3_ := (r1_2).dots hq
   obtain ⟨xs, hx⟩ := sp3_
   have hxl := hx.len
   have hxm := hx.1.2
   have hxw := hx.1
   refine C.skip (K12 (C.sq fun K14 => C.bl fun K15 => C.region (O.mv (O.mv ?_))))
   have sp4_ := OwnF.ptr hxw (by omega)
   obtain ⟨g27, cap27, hv27⟩ := sp4_
   have ho27 := hxw
   rw [hv27] at ho27
   refine O.idxO U41 Z112 (Eq.trans s3_2 hv27) s4_2 (by omega) (O.fa U112 rfl Z3 rfl (O.loadC (G := Dt.dotF) (i := j) (off := 1) (by simp [Dt.dotF]) isAgg3 rfl ho27 (by omega) rfl (O.addW rfl rfl ?_)))
   have sp5_ := OwnF.ptr hxw (by omega)
   obtain ⟨g31, cap31, hv31⟩ := sp5_
   have ho31 := hxw
   rw [hv31] at ho31
   refine O.idxO U41 Z112 (Eq.trans s3_2 hv31) s4_2 (by omega) (O.fa U112 rfl Z3 rfl (O.storeS (G := Dt.dotF) (i := j) (off := 1) (by simp [Dt.dotF]) Z3 rfl rfl rfl ho31 (by omega) (by decide) (fun w5 cr5 hg5 hw5 e5 z5 => ?_)))
   have hFg31 : F g31 := (hx.2 g31 (by rw [hv31]; rfl))
   have hC31 := hF g31 hFg31
   replace e5 : Ext F w4 w5 := e5.mono (fun k _ hk => by have h0 : k = g31 := hk; subst h0; exact hFg31)
   have hste5 : Stn 112 117 114 w5 F p1 p2 p3 ps (K) := by rw [hw5]; exact (r1_2).setD (by decide) (by decide) hg5
   refine O.nil (K15 (K14 (C.region (O.mv (O.addI s4_2 rfl (by unfold InI; omega) (O.asg (O.nil (⟨(j + 1), ⟨rfl, s1_2, s3_2, s13_2, s14_2, s15_2, (Ext.new (Ext.new (Ext.refl _ _) e_2 (by intro i hi hk; first | exact hk.elim | exact .inl hk | exact hk | (exfalso; omega) | ((try dsimp only at hk); (try dsimp only); omega))) e5 (by intro i hi hk; first | exact hk.elim | exact .inl hk | exact hk | (exfalso; omega) | ((try dsimp only at hk); (try dsimp only); omega))), (r0_2.keepM e5 (by intro h; have q9 := hF _ h; omega)), hste5, (r2_2.keepM e5 (by intro h; have q9 := hF _ h; omega)), ?_⟩, by first | omega | (simp only []; omega)⟩))))))))
   omega
  refine C.exit (K11 (K8 (K7 (C.region (O.addI (Eq.trans s15_2 s15_1) rfl (by unfold InI; omega) (O.mv (O.nil (⟨(i + 1), ⟨rfl, (Eq.trans s1_2 s1_1), (Eq.trans s13_2 s13_1), (Eq.trans s14_2 s14_1), (Ext.new (Ext.refl _ _) e_2 (by intro i hi hk; first | exact hk.elim | exact .inl hk | exact hk | (exfalso; omega) | ((try dsimp only at hk); (try dsimp only); omega))), r0_2, r1_2, r2_2, ?_⟩, by first | omega | (simp only []; omega)⟩))))))))
  omega
 refine C.exit (K4 (K2 (C.sr fun K16 => O.asg (K16 (C.bl fun K17 => C.loop0 (σ := Nat) (fun f0 w0 i f wz => f 5 = .int .i64 ((i : Int)) ∧ f 1 = f0 1 ∧ Ext (fun j => F j ∨ w.heap.size ≤ j) w wz ∧ Own wz b1 47 [slv p1, slv p2, slv p3] ∧ Stn 112 117 114 wz F p1 p2 p3 ps (K + i) ∧ i ≤ p3.2.1) (fun i => p3.2.1 - i) 0 ?_ ?_)))))
 ·
  refine ⟨rfl, rfl, (Ext.new (Ext.refl _ _) e_1 (by intro i hi hk; first | exact hk.elim | exact .inl hk | exact hk | (exfalso; omega) | ((try dsimp only at hk); (try dsimp only); omega))), r0_1, r1_1, ?_⟩
  exact Nat.zero_le _
 rintro i f_3 w6 ⟨s5_3, s1_3, e_3, r0_3, r1_3, hi⟩
 have z_3 := e_3.size
 refine C.sq fun K18 => C.sr fun K19 => O.mv (O.fa U47 rfl Z45 (Eq.trans s1_3 s1_1) (O.loadO isAgg45 rfl r0_3 rfl (O.lenL U45 rfl (O.lssI s5_3 rfl (K19 (C.condD rfl (fun c38 => ?_) (fun c38 => ?_)))))))
 ·
  refine C.skip (K18 (C.sq fun K20 => C.bl fun K21 => C.sq fun K22 => C.sr fun K23 => O.asg (K23 (C.bl fun K24 => C.loop0 (σ := Nat) (fun f0 w0 j f wz => f 6 = .int .i64 ((j : Int)) ∧ f 1 = f0 1 ∧ f 5 = f0 5 ∧ Ext (fun j => F j ∨ w.heap.size ≤ j) w wz ∧ Own wz b1 47 [slv p1, slv p2, slv p3] ∧ Stn 112 117 114 wz F p1 p2 p3 ps (K + i) ∧ j ≤ maxLen) (fun j => maxLen - j) 0 ?_ ?_))))
  ·
   refine ⟨rfl, rfl, rfl, (Ext.new (Ext.refl _ _) e_3 (by intro i hi hk; first | exact hk.elim | exact .inl hk | exact hk | (exfalso; omega) | ((try dsimp only at hk); (try dsimp only); omega))), r0_3, r1_3, ?_⟩
   exact Nat.zero_le _
  rintro j f_4 w7 ⟨s6_4, s1_4, s5_4, e_4, r0_4, r1_4, hj⟩
  have z_4 := e_4.size
  have sp6_ := (r1_4).d3
  obtain ⟨raw, hraw, hps, hK⟩ := sp6_
  have hrl := hraw.len
  have hi2 : i < raw.length := by omega
  have hrw := hraw.1
  have sp7_ := (r1_4).m raw[i].2 (by rw [← hps]; exact List.mem_map.2 ⟨_, List.getElem_mem hi2, rfl⟩)
  obtain ⟨ms, hms⟩ := sp7_
  have hml := hms.len
  have hmw := hms.1
  have hmm := hms.1.2
  refine C.sq fun K25 => C.sr fun K26 => O.mv (O.fa U47 rfl Z45 (Eq.trans s1_4 (Eq.trans s1_3 s1_1)) (O.loadO isAgg45 rfl r0_4 rfl (O.mv ?_)))
  have sp8_ := OwnF.ptr hrw (by omega)
  obtain ⟨g45, cap45, hv45⟩ := sp8_
  have ho45 := hrw
  rw [hv45] at ho45
  refine O.idxO U45 Z117 (Eq.trans rfl hv45) (Eq.trans s5_4 s5_3) (by omega) (O.fa U117 rfl Z115 rfl (O.loadC (G := itemF) (i := i) (off := 1) (by simp [itemF]) isAgg115 rfl ho45 (by omega) rfl (O.lenL U115 rfl (O.lssI s6_4 rfl (K26 (C.condD rfl (fun c49 => ?_) (fun c49 => ?_)))))))
  ·
   refine C.skip (K25 (C.sq fun K27 => C.bl fun K28 => C.region (O.fa U47 rfl Z45 (Eq.trans s1_4 (Eq.trans s1_3 s1_1)) (O.loadO isAgg45 rfl r0_4 rfl (O.mv ?_)))))
   have sp9_ := OwnF.ptr hrw (by omega)
   obtain ⟨g55, cap55, hv55⟩ := sp9_
   have ho55 := hrw
   rw [hv55] at ho55
   refine O.idxO U45 Z117 (Eq.trans rfl hv55) (Eq.trans s5_4 s5_3) (by omega) (O.fa U117 rfl Z115 rfl (O.loadC (G := itemF) (i := i) (off := 1) (by simp [itemF]) isAgg115 rfl ho55 (by omega) rfl (O.mv ?_)))
   have sp10_ := OwnF.ptr hmw (by omega)
   obtain ⟨g59, cap59, hv59⟩ := sp10_
   have ho59 := hmw
   rw [hv59] at ho59
   refine O.idxO U115 Z114 (Eq.trans rfl hv59) s6_4 (by omega) (O.fa U114 rfl Z3 rfl (O.loadC (G := markF) (i := j) (off := 2) (by simp [markF]) isAgg3 rfl ho59 (by omega) rfl (O.addW rfl rfl ?_)))
   have sp11_ := OwnF.ptr hmw (by omega)
   obtain ⟨g63, cap63, hv63⟩ := sp11_
   have ho63 := hmw
   rw [hv63] at ho63
   refine O.idxO U115 Z114 (Eq.trans rfl hv63) s6_4 (by omega) (O.fa U114 rfl Z3 rfl (O.storeS (G := markF) (i := j) (off := 2) (by simp [markF]) Z3 rfl rfl rfl ho63 (by omega) (by decide) (fun w8 cr8 hg8 hw8 e8 z8 => ?_)))
   have hFg63 : F g63 := (hms.2 g63 (by rw [hv63]; rfl))
   have hC63 := hF g63 hFg63
   replace e8 : Ext F w7 w8 := e8.mono (fun k _ hk => by have h0 : k = g63 := hk; subst h0; exact hFg63)
   have hste8 : Stn 112 117 114 w8 F p1 p2 p3 ps (K + i) := by rw [hw8]; exact (r1_4).setM (by decide) (by decide) hg8
   refine O.nil (K28 (K27 (C.region (O.mv (O.addI s6_4 rfl (by unfold InI; omega) (O.asg (O.nil (⟨(j + 1), ⟨rfl, s1_4, s5_4, (Ext.new (Ext.new (Ext.refl _ _) e_4 (by intro i hi hk; first | exact hk.elim | exact .inl hk | exact hk | (exfalso; omega) | ((try dsimp only at hk); (try dsimp only); omega))) e8 (by intro i hi hk; first | exact hk.elim | exact .inl hk | exact hk | (exfalso; omega) | ((try dsimp only at hk); (try dsimp only); omega))), (r0_4.keepM e8 (by intro h; have q9 := hF _ h; omega)), hste8, ?_⟩, by first | omega | (simp only []; omega)⟩))))))))
   omega
  refine C.exit (K24 (K22 (C.drawB (wB := (bare w7)) (by kernel_rfl) fun w9 e9 => ?_)))
  have z9 := e9.size
  refine D.t 0 rfl (Ext.bare (Ext.nt (Ext.refl (fun _ => True) _) e9)) (fun _ _ _ hN => O.fa U47 rfl Z45 (Eq.trans s1_4 (Eq.trans s1_3 s1_1)) (O.nil hN)) (D.mv 2 rfl (Ext.bare (Ext.nt (Ext.refl (fun _ => True) _) e9)) (D.t 3 rfl (Ext.bare (Ext.nt (Ext.refl (fun _ => True) _) e9)) (fun _ _ _ hN => O.fa U47 rfl Z45 (Eq.trans s1_4 (Eq.trans s1_3 s1_1)) (O.nil hN)) (D.mv 5 rfl (Ext.bare (Ext.nt (Ext.refl (fun _ => True) _) e9)) (D.many [1, 4] (by kernel_rfl) (by decide) ⟨?_, ?_, trivial⟩))))
  ·
   refine D.stepU rfl rfl (O.loadO isAgg45 rfl (r0_4.keep e9) rfl (O.nil ⟨(Ext.bare (Ext.nt (Ext.refl (fun _ => True) _) e9)), D.on 4 rfl rfl (O.loadO isAgg45 rfl (r0_4.keep e9) rfl (O.nil ⟨(Ext.bare (Ext.nt (Ext.refl (fun _ => True) _) e9)), ?_⟩))⟩))
   have sp12_ := OwnF.ptr (hrw.keep e9) (by omega)
   obtain ⟨g71, cap71, hv71⟩ := sp12_
   have ho71 := (hrw.keep e9)
   rw [hv71] at ho71
   refine D.t 6 rfl (Ext.bare (Ext.nt (Ext.refl (fun _ => True) _) e9)) (fun _ _ _ hN => O.idxO U45 Z117 (Eq.trans rfl hv71) (Eq.trans s5_4 s5_3) (by omega) (O.nil hN)) (D.t 7 rfl (Ext.bare (Ext.nt (Ext.refl (fun _ => True) _) e9)) (fun _ _ _ hN => O.fa U117 rfl Z9 rfl (O.nil hN)) (D.on 8 rfl rfl (O.loadC (G := itemF) (i := i) (off := 0) (by simp [itemF]) isAgg9 rfl ho71 (by omega) rfl (O.nil ⟨(Ext.bare (Ext.nt (Ext.refl (fun _ => True) _) e9)), ?_⟩))))
   refine D.t 9 rfl (Ext.bare (Ext.nt (Ext.refl (fun _ => True) _) e9)) (fun _ _ _ hN => O.addS rfl rfl (by have q9 := hK raw[i] (List.getElem_mem hi2); show raw[i].1.length + 1 ≤ _; omega) (O.nil hN)) ?_
   have sp13_ := OwnF.ptr (hrw.keep e9) (by omega)
   obtain ⟨g75, cap75, hv75⟩ := sp13_
   have ho75 := (hrw.keep e9)
   rw [hv75] at ho75
   refine D.t 10 rfl (Ext.bare (Ext.nt (Ext.refl (fun _ => True) _) e9)) (fun _ _ _ hN => O.idxO U45 Z117 (Eq.trans rfl hv75) (Eq.trans s5_4 s5_3) (by omega) (O.nil hN)) (D.t 11 rfl (Ext.bare (Ext.nt (Ext.refl (fun _ => True) _) e9)) (fun _ _ _ hN => O.fa U117 rfl Z9 rfl (O.nil hN)) (D.on 12 rfl rfl (O.storeS (G := itemF) (i := i) (off := 0) (by simp [itemF]) Z9 rfl rfl rfl ho75 (by omega) (by decide) (fun w10 cr10 hg10 hw10 e10 z10 => ?_))))
   have hFg75 : F g75 := (hraw.2 g75 (by rw [hv75]; rfl))
   have hC75 := hF g75 hFg75
   replace e10 : Ext F w9 w10 := e10.mono (fun k _ hk => by have h0 : k = g75 := hk; subst h0; exact hFg75)
   have hste10 : Stn 112 117 114 w10 F p1 p2 p3 ps (K + i + 1) := by rw [hw10]; exact ((r1_4.keep e9)).setN (by decide) (by decide) (by have q9 := hK raw[i] (List.getElem_mem hi2); rw [List.length_append]; show raw[i].1.length + 1 ≤ _; omega) hg10
   refine O.nil ⟨(Ext.bare (Ext.nt (Ext.nt (Ext.refl (fun _ => True) _) e9) e10)), D.dn (K21 (K20 (C.region (O.mv (O.addI (Eq.trans s5_4 s5_3) rfl (by unfold InI; omega) (O.asg (O.nil ?_)))))))⟩
   refine ⟨(i + 1), ⟨rfl, (Eq.trans s1_4 s1_3), (Ext.new (Ext.new (Ext.new (Ext.refl _ _) e_4 (by intro i hi hk; first | exact hk.elim | exact .inl hk | exact hk | (exfalso; omega) | ((try dsimp only at hk); (try dsimp only); omega))) e9 (by intro i hi hk; first | exact hk.elim | exact .inl hk | exact hk | (exfalso; omega) | ((try dsimp only at hk); (try dsimp only); omega))) e10 (by intro i hi hk; first | exact hk.elim | exact .inl hk | exact hk | (exfalso; omega) | ((try dsimp only at hk); (try dsimp only); omega))), ((r0_4.keep e9).keepM e10 (by intro h; have q9 := hF _ h; omega)), hste10, ?_⟩, by first | omega | (simp only []; omega)⟩
   omega
  refine D.stepU rfl rfl (O.loadO isAgg45 rfl (r0_4.keep e9) rfl (O.nil ⟨(Ext.bare (Ext.nt (Ext.refl (fun _ => True) _) e9)), ?_⟩))
  have sp14_ := OwnF.ptr (hrw.keep e9) (by omega)
  obtain ⟨g71, cap71, hv71⟩ := sp14_
  have ho71 := (hrw.keep e9)
  rw [hv71] at ho71
  refine D.t 6 rfl (Ext.bare (Ext.nt (Ext.refl (fun _ => True) _) e9)) (fun _ _ _ hN => O.idxO U45 Z117 (Eq.trans rfl hv71) (Eq.trans s5_4 s5_3) (by omega) (O.nil hN)) (D.t 7 rfl (Ext.bare (Ext.nt (Ext.refl (fun _ => True) _) e9)) (fun _ _ _ hN => O.fa U117 rfl Z9 rfl (O.nil hN)) (D.many [1, 8] (by kernel_rfl) (by decide) ⟨?_, ?_, trivial⟩))
  ·
   refine D.stepU rfl rfl (O.loadO isAgg45 rfl (r0_4.keep e9) rfl (O.nil ⟨(Ext.bare (Ext.nt (Ext.refl (fun _ => True) _) e9)), D.on 8 rfl rfl (O.loadC (G := itemF) (i := i) (off := 0) (by simp [itemF]) isAgg9 rfl ho71 (by omega) rfl (O.nil ⟨(Ext.bare (Ext.nt (Ext.refl (fun _ => True) _) e9)), D.t 9 rfl (Ext.bare (Ext.nt (Ext.refl (fun _ => True) _) e9)) (fun _ _ _ hN => O.addS rfl rfl (by have q9 := hK raw[i] (List.getElem_mem hi2); show raw[i].1.length + 1 ≤ _; omega) (O.nil hN)) ?_⟩))⟩))
   have sp15_ := OwnF.ptr (hrw.keep e9) (by omega)
   obtain ⟨g75, cap75, hv75⟩ := sp15_
   have ho75 := (hrw.keep e9)
   rw [hv75] at ho75
   refine D.t 10 rfl (Ext.bare (Ext.nt (Ext.refl (fun _ => True) _) e9)) (fun _ _ _ hN => O.idxO U45 Z117 (Eq.trans rfl hv75) (Eq.trans s5_4 s5_3) (by omega) (O.nil hN)) (D.t 11 rfl (Ext.bare (Ext.nt (Ext.refl (fun _ => True) _) e9)) (fun _ _ _ hN => O.fa U117 rfl Z9 rfl (O.nil hN)) (D.on 12 rfl rfl (O.storeS (G := itemF) (i := i) (off := 0) (by simp [itemF]) Z9 rfl rfl rfl ho75 (by omega) (by decide) (fun w11 cr11 hg11 hw11 e11 z11 => ?_))))
   have hFg75 : F g75 := (hraw.2 g75 (by rw [hv75]; rfl))
   have hC75 := hF g75 hFg75
   replace e11 : Ext F w9 w11 := e11.mono (fun k _ hk => by have h0 : k = g75 := hk; subst h0; exact hFg75)
   have hste11 : Stn 112 117 114 w11 F p1 p2 p3 ps (K + i + 1) := by rw [hw11]; exact ((r1_4.keep e9)).setN (by decide) (by decide) (by have q9 := hK raw[i] (List.getElem_mem hi2); rw [List.length_append]; show raw[i].1.length + 1 ≤ _; omega) hg11
   refine O.nil ⟨(Ext.bare (Ext.nt (Ext.nt (Ext.refl (fun _ => True) _) e9) e11)), D.dn (K21 (K20 (C.region (O.mv (O.addI (Eq.trans s5_4 s5_3) rfl (by unfold InI; omega) (O.asg (O.nil ?_)))))))⟩
   refine ⟨(i + 1), ⟨rfl, (Eq.trans s1_4 s1_3), (Ext.new (Ext.new (Ext.new (Ext.refl _ _) e_4 (by intro i hi hk; first | exact hk.elim | exact .inl hk | exact hk | (exfalso; omega) | ((try dsimp only at hk); (try dsimp only); omega))) e9 (by intro i hi hk; first | exact hk.elim | exact .inl hk | exact hk | (exfalso; omega) | ((try dsimp only at hk); (try dsimp only); omega))) e11 (by intro i hi hk; first | exact hk.elim | exact .inl hk | exact hk | (exfalso; omega) | ((try dsimp only at hk); (try dsimp only); omega))), ((r0_4.keep e9).keepM e11 (by intro h; have q9 := hF _ h; omega)), hste11, ?_⟩, by first | omega | (simp only []; omega)⟩
   omega
  refine D.stepU rfl rfl (O.loadC (G := itemF) (i := i) (off := 0) (by simp [itemF]) isAgg9 rfl ho71 (by omega) rfl (O.nil ⟨(Ext.bare (Ext.nt (Ext.refl (fun _ => True) _) e9)), D.t 9 rfl (Ext.bare (Ext.nt (Ext.refl (fun _ => True) _) e9)) (fun _ _ _ hN => O.addS rfl rfl (by have q9 := hK raw[i] (List.getElem_mem hi2); show raw[i].1.length + 1 ≤ _; omega) (O.nil hN)) (D.on 1 rfl rfl (O.loadO isAgg45 rfl (r0_4.keep e9) rfl (O.nil ⟨(Ext.bare (Ext.nt (Ext.refl (fun _ => True) _) e9)), ?_⟩)))⟩))
  have sp16_ := OwnF.ptr (hrw.keep e9) (by omega)
  obtain ⟨g75, cap75, hv75⟩ := sp16_
  have ho75 := (hrw.keep e9)
  rw [hv75] at ho75
  refine D.t 10 rfl (Ext.bare (Ext.nt (Ext.refl (fun _ => True) _) e9)) (fun _ _ _ hN => O.idxO U45 Z117 (Eq.trans rfl hv75) (Eq.trans s5_4 s5_3) (by omega) (O.nil hN)) (D.t 11 rfl (Ext.bare (Ext.nt (Ext.refl (fun _ => True) _) e9)) (fun _ _ _ hN => O.fa U117 rfl Z9 rfl (O.nil hN)) (D.on 12 rfl rfl (O.storeS (G := itemF) (i := i) (off := 0) (by simp [itemF]) Z9 rfl rfl rfl ho75 (by omega) (by decide) (fun w12 cr12 hg12 hw12 e12 z12 => ?_))))
  have hFg75 : F g75 := (hraw.2 g75 (by rw [hv75]; rfl))
  have hC75 := hF g75 hFg75
  replace e12 : Ext F w9 w12 := e12.mono (fun k _ hk => by have h0 : k = g75 := hk; subst h0; exact hFg75)
  have hste12 : Stn 112 117 114 w12 F p1 p2 p3 ps (K + i + 1) := by rw [hw12]; exact ((r1_4.keep e9)).setN (by decide) (by decide) (by have q9 := hK raw[i] (List.getElem_mem hi2); rw [List.length_append]; show raw[i].1.length + 1 ≤ _; omega) hg12
  refine O.nil ⟨(Ext.bare (Ext.nt (Ext.nt (Ext.refl (fun _ => True) _) e9) e12)), D.dn (K21 (K20 (C.region (O.mv (O.addI (Eq.trans s5_4 s5_3) rfl (by unfold InI; omega) (O.asg (O.nil ?_)))))))⟩
  refine ⟨(i + 1), ⟨rfl, (Eq.trans s1_4 s1_3), (Ext.new (Ext.new (Ext.new (Ext.refl _ _) e_4 (by intro i hi hk; first | exact hk.elim | exact .inl hk | exact hk | (exfalso; omega) | ((try dsimp only at hk); (try dsimp only); omega))) e9 (by intro i hi hk; first | exact hk.elim | exact .inl hk | exact hk | (exfalso; omega) | ((try dsimp only at hk); (try dsimp only); omega))) e12 (by intro i hi hk; first | exact hk.elim | exact .inl hk | exact hk | (exfalso; omega) | ((try dsimp only at hk); (try dsimp only); omega))), ((r0_4.keep e9).keepM e12 (by intro h; have q9 := hF _ h; omega)), hste12, ?_⟩, by first | omega | (simp only []; omega)⟩
  omega
 refine C.exit (K17 (Outs.none rfl ?_))
 exact ⟨rfl, (Ext.new (Ext.refl _ _) e_3 (by intro i hi hk; first | exact hk.elim | exact .inl hk | exact hk | (exfalso; omega) | ((try dsimp only at hk); (try dsimp only); omega)))⟩
theorem stainL_spec (u0 v0 : Value) (l : List EntT) (lo hi : Nat) (w : World) (hcp : Clip u0 v0) (hse : SlE 50 112 117 114 w lo hi u0 l) (hhi : hi ≤ w.heap.size) (hB : Bt.Big l) :
 Ret prog 35 #[v0] w (fun v w' => v = .tuple #[] ∧ Ext (fun j => lo ≤ j) w w') := by
 obtain ⟨raw, hfr, hen⟩ := hse
 obtain ⟨hrl, b, hbx, hbm, hbc⟩ := hen
 obtain ⟨hb0, hbn⟩ := hbx
 have hown := hfr.1
 have hrs : RestE 112 117 114 w (fun j => ¬ bk u0 j) b 0 raw l := fun j h1 h2 _ => (hbc j h1 h2).2
 refine enT [v0] 25 func35 rfl rfl (C.sr fun K1 => O.asg (K1 (C.bl fun K2 => C.loop0 (σ := Nat × List EntR) (fun f0 w0 ⟨i, rr⟩ f wz => f 2 = .int .i64 ((i : Int)) ∧ f 0 = f0 0 ∧ Ext (fun j => lo ≤ j) w wz ∧ OwnF entF 50 0 wz u0 rr ∧ RestE 112 117 114 wz (fun j => ¬ bk u0 j) b i raw l ∧ (i ≤ l.length ∧ rr.length = l.length ∧ w.heap.size ≤ wz.heap.size) ∧ (∀ j, ∀ h : j < rr.length, ∀ h2 : j < raw.length, i ≤ j → rr[j] = raw[j])) (fun ⟨i, rr⟩ => l.length - i) (0, raw) ?_ ?_)))
 ·
  refine ⟨rfl, rfl, (Ext.refl _ _), hown, hrs, ?_⟩
  exact ⟨⟨Nat.zero_le _, hrl, Nat.le_refl _⟩, fun _ _ _ _ => rfl⟩
 rintro ⟨i, rr⟩ f_1 w1 ⟨s2_1, s0_1, e_1, r0_1, r1_1, ⟨⟨hk, hrrl, hwz⟩, hsm⟩⟩
 have z_1 := e_1.size
 have r0_1s := r0_1.sl
 have hobk := fun k hk => (hfr.2 k hk)
 have hobk : ∀ k, bk u0 k → lo ≤ k ∧ k < w.heap.size := fun k hk => ⟨(hfr.2 k hk).1, by have := (hfr.2 k hk).2; omega⟩
 have hrrle := (r0_1).sl.le
 have hsv := (r0_1).clips hcp
 refine C.sq fun K3 => C.sr fun K4 => O.mv (O.mv (O.len U22 s0_1 hsv (O.lssI s2_1 rfl (K4 (C.condD rfl (fun c6 => ?_) (fun c6 => ?_))))))
 ·
  have hk2 : i < l.length := by omega
  have sp1_ : ∃ q : EntR, q = raw[i] := ⟨_, rfl⟩
  obtain ⟨r, hrr⟩ := sp1_
  have sp2_ : ∃ q : EntT, q = l[i] := ⟨_, rfl⟩
  obtain ⟨x, hxr⟩ := sp2_
  have hri : rr[i] = r := by rw [hrr]; exact hsm i (by omega) (by omega) (Nat.le_refl _)
  have hkxr : r.1 = x.1 := by rw [hrr, hxr]; exact (hbc i (by omega) hk2).1
  have hmxr : x ∈ l := by rw [hxr]; exact List.getElem_mem _
  have hbr := hB x hmxr
  have hca : CartF 112 117 114 w1 (fun q => ¬ bk u0 q ∧ b i ≤ q ∧ q < b (i + 1)) r.2 x.2 := by rw [hrr, hxr]; exact r1_1 i (by omega) hk2 (Nat.le_refl _)
  have hcl := hca.len
  have hst := hca.stn (K := 1000000) (fun y hy => (hbr.2.2.2.2 y hy).1)
  obtain ⟨ps, hst⟩ := hst
  have hbi := mono_of hbm (Nat.zero_le i)
  have hbi2 := mono_of hbm (show i + 1 ≤ l.length by omega)
  have hrs2 := (r1_1).next
  refine C.skip (K3 (C.sq fun K5 => C.bl fun K6 => C.sr fun K7 => O.mv (O.mv (O.idx U22 Z50 rfl s0_1 hsv s2_1 (by omega) (fun a11 h11 => O.ft U50 rfl Z47 rfl (O.loadPart (G := entF) isAgg47 Z47 (by decide) rfl h11 (O.cast (v' := .agg #[slv r.2.1.1, slv r.2.1.2, slv r.2.2]) (by rw [← hri]; rfl) (O.call call56 (args1 rfl) (stain2_spec r.2.1.1 r.2.1.2 r.2.2 ps _ _ hst (fun j hj => by have q1 := hj.2.2; omega) (by rw [hcl]; exact hbr.2.2.2.1)) ?_))))))))
  rintro v_14 w2 ⟨rfl, e2⟩
  have z2 := e2.size
  refine K7 (C.region (O.mv (O.mv (O.mv (O.mv (O.idx U22 Z50 rfl s0_1 (hsv.keepM e2 (fun k hk h => by rcases h with ⟨q1, _⟩ | q1; exact q1 hk; have := hobk k hk; omega)) s2_1 (by omega) (fun a19 h19 => O.ft U50 rfl Z9 rfl (O.loadAtF (G := entF) isAgg9 rfl rfl h19 (O.addS rfl rfl (by have q7 := hbr.1; rw [← hkxr, ← hri] at q7; simp; omega) ?_)))))))))
  have t0 := r0_1.keepM e2 (fun k hk h => by rcases h with ⟨q1, _⟩ | q1; exact q1 hk; have := hobk k hk; omega)
  have sp3_ := OwnF.ptr t0 (by omega)
  obtain ⟨g23, cap23, hv23⟩ := sp3_
  have ho23 := t0
  rw [hv23] at ho23
  have sp4_ := Clip.ptr hcp hv23
  obtain ⟨cav23, hvv23⟩ := sp4_
  refine O.idxO U22 Z50 (Eq.trans s0_1 hvv23) s2_1 (by omega) ?_
  have hg23 : lo ≤ g23 := (hobk g23 (by rw [hv23]; rfl)).1
  refine O.fa U50 rfl Z9 rfl (O.storeC (G := entF) (i := i) (off := 0) (((rr[i]'(by omega)).1 ++ [120], (rr[i]'(by omega)).2)) (by simp [entF]) Z9 rfl rfl rfl ho23 (by omega) (by decide) rfl (fun w3 hs3 e3 z3 => ?_))
  rw [← hv23] at hs3
  have hsm2 : ∀ j, ∀ h : j < (rr.set i (rr[i].1 ++ [120], rr[i].2)).length, ∀ h2 : j < raw.length, i + 1 ≤ j → (rr.set i (rr[i].1 ++ [120], rr[i].2))[j] = raw[j] := fun j h h2 h3 => by
   rw [List.getElem_set_ne (by omega)]
   exact hsm j (by rw [List.length_set] at h; omega) h2 (by omega)
  refine O.nil (K6 (K5 (C.region (O.mv (O.addI s2_1 rfl (by unfold InI; omega) (O.asg (O.nil ?_)))))))
  refine ⟨(i + 1, rr.set i ((rr[i]'(by omega)).1 ++ [120], (rr[i]'(by omega)).2)), ⟨rfl, s0_1, (Ext.new (Ext.new (Ext.new (Ext.refl _ _) e_1 (by intro i hi hk; first | exact hk.elim | exact hk | (have q1 : i = _ := hk; subst q1; omega) | (rcases hk with ⟨_, q1, _⟩ | q1 <;> omega))) e2 (by intro i hi hk; first | exact hk.elim | exact hk | (have q1 : i = _ := hk; subst q1; omega) | (rcases hk with ⟨_, q1, _⟩ | q1 <;> omega))) e3 (by intro i hi hk; first | exact hk.elim | exact hk | (have q1 : i = _ := hk; subst q1; omega) | (rcases hk with ⟨_, q1, _⟩ | q1 <;> omega))), hs3, ((hrs2.keepM e2 (by rintro k ⟨hk1, j, hj, hij, hk2, hk3⟩ h; have q9 := mono_of hbm hij; rcases h with ⟨_, _, q2⟩ | q2; omega; have q8 := mono_of hbm (show j + 1 ≤ l.length by omega); omega)).keepM e3 (by rintro k ⟨hk1, _⟩ h; exact hk1 (by rw [hv23]; exact h))), ?_⟩, by first | omega | (simp only []; omega)⟩
  exact ⟨⟨by omega, by rw [List.length_set]; exact hrrl, by omega⟩, hsm2⟩
 refine C.exit (K2 (Outs.none rfl ?_))
 exact ⟨rfl, (Ext.new (Ext.refl _ _) e_1 (by intro i hi hk; first | exact hk.elim | exact hk | (have q1 : i = _ := hk; subst q1; omega) | (rcases hk with ⟨_, q1, _⟩ | q1 <;> omega)))⟩
end Go.Proofs.YtpbcafkcfobngaaGreatDoor
