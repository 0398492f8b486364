/-
 The walks of the reference's bytes of carts. Conditions: slices as they lie in memory.
-/
import Derived.Test.YtpbcafkcfobngaaGreatDoorRows
import Derived.Shelf.SlLaysF
import Derived.Shelf.SlLaysF0
import Derived.Ground.SlsfProg
import Derived.Test.YtpbcafkcfobngaaGreatDoorProg
import Derived.Shelf.Strings.Trim
import Derived.Shelf.Small.Bits
import Derived.Shelf.Small.Wraps
import Derived.Shelf.Strings.Search3
import Derived.Shelf.LaysM
import Derived.Shelf.Strings.Shaped
import Derived.Shelf.Strings.Runes
import Derived.Shelf.Slices.CompactS
import Derived.Shelf.SlSortCmp.WholeK
import Derived.Shelf.Small.Utf8
import Derived.Shelf.Small.Strs
import Derived.Test.YtpbcafkcfobngaaGreatDoorBatchEncodesM1
set_option maxHeartbeats 16000000
namespace Go.Proofs.YtpbcafkcfobngaaGreatDoor
open Go.Pn Go.RowKit Go.Proofs _root_.Go.Proofs.Tryz
attribute [local irreducible] O C D
theorem inf110 : ∃ ie, prog.info? 110 = some ie ∧ ie.size = 1 ∧ ie.bytes = 8 ∧ ie.zero = some (.int .u64 0) := by
 have h : (prog.info? 110).isSome = true := by kernel_rfl
 exact ⟨(prog.info? 110).get h, (Option.some_get h).symm, by kernel_rfl, by kernel_rfl, by kernel_rfl⟩
theorem rnum_a_spec (n : BitVec 64) (w : World) (ih : ∀ m : BitVec 64, m.toNat < n.toNat → ∀ w : World, Ret prog 67 #[.int .u64 (m.toNat : Int)] w (fun v w' => Le w w' ∧ OwnF byteF 5 w.heap.size w' v (Cn.num m.toNat))) :
 Ret prog 67 #[.int .u64 ((n).toNat : Int)] w (fun v w' => Le w w' ∧ OwnF byteF 5 w.heap.size w' v (Cn.num n.toNat)) := by
 obtain ⟨ie5, ti5, ts5, tb5, tz5⟩ := inf5
 refine enT [.int .u64 ((n).toNat : Int)] 17 func67 rfl rfl (C.sr fun K1 => O.asg (K1 (C.sq fun K2 => C.sr fun K3 => O.mv (O.lssU (m := 64) (b := 128#64) rfl rfl (K3 (C.condD rfl (fun c4 => ?_) (fun c4 => ?_)))))))
 ·
  have hs4 : n.toNat < 128 := by simpa [BitVec.lt_def] using c4
  refine C.sr fun K4 => O.mv (O.convUU (m := 64) (m' := 8) U110 U5 rfl rfl rfl (O.lit1 U30 ti5 ts5 tz5 rfl rfl (fun b7 w1 hb7 hz7 e1 => ?_)))
  have z1 := e1.size
  have hl7 := hz7.own.lt
  have h1007 : OwnF byteF 5 w.heap.size w1 _ [UInt8.ofBitVec (n.setWidth 8)] := OwnF.lit1 rfl hz7 rfl (by omega)
  refine O.asg (K4 (C.ret (Outs.one rfl rfl ?_)))
  exact ⟨e1, h1007.lst (Cn.num_last hs4).symm⟩
 have hs4 : ¬ n.toNat < 128 := by simpa [BitVec.lt_def, BitVec.le_def] using c4
 have hlt : (n / 128#64).toNat < n.toNat := by rw [BitVec.toNat_udiv]; show n.toNat / 128 < n.toNat; omega
 refine C.skip (K2 (C.sr fun K5 => O.mv (O.remU (m := 64) (b := 128#64) rfl rfl rfl rfl (by decide) (O.addU (m := 64) (a := 128#64) rfl rfl rfl rfl (O.convUU (m := 64) (m' := 8) U110 U5 rfl rfl rfl (O.lit1 U30 ti5 ts5 tz5 rfl rfl (fun b12 w2 hb12 hz12 e2 => ?_)))))))
 have z2 := e2.size
 have hl12 := hz12.own.lt
 have h1012 : OwnF byteF 5 w.heap.size w2 _ [UInt8.ofBitVec ((128#64 + n % 128#64).setWidth 8)] := OwnF.lit1 rfl hz12 rfl (by omega)
 refine O.mv (O.quoU (m := 64) (b := 128#64) rfl rfl rfl rfl (by decide) (O.call call67 (args1 rfl) (ih (n / 128#64) hlt _) ?_))
 rintro v_15 w3 ⟨e3, h15⟩
 have z3 := e3.size
 have h15s := h15.sl
 refine O.appF (G := byteF) U30 ti5 tz5 ts5 rfl rfl rfl (h1012.keep e3) h15s (by rw [tb5]; have := Cn.num_u (n / 128#64); simp only [List.length_cons, List.length_nil]; omega) (by unfold maxLen; have := Cn.num_u (n / 128#64); simp only [List.length_cons, List.length_nil]; omega) (by omega) (fun v16 w4 h16 e4 => ?_)
 have z4 := e4.size
 have h16s := h16.sl
 refine O.asg (K5 (C.ret (Outs.one rfl rfl ?_)))
 first
 | exact ⟨(Ext.new (Ext.trans e2 e3) e4 (by intro i hi h; have := (h1012.keep e3).bk_ge i h; omega)), h1007.lst (Cn.num_last hs4).symm⟩
 | exact ⟨(Ext.new (Ext.trans e2 e3) e4 (by intro i hi h; have := (h1012.keep e3).bk_ge i h; omega)), (h16).lst (Cn.num_step2 hs4).symm⟩
theorem rnum_spec (n : BitVec 64) (w : World) : Ret prog 67 #[.int .u64 (n.toNat : Int)] w (fun v w' => Le w w' ∧ OwnF byteF 5 w.heap.size w' v (Cn.num n.toNat)) := by
 have key : ∀ (k : Nat) (n : BitVec 64), n.toNat = k → ∀ w : World, Ret prog 67 #[.int .u64 (n.toNat : Int)] w (fun v w' => Le w w' ∧ OwnF byteF 5 w.heap.size w' v (Cn.num n.toNat)) := by
  intro k
  induction k using Nat.strongRecOn with
  | _ k ih => exact fun n hn w => rnum_a_spec n w fun m hm w => ih m.toNat (hn ▸ hm) m rfl w
 exact key _ n rfl w
theorem rdots_spec (v0 : Value) (l : List Dt.Dot) (F : Nat → Prop) (w : World) (hl : Sl Dt.dotF.enc w F v0 l) (hn : l.length ≤ 1000000) :
 Ret prog 157 #[v0] w (fun v w' => Le w w' ∧ OwnF byteF 5 w.heap.size w' v (Cn.dotsB l)) := by
 have hle := hl.le
 have hnl := Cn.num_le l.length (by omega)
 obtain ⟨ie5, ti5, ts5, tb5, tz5⟩ := inf5
 refine enT [v0] 33 func157 rfl rfl (C.sr fun K1 => O.asg (K1 (C.sr fun K2 => O.mv (O.len U41 rfl hl (O.convIU (m' := 64) U3 U110 rfl rfl rfl (O.call call67 (args1 rfl) (rnum_spec (BitVec.ofInt 64 (l.length : Int)) _) ?_))))))
 rintro v_8 w1 ⟨e1, h8⟩
 have z1 := e1.size
 rw [Cn.u_def, Cn.u_nat (by omega)] at h8
 refine O.asg (K2 (C.sq fun K3 => C.sr fun K4 => O.asg (K4 (C.bl fun K5 => C.loop0 (σ := Nat × Value) (fun f0 w0 ⟨k, o⟩ f wz => f 3 = o ∧ f 4 = .int .i64 (k) ∧ f 0 = f0 0 ∧ f 2 = f0 2 ∧ Le w wz ∧ OwnF byteF 5 w.heap.size wz o (Cn.num l.length ++ (l.take k).flatMap Cn.dotB) ∧ k ≤ l.length) (fun ⟨k, o⟩ => l.length - k) (0, v_8) ?_ ?_))))
 ·
  refine ⟨rfl, rfl, rfl, rfl, e1, ((h8).lst (by simp)), ?_⟩
  exact Nat.zero_le _
 rintro ⟨k, o⟩ f_1 w2 ⟨s3_1, s4_1, s0_1, s2_1, e_1, r0_1, hk⟩
 have z_1 := e_1.size
 have r0_1s := r0_1.sl
 have hfl := Cn.flatMap_take_le (f := Cn.dotB) (b := 20) (l := l) (fun x _ => Cn.dotB_le x) hk
 refine C.sq fun K6 => C.sr fun K7 => O.mv (O.mv (O.len U41 s0_1 (hl.keep e_1) (O.lssI s4_1 rfl (K7 (C.condD rfl (fun c12 => ?_) (fun c12 => ?_))))))
 ·
  have hk2 : k < l.length := by omega
  have hn1 := Cn.num_u (BitVec.ofInt 64 (l[k]'hk2).1)
  have hn2 := Cn.num_u (BitVec.ofInt 64 (l[k]'hk2).2)
  refine C.skip (K6 (C.sq fun K8 => C.bl fun K9 => C.drawB (wB := w) (by kernel_rfl) fun w3 e3 => ?_))
  have z3 := e3.size
  have t0 := Ext.trans e_1 e3
  refine D.mv 0 rfl t0 (D.mv 1 rfl t0 (D.mv 2 rfl t0 ?_))
  obtain ⟨a18, h18, hr18⟩ := Sl.at (i := (k : Int)) (P := prog) U41 Z112 rfl hl (by omega)
  refine D.t 3 rfl t0 (fun _ _ _ hN => O.idxR s0_1 s4_1 hr18 (O.nil hN)) (D.t 4 rfl t0 (fun _ _ _ hN => O.ft U112 rfl Z3 rfl (O.nil hN)) (D.t 5 rfl t0 (fun _ hw_ _ hN => O.loadAtF (G := Dt.dotF) isAgg3 rfl rfl (h18.keep hw_) (O.nil hN)) (D.t 6 rfl t0 (fun _ _ _ hN => O.convIU (m' := 64) U3 U110 rfl rfl rfl (O.nil hN)) (D.mv 9 rfl t0 (D.mv 10 rfl t0 ?_)))))
  obtain ⟨a26, h26, hr26⟩ := Sl.at (i := (k : Int)) (P := prog) U41 Z112 rfl hl (by omega)
  refine D.t 11 rfl t0 (fun _ _ _ hN => O.idxR s0_1 s4_1 hr26 (O.nil hN)) (D.t 12 rfl t0 (fun _ _ _ hN => O.ft U112 rfl Z3 rfl (O.nil hN)) (D.t 13 rfl t0 (fun _ hw_ _ hN => O.loadAtF (G := Dt.dotF) isAgg3 rfl rfl (h26.keep hw_) (O.nil hN)) (D.t 14 rfl t0 (fun _ _ _ hN => O.convIU (m' := 64) U3 U110 rfl rfl rfl (O.nil hN)) (D.on 7 rfl rfl (O.call call67 (args1 rfl) (rnum_spec (BitVec.ofInt 64 (l[k]'hk2).1) _) ?_)))))
  rintro v_22 w4 ⟨e4, h22⟩
  have z4 := e4.size
  refine O.nil ⟨(Ext.trans t0 e4), ?_⟩
  have h22s := h22.sl
  refine D.on 8 rfl rfl ?_
  have t1 := (r0_1.keep e3).keep e4
  refine O.appF (G := byteF) U30 ti5 tz5 ts5 rfl s3_1 rfl t1 h22s (by rw [tb5]; (try simp only [List.length_append]); omega) (by unfold maxLen; (try simp only [List.length_append]); omega) (by omega) (fun v23 w5 h23 e5 => ?_)
  have z5 := e5.size
  have h23s := h23.sl
  have t2 := Ext.new (Ext.trans t0 e4) e5 (by intro i hi h; have := t1.bk_ge i h; omega)
  refine O.nil ⟨t2, D.on 15 rfl rfl (O.call call67 (args1 rfl) (rnum_spec (BitVec.ofInt 64 (l[k]'hk2).2) _) ?_)⟩
  rintro v_30 w6 ⟨e6, h30⟩
  have z6 := e6.size
  refine O.nil ⟨(Ext.trans t2 e6), ?_⟩
  have h30s := h30.sl
  refine D.on 16 rfl rfl (O.appF (G := byteF) U30 ti5 tz5 ts5 rfl rfl rfl (h23.keep e6) h30s (by rw [tb5]; (try simp only [List.length_append]); omega) (by unfold maxLen; (try simp only [List.length_append]); omega) (by omega) (fun v31 w7 h31 e7 => ?_))
  have z7 := e7.size
  have h31s := h31.sl
  have t3 := Ext.new (Ext.trans t2 e6) e7 (by intro i hi h; have := (h23.keep e6).bk_ge i h; omega)
  refine O.nil ⟨t3, D.as 17 rfl t3 (D.dn (K9 (K8 (C.region (O.mv (O.addI s4_1 rfl (by unfold InI; omega) (O.asg (O.nil (⟨(k + 1, _), ⟨rfl, rfl, s0_1, s2_1, t3, ((h31).lst (by rw [Cn.flatMap_take _ hk2, Cn.u_def, Cn.u_def]; unfold Cn.dotB; simp only [List.append_assoc])), ?_⟩, by first | omega | (simp only []; omega)⟩)))))))))⟩
  omega
 refine C.exit (K5 (K3 (C.sr fun K10 => O.mv (O.asg (K10 (C.ret (Outs.one rfl s3_1 ?_)))))))
 obtain rfl : k = l.length := by omega
 rw [List.take_length] at r0_1
 exact ⟨e_1, r0_1⟩
theorem rctx_spec (v1 v2 : Value) (x : Cn.Ctx) (F : Nat → Prop) (w : World) (hv : Sl Dt.dotF.enc w F v1 x.1) (hc : Sl Dt.dotF.enc w F v2 x.2) (hn1 : x.1.length ≤ 1000000) (hn2 : x.2.length ≤ 1000000) :
 Ret prog 107 #[.agg #[v1, v2]] w (fun v w' => Le w w' ∧ OwnF byteF 5 w.heap.size w' v (Cn.ctxB x)) := by
 have hd1 := Cn.dotsB_le hn1
 have hd2 := Cn.dotsB_le hn2
 obtain ⟨ie5, ti5, ts5, tb5, tz5⟩ := inf5
 refine enT [.agg #[v1, v2]] 10 func107 rfl rfl (C.sr fun K1 => O.box (v := .agg #[v1, v2]) rfl (fun b1 w1 hb1 hz1 e1 => ?_))
 have z1 := e1.size
 have h1 := hz1.own
 have hl1 := h1.lt
 refine O.asg (K1 (C.sd fun K2 w2 e2 z2 => D.t 0 rfl (Le.refl _) (fun _ _ _ hN => O.fa U44 rfl Z42 rfl (O.nil hN)) (D.t 1 rfl (Le.refl _) (fun _ hw_ _ hN => O.loadO isAgg42 rfl ((h1.keep e2).keep hw_) rfl (O.nil hN)) (D.t 3 rfl (Le.refl _) (fun _ _ _ hN => O.fa U44 rfl Z41 rfl (O.nil hN)) (D.t 4 rfl (Le.refl _) (fun _ hw_ _ hN => O.loadO isAgg41 rfl ((h1.keep e2).keep hw_) rfl (O.nil hN)) (D.on 2 rfl rfl (O.call call157 (args1 rfl) (rdots_spec v1 x.1 F _ ((hv.keep e1).keep e2) hn1) ?_)))))))
 rintro v_5 w3 ⟨e3, h5⟩
 have z3 := e3.size
 refine O.nil ⟨e3, ?_⟩
 have h5s := h5.sl
 refine D.on 5 rfl rfl (O.call call157 (args1 rfl) (rdots_spec v2 x.2 F _ (((hc.keep e1).keep e2).keep e3) hn2) ?_)
 rintro v_8 w4 ⟨e4, h8⟩
 have z4 := e4.size
 refine O.nil ⟨(Ext.trans e3 e4), ?_⟩
 have h8s := h8.sl
 refine D.on 6 rfl rfl (O.appF (G := byteF) U30 ti5 tz5 ts5 rfl rfl rfl (h5.keep e4) h8s (by rw [tb5]; (try simp only [List.length_append]); omega) (by unfold maxLen; (try simp only [List.length_append]); omega) (by omega) (fun v9 w5 h9 e5 => ?_))
 have z5 := e5.size
 have h9s := h9.sl
 have t0 := Ext.new (Ext.trans e3 e4) e5 (by intro i hi h; have := (h5.keep e4).bk_ge i h; omega)
 refine O.nil ⟨t0, D.as 7 rfl t0 (K2 (C.ret (Outs.one rfl rfl ?_)))⟩
 exact ⟨(Ext.new (Ext.trans (Ext.trans (Ext.trans e1 e2) e3) e4) e5 (by intro i hi h; have := (h5.keep e4).bk_ge i h; omega)), h9.low (by omega)⟩
theorem rstr_spec (s : List UInt8) (w : World) (hn : s.length ≤ 1000000) :
 Ret prog 68 #[str (s)] w (fun v w' => Le w w' ∧ OwnF byteF 5 w.heap.size w' v (Cn.strB s)) := by
 have hnl := Cn.num_le s.length (by omega)
 obtain ⟨ie5, ti5, ts5, tb5, tz5⟩ := inf5
 refine enT [str (s)] 9 func68 rfl rfl (C.sr fun K1 => O.asg (K1 (C.sr fun K2 => O.mv (O.lenS U9 rfl (O.convIU (m' := 64) U3 U110 rfl rfl rfl (O.call call67 (args1 rfl) (rnum_spec (BitVec.ofInt 64 (s.length : Int)) _) ?_))))))
 rintro v_6 w1 ⟨e1, h6⟩
 have z1 := e1.size
 rw [Cn.u_def, Cn.u_nat (by omega)] at h6
 refine O.mv (O.appS U30 U9 ti5 tz5 ts5 tb5 rfl rfl h6 (by omega) (by unfold maxLen; omega) (by omega) (fun v8 w2 h8 e2 => ?_))
 have z2 := e2.size
 have h8s := h8.sl
 refine O.asg (K2 (C.ret (Outs.one rfl rfl ?_)))
 exact ⟨(Ext.new e1 e2 (by intro i hi h; have := h6.bk_ge i h; omega)), h8.low (by omega)⟩
theorem rbytes_spec (va1 va2 va3 : Value) (a : Cn.Cart) (F : Nat → Prop) (w : World) (hav : Sl Dt.dotF.enc w F va1 a.1.1) (hac : Sl Dt.dotF.enc w F va2 a.1.2) (hai : Sl itemE w F va3 a.2) (hF : ∀ k, F k → k < w.heap.size) (hn : a.2.length ≤ 1000000) (hS : ∀ x ∈ a.2, x.1.length ≤ 1000000 ∧ x.2.length ≤ 1000000) (hp : a.1.1.length ≤ 1000000) (hq : a.1.2.length ≤ 1000000) :
 Ret prog 69 #[.agg #[va1, va2, va3]] w (fun v w' => Le w w' ∧ OwnF byteF 5 w.heap.size w' v (Cn.bytes a)) := by
 have hle := hai.le
 have hd1 := Cn.dotsB_le hp
 have hd2 := Cn.dotsB_le hq
 have hcl : (Cn.ctxB a.1).length ≤ 40000020 := by unfold Cn.ctxB; rw [List.length_append]; omega
 have hnl := Cn.num_le a.2.length (by omega)
 obtain ⟨ie5, ti5, ts5, tb5, tz5⟩ := inf5
 obtain ⟨ie110, ti110, ts110, tb110, tz110⟩ := inf110
 refine enT [.agg #[va1, va2, va3]] 79 func69 rfl rfl (C.sr fun K1 => O.box (v := .agg #[va1, va2, va3]) rfl (fun b1 w1 hb1 hz1 e1 => ?_))
 have z1 := e1.size
 have h1 := hz1.own
 have hl1 := h1.lt
 refine O.asg (K1 (C.sd fun K2 w2 e2 z2 => D.t 0 rfl (Le.refl _) (fun _ _ _ hN => O.fa U47 rfl Z44 rfl (O.nil hN)) (D.t 1 rfl (Le.refl _) (fun _ hw_ _ hN => O.loadOA isAgg44 Z44 rfl ((h1.keep e2).keep hw_) (leB rfl) (O.nil hN)) (D.t 3 rfl (Le.refl _) (fun _ _ _ hN => O.fa U47 rfl Z45 rfl (O.nil hN)) (D.t 4 rfl (Le.refl _) (fun _ hw_ _ hN => O.loadO isAgg45 rfl ((h1.keep e2).keep hw_) rfl (O.nil hN)) (D.tk 5 rfl rfl rfl rfl (Le.refl _) len_form (fun _ hw_ _ hN => O.len U45 rfl (((hai.keep e1).keep e2).keep hw_) (O.nil hN)) ?_))))))
 refine D.t 6 rfl (Le.refl _) (fun _ _ _ hN => O.convIU (m' := 64) U3 U110 rfl rfl rfl (O.nil hN)) (D.on 2 rfl rfl (O.call call107 (args1 rfl) (rctx_spec va1 va2 a.1 F _ ((hav.keep e1).keep e2) ((hac.keep e1).keep e2) hp hq) ?_))
 rintro v_12 w3 ⟨e3, h12⟩
 have z3 := e3.size
 refine O.nil ⟨e3, ?_⟩
 have h12s := h12.sl
 refine D.on 7 rfl rfl (O.call call67 (args1 rfl) (rnum_spec (BitVec.ofInt 64 (a.2.length : Int)) _) ?_)
 rintro v_17 w4 ⟨e4, h17⟩
 have z4 := e4.size
 refine O.nil ⟨(Ext.trans e3 e4), ?_⟩
 rw [Cn.u_def, Cn.u_nat (by omega)] at h17
 have h17s := h17.sl
 refine D.on 8 rfl rfl (O.appF (G := byteF) U30 ti5 tz5 ts5 rfl rfl rfl (h12.keep e4) h17s (by rw [tb5]; (try simp only [List.length_append]); omega) (by unfold maxLen; (try simp only [List.length_append]); omega) (by omega) (fun v18 w5 h18 e5 => ?_))
 have z5 := e5.size
 have h18s := h18.sl
 have t0 := Ext.new (Ext.trans e3 e4) e5 (by intro i hi h; have := (h12.keep e4).bk_ge i h; omega)
 refine O.nil ⟨t0, ?_⟩
 obtain ⟨g18, ho18, hb18⟩ := OG.of h18 (by have := Cn.num_len a.2.length; simp only [List.length_append]; omega)
 have hc18 := ho18.2.2
 refine D.as 9 rfl t0 (K2 (C.sq fun K3 => C.sr fun K4 => O.asg (K4 (C.bl fun K5 => C.loop0 (σ := Nat × Value × Nat) (fun f0 w0 ⟨k, o, gl⟩ f w => f 3 = o ∧ f 4 = .int .i64 (k) ∧ f 1 = f0 1 ∧ f 2 = f0 2 ∧ Ext (fun k => k = g18) w0 w ∧ OG byteF 5 w o gl (Cn.ctxB a.1 ++ (Cn.num a.2.length ++ (a.2.take k).flatMap Cn.itemB)) ∧ k ≤ a.2.length ∧ (gl = g18 ∨ w0.heap.size ≤ gl) ∧ gl < w.heap.size) (fun ⟨k, o, gl⟩ => a.2.length - k) (0, v18, g18) ?_ ?_))))
 ·
  refine ⟨rfl, rfl, rfl, rfl, Ext.refl _ _, ((ho18).lst (by simp)), ?_⟩
  exact ⟨Nat.zero_le _, .inl rfl, by omega⟩
 rintro ⟨k, o, gl⟩ f_1 w6 ⟨s3_1, s4_1, s1_1, s2_1, e_1, r0_1, ⟨hk, hbgl, hcgl⟩⟩
 have z_1 := e_1.size
 have hfl := Cn.flatMap_take_le (f := Cn.itemB) (b := 41000020) (l := a.2) (fun x hx => Cn.itemB_le (hS x hx)) hk
 refine C.sq fun K6 => C.sr fun K7 => O.mv (O.fa U47 rfl Z45 s1_1 ?_)
 have t1 := ((h1.keep e2).keep e3).keep e4
 have t2 := t1.keepM e5 (by intro h; have := (h12.keep e4).bk_ge _ h; omega)
 refine O.loadO isAgg45 rfl (t2.keepO e_1) rfl ?_
 have t3 := Ext.trans (Ext.trans e1 e2) e3
 have t4 := Ext.new (Ext.trans t3 e4) e5 (by intro i hi h; have := (h12.keep e4).bk_ge i h; omega)
 have t5 := hai.keep (Ext.nr t4 e_1)
 refine O.len U45 rfl t5 (O.lssI s4_1 rfl (K7 (C.condD rfl (fun c23 => ?_) (fun c23 => ?_))))
 ·
  have hk2 : k < a.2.length := by omega
  refine C.skip (K6 (C.sq fun K8 => C.bl fun K9 => C.sr fun K10 => O.fa U47 rfl Z45 s1_1 (O.loadO isAgg45 rfl (t2.keepO e_1) rfl (O.mv (O.idx U45 Z117 rfl rfl t5 s4_1 (by omega) (fun a29 h29 => O.loadE (E := itemE) isAgg117 Z117 rfl rfl h29 (fun cs30 hcs30 => ?_)))))))
  obtain ⟨vm30, rfl, hm30⟩ := hcs30
  obtain ⟨u, hu⟩ : ∃ u : ItemT, u = a.2[k] := ⟨_, rfl⟩
  have hSu := hS u (by rw [hu]; exact List.getElem_mem _)
  refine O.cast (v' := .agg #[str u.1, vm30]) (by rw [hu]; rfl) ?_
  have hm30 : Sl markF.enc w6 F vm30 u.2 := by rw [hu]; exact hm30
  obtain ⟨ml, mc, rfl, hmc⟩ := hm30.val
  have hsl30 : (Cn.strB u.1).length ≤ 1000010 := by have := Cn.num_le u.1.length (by omega); unfold Cn.strB; rw [List.length_append]; omega
  have hnl30 := Cn.num_le u.2.length (by omega)
  refine O.alloc zeroValue117 (fun b5 w7 hb5 hz5 e7 => ?_)
  have z7 := e7.size
  have h5 := hz5.own
  have hl5 := h5.lt
  refine O.storeA (vs := [str u.1, .slice ml u.2.length mc]) Z117 rfl rfl rfl (ones2 rfl) h5 (leB rfl) (fun w8 hs8 e8 z8 => K10 (C.sq fun K11 => C.join (fun f w f' w' => Ext (fun k => k = gl) w w' ∧ f' 1 = f 1 ∧ f' 2 = f 2 ∧ f' 4 = f 4 ∧ f' 5 = f 5 ∧ ∃ (v3m : Value) (g3m : Nat), f' 3 = v3m ∧ OG byteF 5 w' v3m g3m (Cn.ctxB a.1 ++ (Cn.num a.2.length ++ (a.2.take k).flatMap Cn.itemB) ++ Cn.strB u.1 ++ Cn.num u.2.length) ∧ (g3m = gl ∨ w.heap.size ≤ g3m)) ?_ ?_))
  ·
   refine C.drawB (wB := w) (by kernel_rfl) fun w9 e9 => ?_
   have z9 := e9.size
   have t6 := Ext.trans (Ext.nr t4 e_1) e7
   have t7 := Ext.trans (Ext.nr t6 e8) e9
   refine D.mv 0 rfl t7 (D.t 1 rfl t7 (fun _ _ _ hN => O.fa U117 rfl Z9 rfl (O.nil hN)) (D.t 5 rfl t7 (fun _ _ _ hN => O.fa U117 rfl Z115 rfl (O.nil hN)) (D.many [2, 6] (by kernel_rfl) (by decide) ⟨?_, ?_, trivial⟩)))
   ·
    refine D.stepU rfl rfl (O.loadO isAgg9 rfl (hs8.keep e9) rfl (O.nil ⟨t7, D.many [3, 6] (by kernel_rfl) (by decide) ⟨?_, ?_, trivial⟩⟩))
    ·
     refine D.stepU rfl rfl (O.call call68 (args1 rfl) (rstr_spec u.1 _ (by omega)) ?_)
     rintro v_34 w10 ⟨e10, h34⟩
     have z10 := e10.size
     have t8 := Ext.trans t7 e10
     refine O.nil ⟨t8, ?_⟩
     have h34s := h34.sl
     refine D.many [4, 6] (by kernel_rfl) (by decide) ⟨?_, ?_, trivial⟩
     ·
      refine D.stepU rfl rfl ?_
      have t9 := (r0_1.keep e7).keepA e8
      have t10 := (t9.keep e9).keep e10
      refine O.appG (G := byteF) U30 ti5 tz5 ts5 rfl s3_1 rfl t10 h34s (by rw [tb5]; (try simp only [List.length_append]); omega) (by unfold maxLen; (try simp only [List.length_append]); omega) (fun v35 gg35 w11 h35 hg35 e11 hw35 => ?_)
      have e11m := e11.mono (M' := fun k => k = _) (fun k _ hk => t10.2.1 k hk)
      have z11 := e11.size
      have hgl35 := h35.2.2
      have t11 := Ext.new t8 e11 (by intro i hi h; replace h := t10.2.1 _ h; (try dsimp only at h); omega)
      refine O.nil ⟨t11, D.on 6 rfl rfl (O.loadO isAgg115 rfl (((hs8.keep e9).keep e10).keepM e11 (by intro h; replace h := t10.2.1 _ h; (try dsimp only at h); omega)) rfl (O.nil ⟨t11, D.tk 7 rfl rfl rfl rfl t11 len_form (fun _ hw_ _ hN => O.lenL U115 rfl (O.nil hN)) (D.t 8 rfl t11 (fun _ _ _ hN => O.convIU (m' := 64) U3 U110 rfl rfl rfl (O.nil hN)) (D.on 9 rfl rfl (O.call call67 (args1 rfl) (rnum_spec (BitVec.ofInt 64 (u.2.length : Int)) _) ?_)))⟩))⟩
      rintro v_40 w12 ⟨e12, h40⟩
      have z12 := e12.size
      refine O.nil ⟨(Ext.trans t11 e12), ?_⟩
      rw [Cn.u_def, Cn.u_nat (by omega)] at h40
      have h40s := h40.sl
      refine D.on 10 rfl rfl (O.appG (G := byteF) U30 ti5 tz5 ts5 rfl rfl rfl (h35.keep e12) h40s (by rw [tb5]; (try simp only [List.length_append]); omega) (by unfold maxLen; (try simp only [List.length_append]); omega) (fun v41 gg41 w13 h41 hg41 e13 hw41 => ?_))
      have e13m := e13.mono (M' := fun k => k = _) (fun k _ hk => (h35.keep e12).2.1 k hk)
      have z13 := e13.size
      have hgl41 := h41.2.2
      have t12 := Ext.new (Ext.trans t11 e12) e13 (by intro i hi h; replace h := (h35.keep e12).2.1 _ h; (try dsimp only at h); omega)
      refine O.nil ⟨t12, D.as 11 rfl t12 (D.dn ?_)⟩
      exact ⟨(Ext.nw (Ext.nw (Ext.nw (Ext.nw (Ext.nw (Ext.refl _ _) e9) e10) e11m) e12) e13m), rfl, rfl, rfl, rfl, ⟨_, _, rfl, ⟨h41, by omega⟩⟩⟩
     refine D.stepU rfl rfl (O.loadO isAgg115 rfl ((hs8.keep e9).keep e10) rfl (O.nil ⟨t8, D.tk 7 rfl rfl rfl rfl t8 len_form (fun _ hw_ _ hN => O.lenL U115 rfl (O.nil hN)) (D.t 8 rfl t8 (fun _ _ _ hN => O.convIU (m' := 64) U3 U110 rfl rfl rfl (O.nil hN)) (D.on 4 rfl rfl ?_))⟩))
     have t13 := (r0_1.keep e7).keepA e8
     have t14 := (t13.keep e9).keep e10
     refine O.appG (G := byteF) U30 ti5 tz5 ts5 rfl s3_1 rfl t14 h34s (by rw [tb5]; (try simp only [List.length_append]); omega) (by unfold maxLen; (try simp only [List.length_append]); omega) (fun v35 gg35 w14 h35 hg35 e14 hw35 => ?_)
     have e14m := e14.mono (M' := fun k => k = _) (fun k _ hk => t14.2.1 k hk)
     have z14 := e14.size
     have hgl35 := h35.2.2
     have t15 := Ext.new t8 e14 (by intro i hi h; replace h := t14.2.1 _ h; (try dsimp only at h); omega)
     refine O.nil ⟨t15, D.on 9 rfl rfl (O.call call67 (args1 rfl) (rnum_spec (BitVec.ofInt 64 (u.2.length : Int)) _) ?_)⟩
     rintro v_40 w15 ⟨e15, h40⟩
     have z15 := e15.size
     have t16 := Ext.trans t15 e15
     refine O.nil ⟨t16, ?_⟩
     rw [Cn.u_def, Cn.u_nat (by omega)] at h40
     have h40s := h40.sl
     refine D.on 10 rfl rfl (O.appG (G := byteF) U30 ti5 tz5 ts5 rfl rfl rfl (h35.keep e15) h40s (by rw [tb5]; (try simp only [List.length_append]); omega) (by unfold maxLen; (try simp only [List.length_append]); omega) (fun v41 gg41 w16 h41 hg41 e16 hw41 => ?_))
     have e16m := e16.mono (M' := fun k => k = _) (fun k _ hk => (h35.keep e15).2.1 k hk)
     have z16 := e16.size
     have hgl41 := h41.2.2
     have t17 := Ext.new t16 e16 (by intro i hi h; replace h := (h35.keep e15).2.1 _ h; (try dsimp only at h); omega)
     refine O.nil ⟨t17, D.as 11 rfl t17 (D.dn ?_)⟩
     exact ⟨(Ext.nw (Ext.nw (Ext.nw (Ext.nw (Ext.nw (Ext.refl _ _) e9) e10) e14m) e15) e16m), rfl, rfl, rfl, rfl, ⟨_, _, rfl, ⟨h41, by omega⟩⟩⟩
    refine D.stepU rfl rfl (O.loadO isAgg115 rfl (hs8.keep e9) rfl (O.nil ⟨t7, D.tk 7 rfl rfl rfl rfl t7 len_form (fun _ hw_ _ hN => O.lenL U115 rfl (O.nil hN)) (D.t 8 rfl t7 (fun _ _ _ hN => O.convIU (m' := 64) U3 U110 rfl rfl rfl (O.nil hN)) (D.on 3 rfl rfl (O.call call68 (args1 rfl) (rstr_spec u.1 _ (by omega)) ?_)))⟩))
    rintro v_34 w17 ⟨e17, h34⟩
    have z17 := e17.size
    have t18 := Ext.trans t7 e17
    refine O.nil ⟨t18, ?_⟩
    have h34s := h34.sl
    refine D.on 4 rfl rfl ?_
    have t19 := (r0_1.keep e7).keepA e8
    have t20 := (t19.keep e9).keep e17
    refine O.appG (G := byteF) U30 ti5 tz5 ts5 rfl s3_1 rfl t20 h34s (by rw [tb5]; (try simp only [List.length_append]); omega) (by unfold maxLen; (try simp only [List.length_append]); omega) (fun v35 gg35 w18 h35 hg35 e18 hw35 => ?_)
    have e18m := e18.mono (M' := fun k => k = _) (fun k _ hk => t20.2.1 k hk)
    have z18 := e18.size
    have hgl35 := h35.2.2
    have t21 := Ext.new t18 e18 (by intro i hi h; replace h := t20.2.1 _ h; (try dsimp only at h); omega)
    refine O.nil ⟨t21, D.on 9 rfl rfl (O.call call67 (args1 rfl) (rnum_spec (BitVec.ofInt 64 (u.2.length : Int)) _) ?_)⟩
    rintro v_40 w19 ⟨e19, h40⟩
    have z19 := e19.size
    have t22 := Ext.trans t21 e19
    refine O.nil ⟨t22, ?_⟩
    rw [Cn.u_def, Cn.u_nat (by omega)] at h40
    have h40s := h40.sl
    refine D.on 10 rfl rfl (O.appG (G := byteF) U30 ti5 tz5 ts5 rfl rfl rfl (h35.keep e19) h40s (by rw [tb5]; (try simp only [List.length_append]); omega) (by unfold maxLen; (try simp only [List.length_append]); omega) (fun v41 gg41 w20 h41 hg41 e20 hw41 => ?_))
    have e20m := e20.mono (M' := fun k => k = _) (fun k _ hk => (h35.keep e19).2.1 k hk)
    have z20 := e20.size
    have hgl41 := h41.2.2
    have t23 := Ext.new t22 e20 (by intro i hi h; replace h := (h35.keep e19).2.1 _ h; (try dsimp only at h); omega)
    refine O.nil ⟨t23, D.as 11 rfl t23 (D.dn ?_)⟩
    exact ⟨(Ext.nw (Ext.nw (Ext.nw (Ext.nw (Ext.nw (Ext.refl _ _) e9) e17) e18m) e19) e20m), rfl, rfl, rfl, rfl, ⟨_, _, rfl, ⟨h41, by omega⟩⟩⟩
   refine D.stepU rfl rfl (O.loadO isAgg115 rfl (hs8.keep e9) rfl (O.nil ⟨t7, D.tk 7 rfl rfl rfl rfl t7 len_form (fun _ hw_ _ hN => O.lenL U115 rfl (O.nil hN)) (D.t 8 rfl t7 (fun _ _ _ hN => O.convIU (m' := 64) U3 U110 rfl rfl rfl (O.nil hN)) (D.on 2 rfl rfl (O.loadO isAgg9 rfl (hs8.keep e9) rfl (O.nil ⟨t7, D.on 3 rfl rfl (O.call call68 (args1 rfl) (rstr_spec u.1 _ (by omega)) ?_)⟩))))⟩))
   rintro v_34 w21 ⟨e21, h34⟩
   have z21 := e21.size
   have t24 := Ext.trans t7 e21
   refine O.nil ⟨t24, ?_⟩
   have h34s := h34.sl
   refine D.on 4 rfl rfl ?_
   have t25 := (r0_1.keep e7).keepA e8
   have t26 := (t25.keep e9).keep e21
   refine O.appG (G := byteF) U30 ti5 tz5 ts5 rfl s3_1 rfl t26 h34s (by rw [tb5]; (try simp only [List.length_append]); omega) (by unfold maxLen; (try simp only [List.length_append]); omega) (fun v35 gg35 w22 h35 hg35 e22 hw35 => ?_)
   have e22m := e22.mono (M' := fun k => k = _) (fun k _ hk => t26.2.1 k hk)
   have z22 := e22.size
   have hgl35 := h35.2.2
   have t27 := Ext.new t24 e22 (by intro i hi h; replace h := t26.2.1 _ h; (try dsimp only at h); omega)
   refine O.nil ⟨t27, D.on 9 rfl rfl (O.call call67 (args1 rfl) (rnum_spec (BitVec.ofInt 64 (u.2.length : Int)) _) ?_)⟩
   rintro v_40 w23 ⟨e23, h40⟩
   have z23 := e23.size
   have t28 := Ext.trans t27 e23
   refine O.nil ⟨t28, ?_⟩
   rw [Cn.u_def, Cn.u_nat (by omega)] at h40
   have h40s := h40.sl
   refine D.on 10 rfl rfl (O.appG (G := byteF) U30 ti5 tz5 ts5 rfl rfl rfl (h35.keep e23) h40s (by rw [tb5]; (try simp only [List.length_append]); omega) (by unfold maxLen; (try simp only [List.length_append]); omega) (fun v41 gg41 w24 h41 hg41 e24 hw41 => ?_))
   have e24m := e24.mono (M' := fun k => k = _) (fun k _ hk => (h35.keep e23).2.1 k hk)
   have z24 := e24.size
   have hgl41 := h41.2.2
   have t29 := Ext.new t28 e24 (by intro i hi h; replace h := (h35.keep e23).2.1 _ h; (try dsimp only at h); omega)
   refine O.nil ⟨t29, D.as 11 rfl t29 (D.dn ?_)⟩
   exact ⟨(Ext.nw (Ext.nw (Ext.nw (Ext.nw (Ext.nw (Ext.refl _ _) e9) e21) e22m) e23) e24m), rfl, rfl, rfl, rfl, ⟨_, _, rfl, ⟨h41, by omega⟩⟩⟩
  rintro f_2 w25 ⟨e_2, s1_2, s2_2, s4_2, s5_2, ⟨v3m, g3m, s3_2, q0_2⟩⟩
  have z_2 := e_2.size
  obtain ⟨h41, hg41⟩ := q0_2
  have hgl41 := h41.2.2
  refine K11 (C.sr fun K12 => O.asg (K12 (C.bl fun K13 => C.loop0 (σ := Nat × Value × Nat) (fun f0 w0 ⟨j, o1, gm⟩ f w => f 3 = o1 ∧ f 6 = .int .i64 (j) ∧ f 1 = f0 1 ∧ f 2 = f0 2 ∧ f 4 = f0 4 ∧ f 5 = f0 5 ∧ Ext (fun k => k = g3m) w0 w ∧ OG byteF 5 w o1 gm (Cn.ctxB a.1 ++ (Cn.num a.2.length ++ (a.2.take k).flatMap Cn.itemB) ++ Cn.strB u.1 ++ (Cn.num u.2.length ++ (u.2.take j).flatMap Cn.markB)) ∧ j ≤ u.2.length ∧ (gm = g3m ∨ w0.heap.size ≤ gm) ∧ gm < w.heap.size) (fun ⟨j, o1, gm⟩ => u.2.length - j) (0, v3m, g3m) ?_ ?_)))
  ·
   refine ⟨s3_2, rfl, rfl, rfl, rfl, rfl, Ext.refl _ _, ((h41).lst (by simp)), ?_⟩
   exact ⟨Nat.zero_le _, .inl rfl, by omega⟩
  rintro ⟨j, o1, gm⟩ f_3 w26 ⟨s3_3, s6_3, s1_3, s2_3, s4_3, s5_3, e_3, r0_3, ⟨hj, hbgm, hcgm⟩⟩
  have z_3 := e_3.size
  have hfm := Cn.flatMap_take_le (f := Cn.markB) (b := 40) (l := u.2) (fun x _ => Cn.markB_le x) hj
  refine C.sq fun K14 => C.sr fun K15 => O.mv (O.fa U117 rfl Z115 (Eq.trans s5_3 s5_2) (O.loadO isAgg115 rfl ((hs8.keepO e_2).keepO e_3) rfl ?_))
  have t30 := ((hm30.keep e7).keepA e8).keepA e_2
  refine O.len U115 rfl (t30.keepA e_3) (O.lssI s6_3 rfl (K15 (C.condD rfl (fun c46 => ?_) (fun c46 => ?_))))
  ·
   have hj2 : j < u.2.length := by omega
   refine C.skip (K14 (C.sq fun K16 => C.bl fun K17 => C.sr fun K18 => O.fa U117 rfl Z115 (Eq.trans s5_3 s5_2) (O.loadO isAgg115 rfl ((hs8.keepO e_2).keepO e_3) rfl (O.mv (O.idx U115 Z114 rfl rfl (t30.keepA e_3) s6_3 (by omega) (fun a52 h52 => O.loadG (G := markF) isAgg114 Z114 rfl h52 ?_))))))
   obtain ⟨m, hm⟩ : ∃ m : MarkT, m = u.2[j] := ⟨_, rfl⟩
   refine O.cast (v' := mv m) (by rw [hm]; rfl) (O.alloc zeroValue114 (fun b7 w27 hb7 hz7 e27 => ?_))
   have z27 := e27.size
   have h7 := hz7.own
   have hl7 := h7.lt
   refine O.storeA (vs := [.int .i64 m.1.1, .int .i64 m.1.2, .int .i64 m.2.1, .int .u64 (m.2.2.toNat : Int)]) Z114 rfl rfl rfl (by simp [Value.oneCell']) h7 (leB rfl) (fun w28 hs28 e28 z28 => K18 (C.sr fun K19 => O.fa U114 rfl Z112 rfl (O.fa U112 rfl Z3 rfl (O.loadO isAgg3 rfl hs28 rfl (O.convIU (m' := 64) U3 U110 rfl rfl rfl (O.fa U114 rfl Z112 rfl (O.fa U112 rfl Z3 rfl (O.loadO isAgg3 rfl hs28 rfl (O.convIU (m' := 64) U3 U110 rfl rfl rfl (O.fa U114 rfl Z3 rfl ?_))))))))))
   refine O.loadO isAgg3 rfl hs28 rfl (O.convIU (m' := 64) U3 U110 rfl rfl rfl (O.fa U114 rfl Z110 rfl (O.loadO isAgg110 rfl hs28 rfl (O.litn [.int .u64 ((BitVec.ofInt 64 m.1.1).toNat : Int), .int .u64 ((BitVec.ofInt 64 m.1.2).toNat : Int), .int .u64 ((BitVec.ofInt 64 m.2.1).toNat : Int), .int .u64 (m.2.2.toNat : Int)] underlying156 ti110 ts110 tz110 rfl (by decide) (by decide) rfl (by simp [Value.oneCell']) (fun b67 w29 hb67 hz67 e29 => ?_)))))
   have z29 := e29.size
   have h67 := hz67.own
   have hl67 := h67.lt
   obtain ⟨ys, hys⟩ : ∃ ys : List (BitVec 64), ys = [BitVec.ofInt 64 m.1.1, BitVec.ofInt 64 m.1.2, BitVec.ofInt 64 m.2.1, m.2.2] := ⟨_, rfl⟩
   have hy4 : ys.length = 4 := by rw [hys]; rfl
   have hq67 : Sl u64F.enc w29 (fun k => k = b67) (.slice (some ⟨b67, 0, none⟩) 4 4) ys := by
    rw [hys]
    exact Sl.of_own (G := u64F) h67 rfl (Nat.le_refl _) (by unfold maxLen; omega) (by simp [u64F])
   refine O.len underlying156 rfl hq67 (O.mv (K19 (C.bl fun K20 => C.loop0 (σ := Nat × Value × Nat) (fun f0 w0 ⟨i, o2, gq⟩ f w => f 3 = o2 ∧ f 69 = .int .i64 (i) ∧ f 1 = f0 1 ∧ f 2 = f0 2 ∧ f 4 = f0 4 ∧ f 5 = f0 5 ∧ f 6 = f0 6 ∧ f 67 = f0 67 ∧ f 68 = f0 68 ∧ Ext (fun k => k = gm) w0 w ∧ OG byteF 5 w o2 gq (Cn.ctxB a.1 ++ (Cn.num a.2.length ++ (a.2.take k).flatMap Cn.itemB) ++ Cn.strB u.1 ++ (Cn.num u.2.length ++ (u.2.take j).flatMap Cn.markB) ++ (ys.take i).flatMap (fun x : BitVec 64 => Cn.num x.toNat)) ∧ i ≤ ys.length ∧ (gq = gm ∨ w0.heap.size ≤ gq) ∧ gq < w.heap.size) (fun ⟨i, o2, gq⟩ => ys.length - i) (0, o1, gm) ?_ ?_)))
   ·
    refine ⟨s3_3, rfl, rfl, rfl, rfl, rfl, rfl, rfl, rfl, Ext.refl _ _, (((((r0_3.keep e27).keepA e28).keep e29)).lst (by simp)), ?_⟩
    exact ⟨Nat.zero_le _, .inl rfl, by omega⟩
   rintro ⟨i, o2, gq⟩ f_4 w30 ⟨s3_4, s69_4, s1_4, s2_4, s4_4, s5_4, s6_4, s67_4, s68_4, e_4, r0_4, ⟨hi, hbgq, hcgq⟩⟩
   have z_4 := e_4.size
   have hfi := Cn.flatMap_take_le (f := fun x : BitVec 64 => Cn.num x.toNat) (b := 10) (l := ys) (fun x _ => Cn.num_u x) hi
   refine C.sr fun K21 => O.lssI s69_4 s68_4 (K21 (C.sq fun K22 => C.condD rfl (fun c70 => ?_) (fun c70 => ?_)))
   ·
    have hi2 : i < ys.length := by omega
    have hni := Cn.num_u ys[i]
    refine C.skip (K22 (C.sq fun K23 => C.bl fun K24 => C.sr fun K25 => O.idx underlying156 Z110 rfl s67_4 (hq67.keepM e_4 (by intro k hk h; (try dsimp only at hk); (try dsimp only at h); omega)) s69_4 (by omega) (fun a71 h71 => O.loadU64 isAgg110 rfl h71 (O.asg (K25 (C.region (O.mv (O.mv (O.call call67 (args1 rfl) (rnum_spec (ys[i]'hi2) _) ?_)))))))))
    rintro v_75 w31 ⟨e31, h75⟩
    have z31 := e31.size
    have h75s := h75.sl
    refine O.appG (G := byteF) U30 ti5 tz5 ts5 rfl s3_4 rfl (r0_4.keep e31) h75s (by rw [tb5]; (try simp only [List.length_append]); omega) (by unfold maxLen; (try simp only [List.length_append]); omega) (fun v76 gg76 w32 h76 hg76 e32 hw76 => ?_)
    have e32m := e32.mono (M' := fun k => k = _) (fun k _ hk => (r0_4.keep e31).2.1 k hk)
    have z32 := e32.size
    have hgl76 := h76.2.2
    refine O.asg (O.nil (K24 (K23 (C.region (O.addI s69_4 rfl (by unfold InI; omega) (O.mv (O.nil (⟨(i + 1, _, _), ⟨rfl, rfl, s1_4, s2_4, s4_4, s5_4, s6_4, s67_4, s68_4, (Ext.nw (Ext.nw (Ext.nw (Ext.refl _ _) e_4) e31) e32m), ((h76).lst (by rw [Cn.flatMap_take _ hi2, List.append_assoc])), ?_⟩, by first | omega | (simp only []; omega)⟩))))))))
    exact ⟨by omega, by omega, by omega⟩
   have hi4 : i = ys.length := by omega
   refine C.exit (K20 (K17 (K16 (C.region (O.mv (O.addI (Eq.trans s6_4 s6_3) rfl (by unfold InI; omega) (O.asg (O.nil (⟨(j + 1, _, _), ⟨s3_4, rfl, (Eq.trans s1_4 s1_3), (Eq.trans s2_4 s2_3), (Eq.trans s4_4 s4_3), (Eq.trans s5_4 s5_3), (Ext.nw (Ext.nw (Ext.nw (Ext.nw (Ext.nw (Ext.refl _ _) e_3) e27) e28) e29) e_4), ((r0_4).lst (by rw [Cn.flatMap_take _ hj2, ← hm, hi4, List.take_length, hys]; unfold Cn.markB Cn.u; simp)), ?_⟩, by first | omega | (simp only []; omega)⟩)))))))))
   exact ⟨by omega, by omega, by omega⟩
  have hj3 : j = u.2.length := by omega
  refine C.exit (K13 (K9 (K8 (C.region (O.mv (O.addI (Eq.trans s4_3 (Eq.trans s4_2 s4_1)) rfl (by unfold InI; omega) (O.asg (O.nil (⟨(k + 1, _, _), ⟨s3_3, rfl, (Eq.trans s1_3 (Eq.trans s1_2 s1_1)), (Eq.trans s2_3 (Eq.trans s2_2 s2_1)), (Ext.nw (Ext.nw (Ext.nw (Ext.nw (Ext.nw (Ext.refl _ _) e_1) e7) e8) e_2) e_3), ((r0_3).lst (by rw [Cn.flatMap_take _ hk2, ← hu, hj3, List.take_length]; unfold Cn.itemB; simp only [List.append_assoc])), ?_⟩, by first | omega | (simp only []; omega)⟩)))))))))
  exact ⟨by omega, by omega, by omega⟩
 have hk3 : k = a.2.length := by omega
 refine C.exit (K5 (K3 (C.sr fun K26 => O.mv (O.asg (K26 (C.ret (Outs.one rfl s3_1 ?_)))))))
 exact ⟨(Ext.nr t4 e_1), ((r0_1).own (by omega)).lst (by rw [hk3, List.take_length]; rfl)⟩
theorem small_spec (va1 va2 va3 : Value) (a : Cn.Cart) (F : Nat → Prop) (w : World) (hav : Sl Dt.dotF.enc w F va1 a.1.1) (hac : Sl Dt.dotF.enc w F va2 a.1.2) (hai : Sl itemE w F va3 a.2) :
 Ret prog 38 #[.agg #[va1, va2, va3]] w (fun v w' => v = .bool (Cn.small a) ∧ Le w w') := by
 have hle := hai.le
 have hle1 := hav.le
 have hle2 := hac.le
 refine enT [.agg #[va1, va2, va3]] 51 func38 rfl rfl (C.sr fun K1 => O.box (v := .agg #[va1, va2, va3]) rfl (fun b1 w1 hb1 hz1 e1 => ?_))
 have z1 := e1.size
 have h1 := hz1.own
 have hl1 := h1.lt
 refine O.asg (K1 (C.sq fun K2 => C.sr fun K3 => O.asg (K3 (C.bl fun K4 => C.loop0 (σ := Nat) (fun f0 w0 k f w => f 3 = .int .i64 (k) ∧ f 1 = f0 1 ∧ Le w0 w ∧ k ≤ a.2.length ∧ ∀ i, ∀ h : i < a.2.length, i < k → Cn.smallI a.2[i] = true) (fun k => a.2.length - k) 0 ?_ ?_))))
 ·
  refine ⟨rfl, rfl, Le.refl _, ?_⟩
  exact ⟨Nat.zero_le _, fun i h k => absurd k (Nat.not_lt_zero _)⟩
 rintro k f_1 w2 ⟨s3_1, s1_1, e_1, ⟨hk, hI⟩⟩
 have z_1 := e_1.size
 refine C.sq fun K5 => C.sr fun K6 => O.mv (O.fa U47 rfl Z45 s1_1 (O.loadO isAgg45 rfl (h1.keep e_1) rfl ?_))
 have t0 := (hai.keep e1).keep e_1
 refine O.len U45 rfl t0 (O.lssI s3_1 rfl (O.mv (O.cut 3 (fun f f' => f' 12 = .bool (decide ((k : Int) < (a.2.length : Int) ∧ (k : Int) < 21)) ∧ f' 1 = f 1 ∧ f' 3 = f 3) ?_ ?_)))
 ·
  refine O.splitD (x := .tmp 9) rfl (fun c9 => ?_) (fun c9 => ?_)
  ·
   refine O.yes rfl (isT rfl c9) (O.mv (O.yes rfl (isT rfl c9) (O.lssI s3_1 rfl (O.pickT (isT rfl c9) (O.nil (⟨⟨?_, rfl, rfl⟩, rfl⟩))))))
   exact dJ rfl
  refine O.no rfl (noB (isF rfl c9) rfl) (O.no rfl (noB (isF rfl c9) rfl) (O.pickF (isF rfl c9) (O.nil (⟨⟨?_, rfl, rfl⟩, rfl⟩))))
  exact dJ rfl
 rintro f_2 ⟨s12_2, s1_2, s3_2⟩
 refine K6 (C.condD s12_2 (fun c12 => ?_) (fun c12 => ?_))
 ·
  have hk2 : k < a.2.length := by omega
  refine C.skip (K5 (C.sq fun K7 => C.bl fun K8 => C.sr fun K9 => O.fa U47 rfl Z45 (Eq.trans s1_2 s1_1) (O.loadO isAgg45 rfl (h1.keep e_1) rfl (O.mv (O.idx U45 Z117 rfl rfl t0 (Eq.trans s3_2 s3_1) (by omega) (fun a18 h18 => O.ft U117 rfl Z115 rfl (O.loadMarks isAgg115 rfl h18 (fun vm20 hm20 => O.len U115 rfl hm20 (O.gtrI rfl rfl (O.mv (O.splitD (x := .tmp 23) rfl (fun c23 => ?_) (fun c23 => ?_))))))))))))
  ·
   simp only [Int.toNat_natCast] at c23
   refine O.no rfl (noB (isT rfl c23) rfl) (O.no rfl (noB (isT rfl c23) rfl) (O.no rfl (noB (isT rfl c23) rfl) (O.no rfl (noB (isT rfl c23) rfl) (O.no rfl (noB (isT rfl c23) rfl) (O.no rfl (noB (isT rfl c23) rfl) (O.no rfl (noB (isT rfl c23) rfl) (O.no rfl (noB (isT rfl c23) rfl) (O.pickT (isT rfl c23) (K9 (C.condT rfl (C.sr fun K10 => O.asg (K10 (C.ret (Outs.one rfl rfl ?_))))))))))))))
   (refine ⟨congrArg Value.bool ?_, (Ext.trans e1 e_1)⟩
    have q : a.2.all Cn.smallI = false := Cn.all_no hk2 (Cn.smallI_no (by omega))
    unfold Cn.small
    rw [q, Bool.and_false])
  simp only [Int.toNat_natCast] at c23
  refine O.yes rfl (isF rfl c23) (O.fa U47 rfl Z45 (Eq.trans s1_2 s1_1) (O.yes rfl (isF rfl c23) (O.loadO isAgg45 rfl (h1.keep e_1) rfl (O.yes rfl (isF rfl c23) (O.mv (O.yes rfl (isF rfl c23) (O.idx U45 Z117 rfl rfl t0 (Eq.trans s3_2 s3_1) (by omega) (fun a27 h27 => O.yes rfl (isF rfl c23) (O.ft U117 rfl Z9 rfl (O.yes rfl (isF rfl c23) (O.loadName isAgg9 rfl h27 (O.yes rfl (isF rfl c23) (O.lenS U9 rfl (O.yes rfl (isF rfl c23) (O.gtrI rfl rfl (O.pickF (isF rfl c23) (K9 (C.condD rfl (fun c32 => ?_) (fun c32 => ?_)))))))))))))))))))
  ·
   simp only [Int.toNat_natCast] at c32
   refine C.sr fun K11 => O.asg (K11 (C.ret (Outs.one rfl rfl ?_)))
   (refine ⟨congrArg Value.bool ?_, (Ext.trans e1 e_1)⟩
    have q : a.2.all Cn.smallI = false := Cn.all_no hk2 (Cn.smallI_no (by omega))
    unfold Cn.small
    rw [q, Bool.and_false])
  simp only [Int.toNat_natCast] at c32
  refine C.skip (K8 (K7 (C.region (O.mv (O.addI (Eq.trans s3_2 s3_1) rfl (by unfold InI; omega) (O.asg (O.nil (⟨k + 1, ⟨rfl, (Eq.trans s1_2 s1_1), e_1, ?_⟩, by first | omega | (simp only []; omega)⟩))))))))
  refine ⟨by omega, fun i hi hik => ?_⟩
  rcases Nat.lt_or_eq_of_le (Nat.le_of_lt_succ hik) with h | rfl
  ·exact hI i hi h
  ·exact Cn.smallI_yes (by omega) (by omega)
 refine C.exit (K4 (K2 (C.sr fun K12 => O.fa U47 rfl Z44 (Eq.trans s1_2 s1_1) (O.fa U44 rfl Z42 rfl (O.loadO isAgg42 rfl (h1.keep e_1) rfl (O.len U42 rfl ((hav.keep e1).keep e_1) (O.leqI rfl rfl (O.mv (O.cut 6 (fun f f' => f' 44 = .bool (decide ((a.1.1.length : Int) ≤ 40 ∧ (a.1.2.length : Int) ≤ 40)) ∧ f' 1 = f 1) ?_ ?_)))))))))
 ·
  refine O.splitD (x := .tmp 38) rfl (fun c38 => ?_) (fun c38 => ?_)
  ·
   refine O.yes rfl (isT rfl c38) (O.fa U47 rfl Z44 (Eq.trans s1_2 s1_1) (O.yes rfl (isT rfl c38) (O.fa U44 rfl Z41 rfl (O.yes rfl (isT rfl c38) (O.loadO isAgg41 rfl (h1.keep e_1) rfl (O.yes rfl (isT rfl c38) (O.len U41 rfl ((hac.keep e1).keep e_1) (O.yes rfl (isT rfl c38) (O.leqI rfl rfl (O.pickT (isT rfl c38) (O.nil (⟨⟨?_, rfl⟩, rfl⟩))))))))))))
   exact dJ rfl
  refine O.no rfl (noB (isF rfl c38) rfl) (O.no rfl (noB (isF rfl c38) rfl) (O.no rfl (noB (isF rfl c38) rfl) (O.no rfl (noB (isF rfl c38) rfl) (O.no rfl (noB (isF rfl c38) rfl) (O.pickF (isF rfl c38) (O.nil (⟨⟨?_, rfl⟩, rfl⟩)))))))
  exact dJ rfl
 rintro f_3 ⟨s44_3, s1_3⟩
 refine O.mv (O.cut 5 (fun f f' => f' 50 = .bool (decide (((a.1.1.length : Int) ≤ 40 ∧ (a.1.2.length : Int) ≤ 40) ∧ (a.2.length : Int) ≤ 20))) ?_ ?_)
 ·
  refine O.splitD (x := .tmp 45) s44_3 (fun c45 => ?_) (fun c45 => ?_)
  ·
   refine O.yes rfl (isT s44_3 c45) (O.fa U47 rfl Z45 (Eq.trans s1_3 (Eq.trans s1_2 s1_1)) (O.yes rfl (isT s44_3 c45) (O.loadO isAgg45 rfl (h1.keep e_1) rfl (O.yes rfl (isT s44_3 c45) (O.len U45 rfl t0 (O.yes rfl (isT s44_3 c45) (O.leqI rfl rfl (O.pickT (isT s44_3 c45) (O.nil (⟨?_, rfl⟩))))))))))
   exact dJ rfl
  refine O.no rfl (noB (isF s44_3 c45) rfl) (O.no rfl (noB (isF s44_3 c45) rfl) (O.no rfl (noB (isF s44_3 c45) rfl) (O.no rfl (noB (isF s44_3 c45) rfl) (O.pickF (isF s44_3 c45) (O.nil (⟨?_, rfl⟩))))))
  exact dJ rfl
 intro f_4 s50_4
 refine O.asg (K12 (C.ret (Outs.one rfl s50_4 ?_)))
 first
 | (refine ⟨congrArg Value.bool ?_, (Ext.trans e1 e_1)⟩
    have q : a.2.all Cn.smallI = false := Cn.all_no hk2 (Cn.smallI_no (by omega))
    unfold Cn.small
    rw [q, Bool.and_false])
 | (refine ⟨congrArg Value.bool ?_, (Ext.trans e1 e_1)⟩
    exact Cn.small_of (fun h i hi => hI i hi (by omega)))
theorem ones3c {a b c : Value} (h1 : a.oneCell' = true) (h2 : b.oneCell' = true) (h3 : c.oneCell' = true) : ∀ u ∈ [a, b, c], u.oneCell' = true := by
 intro u hu
 simp only [List.mem_cons, List.not_mem_nil, or_false] at hu
 rcases hu with rfl | rfl | rfl <;> assumption
theorem copy_spec (va1 va2 va3 : Value) (a : Cn.Cart) (F : Nat → Prop) (w : World) (hav : Sl Dt.dotF.enc w F va1 a.1.1) (hac : Sl Dt.dotF.enc w F va2 a.1.2) (hai : Sl itemE w F va3 a.2) (hF : ∀ k, F k → k < w.heap.size) (hn : a.2.length ≤ 1000000) (hS : ∀ x ∈ a.2, x.1.length ≤ 1000000 ∧ x.2.length ≤ 1000000) (hp : a.1.1.length ≤ 1000000) (hq : a.1.2.length ≤ 1000000) :
 Ret prog 53 #[.agg #[va1, va2, va3]] w (fun v w' => ∃ v1 v2 v3 : Value, v = .agg #[v1, v2, v3] ∧ Sl Dt.dotF.enc w' (fun k => w.heap.size ≤ k ∧ k < w'.heap.size) v1 a.1.1 ∧ Sl Dt.dotF.enc w' (fun k => w.heap.size ≤ k ∧ k < w'.heap.size) v2 a.1.2 ∧ Sl itemE w' (fun k => w.heap.size ≤ k ∧ k < w'.heap.size) v3 a.2 ∧ Le w w') := by
 have hle := hai.le
 obtain ⟨wz0, hwz0⟩ : ∃ n, n = w.heap.size := ⟨_, rfl⟩
 obtain ⟨ie112, ti112, ts112, tb112, tz112⟩ := inf112
 obtain ⟨ie114, ti114, ts114, tb114, tz114⟩ := inf114
 obtain ⟨ie117, ti117, ts117, tb117, tz117⟩ := inf117
 refine enT [.agg #[va1, va2, va3]] 39 func53 rfl rfl (C.sr fun K1 => O.box (v := .agg #[va1, va2, va3]) rfl (fun b1 w1 hb1 hz1 e1 => ?_))
 have z1 := e1.size
 have h1 := hz1.own
 have hl1 := h1.lt
 refine O.alloc zeroValue47 (fun b2 w2 hb2 hz2 e2 => ?_)
 have z2 := e2.size
 have h2 := hz2.own
 have hl2 := h2.lt
 refine K1 (C.sq fun K2 => C.join (fun f w f' w' => Le w w' ∧ f' 1 = f 1 ∧ f' 2 = f 2 ∧ ∃ (b3 : Nat) (v9 : Value) (v13 : Value), f' 3 = .pointer (some ⟨b3, 0, none⟩) ∧ Own w' b3 47 [v9, v13, .slice none 0 0] ∧ Sl Dt.dotF.enc w' (fun k => w.heap.size ≤ k ∧ k < w'.heap.size ∧ k ≠ b3) v9 a.1.1 ∧ Sl Dt.dotF.enc w' (fun k => w.heap.size ≤ k ∧ k < w'.heap.size ∧ k ≠ b3) v13 a.1.2 ∧ b2 < b3) ?_ ?_)
 ·
  refine C.draw (by kernel_rfl) fun w3 e3 => ?_
  have z3 := e3.size
  refine D.t 0 rfl (Le.refl _) (fun _ _ _ hN => O.fa U47 rfl Z44 rfl (O.nil hN)) (D.t 1 rfl (Le.refl _) (fun _ _ _ hN => O.fa U44 rfl Z42 rfl (O.nil hN)) (D.t 2 rfl (Le.refl _) (fun _ hw_ _ hN => O.loadO isAgg42 rfl (((h1.keep e2).keep e3).keep hw_) rfl (O.nil hN)) (D.t 4 rfl (Le.refl _) (fun _ _ _ hN => O.fa U47 rfl Z44 rfl (O.nil hN)) (D.t 5 rfl (Le.refl _) (fun _ _ _ hN => O.fa U44 rfl Z41 rfl (O.nil hN)) (D.t 6 rfl (Le.refl _) (fun _ hw_ _ hN => O.loadO isAgg41 rfl (((h1.keep e2).keep e3).keep hw_) rfl (O.nil hN)) ?_)))))
  refine D.many [3, 10] (by kernel_rfl) (by decide) ⟨?_, ?_, trivial⟩
  ·
   refine D.stepU rfl rfl (O.appF (G := Dt.dotF) U42 ti112 tz112 ts112 rfl rfl rfl (OwnF.nil _ _ _ _) (((hav.keep e1).keep e2).keep e3) (by rw [tb112]; simp; omega) (by unfold maxLen; simp; omega) (Nat.le_refl _) (fun v9 w4 h9 e4 => ?_))
   replace e4 : Le w3 w4 := e4.mono (fun _ _ h => h)
   have z4 := e4.size
   have h9s := h9.sl
   refine O.nil ⟨e4, ?_⟩
   obtain ⟨s9, rfl⟩ := h9s.slv
   refine D.many [7, 10] (by kernel_rfl) (by decide) ⟨?_, ?_, trivial⟩
   ·
    refine D.stepU rfl rfl (O.appF (G := Dt.dotF) U41 ti112 tz112 ts112 rfl rfl rfl (OwnF.nil _ _ _ _) ((((hac.keep e1).keep e2).keep e3).keep e4) (by rw [tb112]; simp; omega) (by unfold maxLen; simp; omega) (Nat.le_refl _) (fun v13 w5 h13 e5 => ?_))
    replace e5 : Le w4 w5 := e5.mono (fun _ _ h => h)
    have z5 := e5.size
    have h13s := h13.sl
    refine O.nil ⟨(Ext.trans e4 e5), ?_⟩
    obtain ⟨s13, rfl⟩ := h13s.slv
    refine D.many [8, 10] (by kernel_rfl) (by decide) ⟨?_, ?_, trivial⟩
    ·
     refine D.stepU rfl rfl (O.build (cells := #[slv s9, slv s13]) rfl (by kernel_rfl) (O.nil ⟨(Ext.trans e4 e5), D.many [9, 10] (by kernel_rfl) (by decide) ⟨?_, ?_, trivial⟩⟩))
     ·
      refine D.stepU rfl rfl (O.build (cells := #[slv s9, slv s13, .slice none 0 0]) rfl (by kernel_rfl) (O.nil ⟨(Ext.trans e4 e5), D.on 10 rfl rfl (O.alloc zeroValue47 (fun b3 w6 hb3 hz3 e6 => ?_))⟩))
      have z6 := e6.size
      have h3 := hz3.own
      have hl3 := h3.lt
      refine O.nil ⟨(Ext.trans (Ext.trans e4 e5) e6), D.on 11 rfl rfl (O.storeA (vs := [slv s9, slv s13, .slice none 0 0]) Z47 rfl rfl rfl (ones3c rfl rfl rfl) h3 (leB rfl) (fun w7 hs7 e7 z7 => O.nil ⟨(Ext.nr (Ext.trans (Ext.trans e4 e5) e6) e7), D.dn ?_⟩))⟩
      exact ⟨(Ext.nr (Ext.trans (Ext.trans (Ext.trans e3 e4) e5) e6) e7), rfl, rfl, ⟨_, _, _, rfl, hs7, ((((h9s.keep e5).keep e6).keepM e7 (fun k hk h => by have := h9.bk_ge k hk; (try dsimp only at h); omega)).weak (by intro k hk; have q1 := h9.bk_ge k hk; (try dsimp only); omega)), (((h13s.keep e6).keepM e7 (fun k hk h => by have := h13.bk_ge k hk; (try dsimp only at h); omega)).weak (by intro k hk; have q1 := h13.bk_ge k hk; (try dsimp only); omega)), (by omega)⟩⟩
     refine D.stepU rfl rfl (O.alloc zeroValue47 (fun b3 w8 hb3 hz3 e8 => ?_))
     have z8 := e8.size
     have h3 := hz3.own
     have hl3 := h3.lt
     have t0 := Ext.trans (Ext.trans e4 e5) e8
     refine O.nil ⟨t0, D.on 9 rfl rfl (O.build (cells := #[slv s9, slv s13, .slice none 0 0]) rfl (by kernel_rfl) (O.nil ⟨t0, D.on 11 rfl rfl (O.storeA (vs := [slv s9, slv s13, .slice none 0 0]) Z47 rfl rfl rfl (ones3c rfl rfl rfl) h3 (leB rfl) (fun w9 hs9 e9 z9 => O.nil ⟨(Ext.nr t0 e9), D.dn ?_⟩))⟩))⟩
     exact ⟨(Ext.nr (Ext.trans (Ext.trans (Ext.trans e3 e4) e5) e8) e9), rfl, rfl, ⟨_, _, _, rfl, hs9, ((((h9s.keep e5).keep e8).keepM e9 (fun k hk h => by have := h9.bk_ge k hk; (try dsimp only at h); omega)).weak (by intro k hk; have q1 := h9.bk_ge k hk; (try dsimp only); omega)), (((h13s.keep e8).keepM e9 (fun k hk h => by have := h13.bk_ge k hk; (try dsimp only at h); omega)).weak (by intro k hk; have q1 := h13.bk_ge k hk; (try dsimp only); omega)), (by omega)⟩⟩
    refine D.stepU rfl rfl (O.alloc zeroValue47 (fun b3 w10 hb3 hz3 e10 => ?_))
    have z10 := e10.size
    have h3 := hz3.own
    have hl3 := h3.lt
    have t1 := Ext.trans (Ext.trans e4 e5) e10
    refine O.nil ⟨t1, D.on 8 rfl rfl (O.build (cells := #[slv s9, slv s13]) rfl (by kernel_rfl) (O.nil ⟨t1, D.on 9 rfl rfl (O.build (cells := #[slv s9, slv s13, .slice none 0 0]) rfl (by kernel_rfl) (O.nil ⟨t1, D.on 11 rfl rfl (O.storeA (vs := [slv s9, slv s13, .slice none 0 0]) Z47 rfl rfl rfl (ones3c rfl rfl rfl) h3 (leB rfl) (fun w11 hs11 e11 z11 => O.nil ⟨(Ext.nr t1 e11), D.dn ?_⟩))⟩))⟩))⟩
    exact ⟨(Ext.nr (Ext.trans (Ext.trans (Ext.trans e3 e4) e5) e10) e11), rfl, rfl, ⟨_, _, _, rfl, hs11, ((((h9s.keep e5).keep e10).keepM e11 (fun k hk h => by have := h9.bk_ge k hk; (try dsimp only at h); omega)).weak (by intro k hk; have q1 := h9.bk_ge k hk; (try dsimp only); omega)), (((h13s.keep e10).keepM e11 (fun k hk h => by have := h13.bk_ge k hk; (try dsimp only at h); omega)).weak (by intro k hk; have q1 := h13.bk_ge k hk; (try dsimp only); omega)), (by omega)⟩⟩
   refine D.stepU rfl rfl (O.alloc zeroValue47 (fun b3 w12 hb3 hz3 e12 => ?_))
   have z12 := e12.size
   have h3 := hz3.own
   have hl3 := h3.lt
   have t2 := Ext.trans e4 e12
   refine O.nil ⟨t2, D.on 7 rfl rfl (O.appF (G := Dt.dotF) U41 ti112 tz112 ts112 rfl rfl rfl (OwnF.nil _ _ _ _) (((((hac.keep e1).keep e2).keep e3).keep e4).keep e12) (by rw [tb112]; simp; omega) (by unfold maxLen; simp; omega) (Nat.le_refl _) (fun v13 w13 h13 e13 => ?_))⟩
   replace e13 : Le w12 w13 := e13.mono (fun _ _ h => h)
   have z13 := e13.size
   have h13s := h13.sl
   have t3 := Ext.trans t2 e13
   refine O.nil ⟨t3, ?_⟩
   obtain ⟨s13, rfl⟩ := h13s.slv
   refine D.on 8 rfl rfl (O.build (cells := #[slv s9, slv s13]) rfl (by kernel_rfl) (O.nil ⟨t3, D.on 9 rfl rfl (O.build (cells := #[slv s9, slv s13, .slice none 0 0]) rfl (by kernel_rfl) (O.nil ⟨t3, D.on 11 rfl rfl (O.storeA (vs := [slv s9, slv s13, .slice none 0 0]) Z47 rfl rfl rfl (ones3c rfl rfl rfl) (h3.keep e13) (leB rfl) (fun w14 hs14 e14 z14 => O.nil ⟨(Ext.nr t3 e14), D.dn ?_⟩))⟩))⟩))
   exact ⟨(Ext.nr (Ext.trans (Ext.trans (Ext.trans e3 e4) e12) e13) e14), rfl, rfl, ⟨_, _, _, rfl, hs14, ((((h9s.keep e12).keep e13).keepM e14 (fun k hk h => by have := h9.bk_ge k hk; (try dsimp only at h); omega)).weak (by intro k hk; have q1 := h9.bk_ge k hk; (try dsimp only); omega)), ((h13s.keepM e14 (fun k hk h => by have := h13.bk_ge k hk; (try dsimp only at h); omega)).weak (by intro k hk; have q1 := h13.bk_ge k hk; (try dsimp only); omega)), (by omega)⟩⟩
  refine D.stepU rfl rfl (O.alloc zeroValue47 (fun b3 w15 hb3 hz3 e15 => ?_))
  have z15 := e15.size
  have h3 := hz3.own
  have hl3 := h3.lt
  refine O.nil ⟨e15, D.on 3 rfl rfl (O.appF (G := Dt.dotF) U42 ti112 tz112 ts112 rfl rfl rfl (OwnF.nil _ _ _ _) ((((hav.keep e1).keep e2).keep e3).keep e15) (by rw [tb112]; simp; omega) (by unfold maxLen; simp; omega) (Nat.le_refl _) (fun v9 w16 h9 e16 => ?_))⟩
  replace e16 : Le w15 w16 := e16.mono (fun _ _ h => h)
  have z16 := e16.size
  have h9s := h9.sl
  have t4 := Ext.trans e15 e16
  refine O.nil ⟨t4, ?_⟩
  obtain ⟨s9, rfl⟩ := h9s.slv
  refine D.on 7 rfl rfl (O.appF (G := Dt.dotF) U41 ti112 tz112 ts112 rfl rfl rfl (OwnF.nil _ _ _ _) (((((hac.keep e1).keep e2).keep e3).keep e15).keep e16) (by rw [tb112]; simp; omega) (by unfold maxLen; simp; omega) (Nat.le_refl _) (fun v13 w17 h13 e17 => ?_))
  replace e17 : Le w16 w17 := e17.mono (fun _ _ h => h)
  have z17 := e17.size
  have h13s := h13.sl
  have t5 := Ext.trans t4 e17
  refine O.nil ⟨t5, ?_⟩
  obtain ⟨s13, rfl⟩ := h13s.slv
  refine D.on 8 rfl rfl (O.build (cells := #[slv s9, slv s13]) rfl (by kernel_rfl) (O.nil ⟨t5, D.on 9 rfl rfl (O.build (cells := #[slv s9, slv s13, .slice none 0 0]) rfl (by kernel_rfl) (O.nil ⟨t5, D.on 11 rfl rfl (O.storeA (vs := [slv s9, slv s13, .slice none 0 0]) Z47 rfl rfl rfl (ones3c rfl rfl rfl) ((h3.keep e16).keep e17) (leB rfl) (fun w18 hs18 e18 z18 => O.nil ⟨(Ext.nr t5 e18), D.dn ?_⟩))⟩))⟩))
  exact ⟨(Ext.nr (Ext.trans (Ext.trans (Ext.trans e3 e15) e16) e17) e18), rfl, rfl, ⟨_, _, _, rfl, hs18, (((h9s.keep e17).keepM e18 (fun k hk h => by have := h9.bk_ge k hk; (try dsimp only at h); omega)).weak (by intro k hk; have q1 := h9.bk_ge k hk; (try dsimp only); omega)), ((h13s.keepM e18 (fun k hk h => by have := h13.bk_ge k hk; (try dsimp only at h); omega)).weak (by intro k hk; have q1 := h13.bk_ge k hk; (try dsimp only); omega)), (by omega)⟩⟩
 rintro f_1 w19 ⟨e_1, s1_1, s2_1, ⟨b3, v9, v13, s3_1, q0_1, q1_1, q2_1, q3_1⟩⟩
 have z_1 := e_1.size
 have hb3 := q3_1
 have hl3 := q0_1.lt
 have hog0 : OG itemF 117 w19 (.slice none 0 0) b3 [] := OG.nil hl3
 have hit0 : Items w19 (fun k => b2 < k ∧ k < w19.heap.size ∧ k ≠ b3 ∧ k ≠ b3) [] (a.2.take 0) := Items.nil
 refine K2 (C.sq fun K3 => C.sr fun K4 => O.asg (K4 (C.bl fun K5 => C.loop0 (σ := Nat × Value × Nat × List (List UInt8 × (Option Addr × Nat × Nat))) (fun f0 w0 ⟨k, o, gl, raw⟩ f w => f 4 = .int .i64 (k) ∧ f 1 = f0 1 ∧ f 2 = f0 2 ∧ f 3 = f0 3 ∧ Ext (fun k => k = b3) w0 w ∧ Own w b3 47 [v9, v13, o] ∧ OG itemF 117 w o gl raw ∧ Items w (fun k => b2 < k ∧ k < w.heap.size ∧ k ≠ gl ∧ k ≠ b3) raw (a.2.take k) ∧ k ≤ a.2.length ∧ (gl = b3 ∨ w0.heap.size ≤ gl) ∧ gl < w.heap.size ∧ ∀ k, bk o k → k ≠ b3) (fun ⟨k, o, gl, raw⟩ => a.2.length - k) (0, .slice none 0 0, b3, []) ?_ ?_)))
 ·
  refine ⟨rfl, rfl, rfl, rfl, Ext.refl _ _, q0_1, hog0, hit0, ?_⟩
  exact ⟨Nat.zero_le _, .inl rfl, by omega, fun _ h => h.elim⟩
 rintro ⟨k, o, gl, raw⟩ f_2 w20 ⟨s4_2, s1_2, s2_2, s3_2, e_2, r0_2, r1_2, r2_2, ⟨hk, hbg, hcg, hob⟩⟩
 have z_2 := e_2.size
 have hit := r2_2
 have hitl := hit.1
 refine C.sq fun K6 => C.sr fun K7 => O.mv (O.fa U47 rfl Z45 (Eq.trans s1_2 s1_1) ?_)
 have t6 := ((h1.keep e2).keep e_1).keepO e_2
 refine O.loadO isAgg45 rfl t6 rfl ?_
 have t7 := Ext.trans (Ext.trans e1 e2) e_1
 have t8 := hai.keep (Ext.nr t7 e_2)
 refine O.len U45 rfl t8 (O.lssI s4_2 rfl (K7 (C.condD rfl (fun c20 => ?_) (fun c20 => ?_))))
 ·
  have hk2 : k < a.2.length := by omega
  refine C.skip (K6 (C.sq fun K8 => C.bl fun K9 => C.sr fun K10 => O.fa U47 rfl Z45 (Eq.trans s1_2 s1_1) (O.loadO isAgg45 rfl t6 rfl (O.mv (O.idx U45 Z117 rfl rfl t8 s4_2 (by omega) (fun a26 h26 => O.loadE (E := itemE) isAgg117 Z117 rfl rfl h26 (fun cs27 hcs27 => ?_)))))))
  obtain ⟨vm27, rfl, hm27⟩ := hcs27
  obtain ⟨u, hu⟩ : ∃ u : ItemT, u = a.2[k] := ⟨_, rfl⟩
  have hSu := hS u (by rw [hu]; exact List.getElem_mem _)
  refine O.cast (v' := .agg #[str u.1, vm27]) (by rw [hu]; rfl) ?_
  have hm27 : Sl markF.enc w20 F vm27 u.2 := by rw [hu]; exact hm27
  refine O.alloc zeroValue117 (fun b5 w21 hb5 hz5 e21 => ?_)
  have z21 := e21.size
  have h5 := hz5.own
  have hl5 := h5.lt
  refine O.storeA (vs := [str u.1, vm27]) Z117 rfl rfl rfl (ones2 hm27.oneC) h5 (leB rfl) (fun w22 hs22 e22 z22 => K10 (C.sr fun K11 => O.fa U117 rfl Z115 rfl (O.loadO isAgg115 rfl hs22 rfl (O.appF (G := markF) U115 ti114 tz114 ts114 rfl rfl rfl (OwnF.nil _ _ _ _) ((hm27.keep e21).keepA e22) (by rw [tb114]; simp; omega) (by unfold maxLen; simp; omega) (Nat.le_refl _) (fun v30 w23 h30 e23 => ?_)))))
  replace e23 : Le w22 w23 := e23.mono (fun _ _ h => h)
  have z23 := e23.size
  have h30s := h30.sl
  obtain ⟨s30, rfl⟩ := h30s.slv
  refine O.fa U117 rfl Z115 rfl (O.store Z115 rfl rfl h30.one (hs22.keep e23) (by simp) (fun w24 hs24 e24 z24 => ?_))
  try simp only [Nat.zero_add] at hs24
  refine K11 (C.region (O.fa U47 rfl Z45 (Eq.trans s3_2 s3_1) ?_))
  have t9 := (r0_2.keep e21).keepO e22
  refine O.loadO isAgg45 rfl ((t9.keep e23).keepO e24) rfl (O.loadOA isAgg117 Z117 rfl hs24 (leB rfl) (O.litG (G := itemF) [(u.1, s30)] U45 ti117 ts117 tz117 rfl (by decide) (by decide) rfl (fun b35 w25 hb35 hz35 e25 => ?_)))
  have z25 := e25.size
  have h35 := hz35.own
  have hq35 := Sl.litG (n := 1) h35 rfl (by unfold maxLen; omega)
  have t10 := (r1_2.keep e21).keepA e22
  have t11 := (t10.keep e23).keepA e24
  refine O.appG (G := itemF) U45 ti117 tz117 ts117 rfl rfl rfl (t11.keep e25) hq35 (by rw [tb117, hit.1]; simp; omega) (by unfold maxLen; rw [hit.1]; simp; omega) (fun v36 gg36 w26 h36 hg36 e26 hw36 => ?_)
  have e26m := e26.mono (M' := fun k => k = _) (fun k _ hk => (t11.keep e25).2.1 k hk)
  have z26 := e26.size
  have hgl36 := h36.2.2
  have hob36 : ∀ k, bk v36 k → k ≠ b3 := by
   intro k hk
   rcases hw36 k hk with q | q
   ·exact hob k q
   ·omega
  have hg36b : gg36 ≠ b3 := hob36 _ (h36.bk (by simp))
  have hit36 : Items w26 (fun k => b2 < k ∧ k < w26.heap.size ∧ k ≠ gg36 ∧ k ≠ b3) (raw ++ [(u.1, s30)]) (a.2.take (k + 1)) := by
   rw [List.take_succ_eq_append_getElem hk2, ← hu]
   exact ((((((((r2_2.keep e21).keepA e22).keep e23).keepA e24).keep e25).keepM e26 (by intro k hk h; replace h := (t11.keep e25).2.1 _ h; first | (have q1 := hF k hk; (try dsimp only at h); omega) | (have q1 := hF2 k hk; (try dsimp only at h); omega) | (have q1 := hFb k hk; (try dsimp only at h); omega) | ((try dsimp only at hk); (try dsimp only at h); omega)))).weakA).snoc rfl (((((h30s.keepM e24 (fun k hk h => by have := h30.bk_ge k hk; (try dsimp only at h); omega)).keep e25).keepM e26 (fun k hk h => by replace h := (t11.keep e25).2.1 _ h; have := h30.bk_ge k hk; (try dsimp only at h); omega))).weak (by intro k hk; have q1 := h30.bk_ge k hk; (try dsimp only); omega))
  refine O.fa U47 rfl Z45 (Eq.trans s3_2 s3_1) (O.store Z45 rfl rfl h36.1.one ((((t9.keep e23).keepO e24).keep e25).keepM e26 (fun h => hob _ h rfl)) (by simp) (fun w27 hs27 e27 z27 => ?_))
  try simp only [Nat.zero_add] at hs27
  refine O.nil (K9 (K8 (C.region (O.mv (O.addI s4_2 rfl (by unfold InI; omega) (O.asg (O.nil (⟨(k + 1, _, _, _), ⟨rfl, s1_2, s2_2, s3_2, (Ext.nw (Ext.nw (Ext.nw (Ext.nw (Ext.nw (Ext.nw (Ext.nw (Ext.nw (Ext.refl _ _) e_2) e21) e22) e23) e24) e25) e26m) e27), hs27, (h36.keepA e27), (((hit36.keepA e27)).weakA), ?_⟩, by first | omega | (simp only []; omega)⟩))))))))
  exact ⟨by omega, by omega, by omega, hob36⟩
 refine C.exit (K5 (K3 (C.sr fun K12 => O.loadOA isAgg47 Z47 (Eq.trans s3_2 s3_1) r0_2 (leB rfl) (O.storeA (vs := [v9, v13, o]) Z47 rfl (Eq.trans s2_2 s2_1) rfl (ones3c ((q1_1.keepA e_2)).oneC ((q2_1.keepA e_2)).oneC (r1_2).1.one) ((h2.keep e_1).keepO e_2) (leB rfl) (fun w28 hs28 e28 z28 => K12 (C.ret (Outs.cellA rfl isAgg47 Z47 (Eq.trans s2_2 s2_1) hs28 rfl ?_)))))))
 have hk9 : k = a.2.length := by omega
 have hit9 : Items w28 (fun k => w.heap.size ≤ k ∧ k < w28.heap.size) raw a.2 := by
  have q := (r2_2.keepA e28)
  rw [hk9, List.take_length] at q
  exact q.weakA
 have hsl9 : Sl itemF.enc w28 (fun k => w.heap.size ≤ k ∧ k < w28.heap.size) o raw := ((r1_2.keepA e28)).sl.weakA
 exact ⟨v9, v13, o, rfl, (((q1_1.keepA e_2).keepA e28)).weakA, (((q2_1.keepA e_2).keepA e28)).weakA, hit9.sl hsl9, (Ext.nr (Ext.nr t7 e_2) e28)⟩
theorem rises_spec (v0 : Value) (raw : List EntR) (l : List EntT) (F : Nat → Prop) (w : World) (hr : Sl entF.enc w F v0 raw) (he : EntL w F raw l) :
 Ret prog 62 #[v0] w (fun v w' => v = .bool (Bt.rises l) ∧ Le w w') := by
 have hl := he.1
 have hrl := hr.le
 refine enT [v0] 22 func62 rfl rfl (C.sr fun K1 => O.asg (K1 (C.sq fun K2 => C.sr fun K3 => O.asg (K3 (C.bl fun K4 => C.loop0 (σ := Nat) (fun f0 w0 k f w => f 3 = .int .i64 ((k : Int)) ∧ f 0 = f0 0 ∧ Le w0 w ∧ (1 ≤ k ∧ k ≤ l.length + 1) ∧ (∀ i, ∀ h : i + 1 < l.length, i + 1 < k → Op.bytesLess l[i].1 l[i + 1].1 = true)) (fun k => l.length + 1 - k) 1 ?_ ?_)))))
 ·
  refine ⟨rfl, rfl, Le.refl _, ?_⟩
  exact ⟨by omega, fun i h k => by omega⟩
 rintro k f_1 w1 ⟨s3_1, s0_1, e_1, ⟨hk, hJ⟩⟩
 have z_1 := e_1.size
 refine C.sq fun K5 => C.sr fun K6 => O.mv (O.mv (O.len U22 s0_1 (hr.keep e_1) (O.lssI s3_1 rfl (K6 (C.condD rfl (fun c7 => ?_) (fun c7 => ?_))))))
 ·
  have hk2 : k < l.length := by omega
  refine C.skip (K5 (C.sq fun K7 => C.bl fun K8 => C.sd fun K9 w2 e2 z2 => D.mv 0 rfl (Le.refl _) (D.mv 1 rfl (Le.refl _) (D.t 2 rfl (Le.refl _) (fun _ _ _ hN => O.subI s3_1 rfl (by unfold InI; omega) (O.nil hN)) ?_))))
  have sp4_ := Sl.at (i := (k : Int) - 1) (P := prog) U22 Z50 rfl ((hr.keep e_1).keep e2) (by omega)
  obtain ⟨a13, h13, hr13⟩ := sp4_
  refine D.t 3 rfl (Le.refl _) (fun _ _ _ hN => O.idxR s0_1 rfl hr13 (O.nil hN)) (D.t 4 rfl (Le.refl _) (fun _ _ _ hN => O.ft U50 rfl Z9 rfl (O.nil hN)) (D.t 5 rfl (Le.refl _) (fun _ hw_ _ hN => O.loadAtF (G := entF) isAgg9 rfl rfl (h13.keep hw_) (O.nil hN)) (D.mv 6 rfl (Le.refl _) (D.mv 7 rfl (Le.refl _) ?_))))
  have sp5_ := Sl.at (i := (k : Int)) (P := prog) U22 Z50 rfl ((hr.keep e_1).keep e2) (by omega)
  obtain ⟨a18, h18, hr18⟩ := sp5_
  refine D.t 8 rfl (Le.refl _) (fun _ _ _ hN => O.idxR s0_1 s3_1 hr18 (O.nil hN)) (D.t 9 rfl (Le.refl _) (fun _ _ _ hN => O.ft U50 rfl Z9 rfl (O.nil hN)) (D.t 10 rfl (Le.refl _) (fun _ hw_ _ hN => O.loadAtF (G := entF) isAgg9 rfl rfl (h18.keep hw_) (O.nil hN)) (D.t 11 rfl (Le.refl _) (fun _ _ _ hN => O.geqS rfl rfl (O.nil hN)) (K9 (C.cond rfl (fun c21 => ?_) (fun c21 => ?_))))))
  ·
   have e9 : ((k : Int) - 1).toNat = k - 1 := by omega
   simp only [e9, Int.toNat_natCast] at c21
   rw [(he.2 (k - 1) (by omega) (by omega)).1, (he.2 k (by omega) (by omega)).1] at c21
   refine C.sr fun K10 => O.asg (K10 (C.ret (Outs.one rfl rfl ?_)))
   exact ⟨congrArg Value.bool (Bt.rises_no (i := k) (j := k - 1) hk2 (by omega) (by omega) (by simpa using c21)).symm, (Ext.trans e_1 e2)⟩
  have e9 : ((k : Int) - 1).toNat = k - 1 := by omega
  simp only [e9, Int.toNat_natCast] at c21
  rw [(he.2 (k - 1) (by omega) (by omega)).1, (he.2 k (by omega) (by omega)).1] at c21
  refine C.skip (K8 (K7 (C.region (O.mv (O.addI s3_1 rfl (by unfold InI; omega) (O.asg (O.nil (⟨k + 1, ⟨rfl, s0_1, (Ext.trans e_1 e2), ?_⟩, by first | omega | (simp only []; omega)⟩))))))))
  refine ⟨by omega, fun i hi hik => ?_⟩
  rcases Nat.lt_or_eq_of_le (Nat.le_of_lt_succ hik) with h | rfl
  ·exact hJ i hi h
  ·simpa using c21
 refine C.exit (K4 (K2 (C.sr fun K11 => O.asg (K11 (C.ret (Outs.one rfl rfl ?_))))))
 first
 | exact ⟨congrArg Value.bool (Bt.rises_no (i := k) (j := k - 1) hk2 (by omega) (by omega) (by simpa using c21)).symm, e_1⟩
 | exact ⟨congrArg Value.bool (Bt.rises_yes (fun i hi => hJ i hi (by omega))).symm, e_1⟩
theorem lordered_spec (v0 : Value) (raw : List EntR) (l : List EntT) (F : Nat → Prop) (w : World) (hr : Sl entF.enc w F v0 raw) (he : EntL w F raw l) (hF : ∀ k, F k → k < w.heap.size) (hB : Bt.Big l) (mx : Mx w) :
 Ret prog 19 #[v0] w (fun v w' => v = .bool (Bt.ordered l) ∧ Le w w') := by
 have hl := he.1
 have hrl := hr.le
 refine enT [v0] 28 func19 rfl rfl (C.sr fun K1 => O.asg (K1 (C.sq fun K2 => C.sr fun K3 => O.asg (K3 (C.bl fun K4 => C.loop0 (σ := Nat) (fun f0 w0 k f w => f 3 = .int .i64 ((k : Int)) ∧ f 0 = f0 0 ∧ Le w0 w ∧ k ≤ l.length ∧ (∀ i, ∀ h : i < l.length, i < k → Bt.okE l[i] = true)) (fun k => l.length - k) 0 ?_ ?_)))))
 ·
  refine ⟨rfl, rfl, Le.refl _, ?_⟩
  exact ⟨Nat.zero_le _, fun i h k => absurd k (Nat.not_lt_zero _)⟩
 rintro k f_1 w1 ⟨s3_1, s0_1, e_1, ⟨hk, hI⟩⟩
 have z_1 := e_1.size
 refine C.sq fun K5 => C.sr fun K6 => O.mv (O.mv (O.len U22 s0_1 (hr.keep e_1) (O.lssI s3_1 rfl (K6 (C.condD rfl (fun c7 => ?_) (fun c7 => ?_))))))
 ·
  have hk2 : k < l.length := by omega
  have hk9r : k < raw.length := by have q9 := ((he.keep e_1)).1; omega
  have hk8r : k < l.length := by have q9 := ((he.keep e_1)).1; omega
  have sp6_ : ∃ q : EntR, q = raw[k] := ⟨_, rfl⟩
  obtain ⟨r, hrr⟩ := sp6_
  have sp7_ : ∃ q : EntT, q = l[k] := ⟨_, rfl⟩
  obtain ⟨x, hxr⟩ := sp7_
  have t0 := ((he.keep e_1)).2 k hk9r hk8r
  have hkxr : r.1 = x.1 := by rw [hrr, hxr]; exact t0.1
  have hca : CartAt w1 F r.2 x.2 := by rw [hrr, hxr]; exact t0.2
  have hmxr : x ∈ l := by rw [hxr]; exact List.getElem_mem _
  have hbr := hB x hmxr
  refine C.skip (K5 (C.sq fun K7 => C.bl fun K8 => C.sr fun K9 => O.mv (O.mv (O.idx U22 Z50 rfl s0_1 (hr.keep e_1) s3_1 (by omega) (fun a12 h12 => O.ft U50 rfl Z9 rfl (O.loadAtF (G := entF) isAgg9 rfl rfl h12 (O.cast (v' := str r.1) (by rw [hrr]; rfl) (O.call call60 (args1 rfl) (okKey_spec r.1 _ (by rw [hkxr]; exact hbr.1)) ?_))))))))
  rintro v_15 w2 ⟨rfl, e2⟩
  have z2 := e2.size
  refine O.not rfl (O.mv (O.split (x := .tmp 17) rfl (fun c17 => ?_) (fun c17 => ?_)))
  ·
   refine O.no rfl (noB (isT' rfl c17) rfl) (O.no rfl (noB (isT' rfl c17) rfl) (O.no rfl (noB (isT' rfl c17) rfl) (O.no rfl (noB (isT' rfl c17) rfl) (O.no rfl (noB (isT' rfl c17) rfl) (O.no rfl (noB (isT' rfl c17) rfl) (O.no rfl (noB (isT' rfl c17) rfl) (O.pickT (isT' rfl c17) (K9 (C.condT rfl (C.sr fun K10 => O.asg (K10 (C.ret (Outs.one rfl rfl ?_)))))))))))))
   exact ⟨congrArg Value.bool (Bt.ordered_no1 hk2 (by rw [← hxr]; exact Bt.okE_no1 (by rw [← hkxr]; simpa using c17))).symm, (Ext.trans e_1 e2)⟩
  refine O.yes rfl (isF' rfl c17) (O.mv (O.yes rfl (isF' rfl c17) (O.mv (O.yes rfl (isF' rfl c17) (O.idx U22 Z50 rfl s0_1 ((hr.keep e_1).keep e2) s3_1 (by omega) (fun a20 h20 => O.yes rfl (isF' rfl c17) (O.ft U50 rfl Z47 rfl (O.yes rfl (isF' rfl c17) (O.loadPart (G := entF) isAgg47 Z47 (by decide) rfl h20 (O.cast (v' := .agg #[slv r.2.1.1, slv r.2.1.2, slv r.2.2]) (by rw [hrr]; rfl) (O.yes rfl (isF' rfl c17) ?_)))))))))))
  refine O.call call61 (args1 rfl) (cartValid_spec (slv r.2.1.1) (slv r.2.1.2) (slv r.2.2) x.2 F _ ((hca.keep e2)).1 ((hca.keep e2)).2.1 ((hca.keep e2)).2.2 (fun j hj => by have q1 := hF j hj; omega) hbr.2.2.2.1 hbr.2.2.2.2 ((mx.keep e_1).keep e2)) ?_
  rintro v_23 w3 ⟨rfl, e3⟩
  have z3 := e3.size
  refine O.yes rfl (isF' rfl c17) (O.not rfl (O.pickF (isF' rfl c17) (K9 (C.cond rfl (fun c25 => ?_) (fun c25 => ?_)))))
  ·
   refine C.sr fun K11 => O.asg (K11 (C.ret (Outs.one rfl rfl ?_)))
   first
   | exact ⟨congrArg Value.bool (Bt.ordered_no1 hk2 (by rw [← hxr]; exact Bt.okE_no1 (by rw [← hkxr]; simpa using c17))).symm, (Ext.trans (Ext.trans e_1 e2) e3)⟩
   | exact ⟨congrArg Value.bool (Bt.ordered_no1 hk2 (by rw [← hxr]; exact Bt.okE_no2 (by simpa using c25))).symm, (Ext.trans (Ext.trans e_1 e2) e3)⟩
  refine C.skip (K8 (K7 (C.region (O.mv (O.addI s3_1 rfl (by unfold InI; omega) (O.asg (O.nil (⟨k + 1, ⟨rfl, s0_1, (Ext.trans (Ext.trans e_1 e2) e3), ?_⟩, by first | omega | (simp only []; omega)⟩))))))))
  refine ⟨by omega, fun i hi hik => ?_⟩
  rcases Nat.lt_or_eq_of_le (Nat.le_of_lt_succ hik) with h | rfl
  ·exact hI i hi h
  ·rw [← hxr]; exact Bt.okE_of (by rw [← hkxr]; simpa using c17) (by simpa using c25)
 have hall : ∀ i, ∀ h : i < l.length, Bt.okE l[i] = true := fun i hi => hI i hi (by omega)
 refine C.exit (K4 (K2 (C.sr fun K12 => O.mv (O.call call62 (args1 s0_1) (rises_spec v0 raw l F _ (hr.keep e_1) (he.keep e_1)) ?_))))
 rintro v_27 w4 ⟨rfl, e4⟩
 have z4 := e4.size
 refine O.asg (K12 (C.ret (Outs.one rfl rfl ?_)))
 first
 | exact ⟨congrArg Value.bool (Bt.ordered_no1 hk2 (by rw [← hxr]; exact Bt.okE_no1 (by rw [← hkxr]; simpa using c17))).symm, (Ext.trans e_1 e4)⟩
 | exact ⟨congrArg Value.bool (Bt.ordered_no1 hk2 (by rw [← hxr]; exact Bt.okE_no2 (by simpa using c25))).symm, (Ext.trans e_1 e4)⟩
 | exact ⟨congrArg Value.bool (Bt.ordered_of hall).symm, (Ext.trans e_1 e4)⟩
theorem smallL_spec (v0 : Value) (raw : List EntR) (l : List EntT) (F : Nat → Prop) (most : Int) (w : World) (hr : Sl entF.enc w F v0 raw) (he : EntL w F raw l) :
 Ret prog 15 #[v0, .int .i64 (most)] w (fun v w' => v = .bool (Bt.small l most) ∧ Le w w') := by
 have hl := he.1
 have hrl := hr.le
 refine enT [v0, .int .i64 (most)] 37 func15 rfl rfl (C.sr fun K1 => O.asg (K1 (C.sq fun K2 => C.sr fun K3 => O.asg (K3 (C.bl fun K4 => C.loop0 (σ := Nat) (fun f0 w0 k f w => f 5 = .int .i64 ((k : Int)) ∧ f 0 = f0 0 ∧ f 1 = f0 1 ∧ Le w0 w ∧ k ≤ l.length ∧ (∀ i, ∀ h : i < l.length, i < k → Bt.smallE l[i] = true)) (fun k => l.length - k) 0 ?_ ?_)))))
 ·
  refine ⟨rfl, rfl, rfl, Le.refl _, ?_⟩
  exact ⟨Nat.zero_le _, fun i h k => absurd k (Nat.not_lt_zero _)⟩
 rintro k f_1 w1 ⟨s5_1, s0_1, s1_1, e_1, ⟨hk, hI⟩⟩
 have z_1 := e_1.size
 refine C.sq fun K5 => C.sr fun K6 => O.mv (O.mv (O.len U22 s0_1 (hr.keep e_1) (O.lssI s5_1 rfl (O.mv (O.cut 4 (fun f f' => f' 14 = .bool (decide ((k : Int) < (raw.length : Int) ∧ (k : Int) < most)) ∧ f' 0 = f 0 ∧ f' 1 = f 1 ∧ f' 5 = f 5) ?_ ?_)))))
 ·
  refine O.splitD (x := .tmp 10) rfl (fun c10 => ?_) (fun c10 => ?_)
  ·
   refine O.yes rfl (isT rfl c10) (O.mv (O.yes rfl (isT rfl c10) (O.mv (O.yes rfl (isT rfl c10) (O.lssI s5_1 s1_1 (O.pickT (isT rfl c10) (O.nil (⟨⟨?_, rfl, rfl, rfl⟩, rfl⟩))))))))
   exact dJ rfl
  refine O.no rfl (noB (isF rfl c10) rfl) (O.no rfl (noB (isF rfl c10) rfl) (O.no rfl (noB (isF rfl c10) rfl) (O.pickF (isF rfl c10) (O.nil (⟨⟨?_, rfl, rfl, rfl⟩, rfl⟩)))))
  exact dJ rfl
 rintro f_2 ⟨s14_2, s0_2, s1_2, s5_2⟩
 refine K6 (C.condD s14_2 (fun c14 => ?_) (fun c14 => ?_))
 ·
  have hk2 : k < l.length := by omega
  have hk9r : k < raw.length := by have q9 := ((he.keep e_1)).1; omega
  have hk8r : k < l.length := by have q9 := ((he.keep e_1)).1; omega
  have sp10_ : ∃ q : EntR, q = raw[k] := ⟨_, rfl⟩
  obtain ⟨r, hrr⟩ := sp10_
  have sp11_ : ∃ q : EntT, q = l[k] := ⟨_, rfl⟩
  obtain ⟨x, hxr⟩ := sp11_
  have t0 := ((he.keep e_1)).2 k hk9r hk8r
  have hkxr : r.1 = x.1 := by rw [hrr, hxr]; exact t0.1
  have hca : CartAt w1 F r.2 x.2 := by rw [hrr, hxr]; exact t0.2
  refine C.skip (K5 (C.sq fun K7 => C.bl fun K8 => C.sr fun K9 => O.mv (O.mv (O.idx U22 Z50 rfl (Eq.trans s0_2 s0_1) (hr.keep e_1) (Eq.trans s5_2 s5_1) (by omega) (fun a19 h19 => O.ft U50 rfl Z9 rfl (O.loadAtF (G := entF) isAgg9 rfl rfl h19 (O.cast (v' := str r.1) (by rw [hrr]; rfl) (O.lenS U9 rfl (O.gtrI rfl rfl (O.mv (O.splitD (x := .tmp 24) rfl (fun c24 => ?_) (fun c24 => ?_))))))))))))
  ·
   refine O.no rfl (noB (isT rfl c24) rfl) (O.no rfl (noB (isT rfl c24) rfl) (O.no rfl (noB (isT rfl c24) rfl) (O.no rfl (noB (isT rfl c24) rfl) (O.no rfl (noB (isT rfl c24) rfl) (O.no rfl (noB (isT rfl c24) rfl) (O.no rfl (noB (isT rfl c24) rfl) (O.pickT (isT rfl c24) (K9 (C.condT rfl (C.sr fun K10 => O.asg (K10 (C.ret (Outs.one rfl rfl ?_)))))))))))))
   exact ⟨congrArg Value.bool (Bt.small_no hk2 (by rw [← hxr]; exact Bt.smallE_no1 (by rw [← hkxr]; omega))).symm, e_1⟩
  refine O.yes rfl (isF rfl c24) (O.mv (O.yes rfl (isF rfl c24) (O.mv (O.yes rfl (isF rfl c24) (O.idx U22 Z50 rfl (Eq.trans s0_2 s0_1) (hr.keep e_1) (Eq.trans s5_2 s5_1) (by omega) (fun a27 h27 => O.yes rfl (isF rfl c24) (O.ft U50 rfl Z47 rfl (O.yes rfl (isF rfl c24) (O.loadPart (G := entF) isAgg47 Z47 (by decide) rfl h27 (O.cast (v' := .agg #[slv r.2.1.1, slv r.2.1.2, slv r.2.2]) (by rw [hrr]; rfl) (O.yes rfl (isF rfl c24) (O.call call38 (args1 rfl) (small_spec (slv r.2.1.1) (slv r.2.1.2) (slv r.2.2) x.2 F _ (hca).1 (hca).2.1 (hca).2.2) ?_))))))))))))
  rintro v_30 w2 ⟨rfl, e2⟩
  have z2 := e2.size
  refine O.yes rfl (isF rfl c24) (O.not rfl (O.pickF (isF rfl c24) (K9 (C.cond rfl (fun c32 => ?_) (fun c32 => ?_)))))
  ·
   refine C.sr fun K11 => O.asg (K11 (C.ret (Outs.one rfl rfl ?_)))
   first
   | exact ⟨congrArg Value.bool (Bt.small_no hk2 (by rw [← hxr]; exact Bt.smallE_no1 (by rw [← hkxr]; omega))).symm, (Ext.trans e_1 e2)⟩
   | exact ⟨congrArg Value.bool (Bt.small_no hk2 (by rw [← hxr]; exact Bt.smallE_no2 (by simpa using c32))).symm, (Ext.trans e_1 e2)⟩
  refine C.skip (K8 (K7 (C.region (O.mv (O.addI (Eq.trans s5_2 s5_1) rfl (by unfold InI; omega) (O.asg (O.nil (⟨k + 1, ⟨rfl, (Eq.trans s0_2 s0_1), (Eq.trans s1_2 s1_1), (Ext.trans e_1 e2), ?_⟩, by first | omega | (simp only []; omega)⟩))))))))
  refine ⟨by omega, fun i hi hik => ?_⟩
  rcases Nat.lt_or_eq_of_le (Nat.le_of_lt_succ hik) with h | rfl
  ·exact hI i hi h
  ·rw [← hxr]; exact Bt.smallE_of (by rw [← hkxr]; omega) (by simpa using c32)
 refine C.exit (K4 (K2 (C.sr fun K12 => O.mv (O.len U22 (Eq.trans s0_2 s0_1) (hr.keep e_1) (O.mv (O.leqI rfl (Eq.trans s1_2 s1_1) (O.asg (K12 (C.ret (Outs.one rfl rfl ?_))))))))))
 first
 | exact ⟨congrArg Value.bool (Bt.small_no hk2 (by rw [← hxr]; exact Bt.smallE_no1 (by rw [← hkxr]; omega))).symm, e_1⟩
 | exact ⟨congrArg Value.bool (Bt.small_no hk2 (by rw [← hxr]; exact Bt.smallE_no2 (by simpa using c32))).symm, e_1⟩
 | exact ⟨congrArg Value.bool (Bt.small_end (by omega) (fun h i hi => hI i hi (by omega)) trivial), e_1⟩
theorem rend_spec (v0 : Value) (b : List UInt8) (F : Nat → Prop) (n : BitVec 32) (w : World) (hl : Sl byteE w F v0 b) (hL : b.length ≤ 1000000000) :
 Ret prog 24 #[v0, .int .u32 ((n).toNat : Int)] w (fun v w' => Le w w' ∧ OwnF byteF 5 w.heap.size w' v (b ++ Bt.sum4 n)) := by
 obtain ⟨ie5, ti5, ts5, tb5, tz5⟩ := inf5
 refine enT [v0, .int .u32 ((n).toNat : Int)] 23 func24 rfl rfl (C.sr fun K1 => O.asg (K1 (C.sr fun K2 => O.mv (O.appF (G := byteF) U30 ti5 tz5 ts5 rfl rfl rfl (OwnF.nil _ _ _ _) hl (by rw [tb5]; simp; omega) (by unfold maxLen; simp; omega) (Nat.le_refl _) (fun v6 w1 h6 e1 => ?_)))))
 replace e1 : Le w w1 := e1.mono (fun _ _ h => h)
 have z1 := e1.size
 have h6s := h6.sl
 replace h6 : OwnF byteF 5 w.heap.size w1 v6 b := h6
 replace h6s := h6.sl
 refine O.mv (O.quoU (m := 32) (b := 16777216#32) rfl rfl rfl rfl (by decide) (O.convUU (m := 32) (m' := 8) U34 U5 rfl rfl rfl (O.mv (O.quoU (m := 32) (b := 65536#32) rfl rfl rfl rfl (by decide) (O.remU (m := 32) (b := 256#32) rfl rfl rfl rfl (by decide) (O.convUU (m := 32) (m' := 8) U34 U5 rfl rfl rfl (O.mv (O.quoU (m := 32) (b := 256#32) rfl rfl rfl rfl (by decide) (O.remU (m := 32) (b := 256#32) rfl rfl rfl rfl (by decide) (O.convUU (m := 32) (m' := 8) U34 U5 rfl rfl rfl (O.mv (O.remU (m := 32) (b := 256#32) rfl rfl rfl rfl (by decide) ?_))))))))))))
 refine O.convUU (m := 32) (m' := 8) U34 U5 rfl rfl rfl (O.litn [.int .u8 (((n / 16777216#32).setWidth 8).toNat : Int), .int .u8 (((n / 65536#32 % 256#32).setWidth 8).toNat : Int), .int .u8 (((n / 256#32 % 256#32).setWidth 8).toNat : Int), .int .u8 (((n % 256#32).setWidth 8).toNat : Int)] U30 ti5 ts5 tz5 rfl (by decide) (by decide) rfl (by simp [Value.oneCell']) (fun b21 w2 hb21 hz21 e2 => ?_))
 have z2 := e2.size
 have h21 := hz21.own
 have hl21 := h21.lt
 have hq21 : Sl byteE w2 (fun k => k = b21) (.slice (some ⟨b21, 0, none⟩) 4 4) (Bt.end4L n) := Sl.litG (G := byteF) (n := 4) h21 rfl (by unfold maxLen; omega)
 refine O.appF (G := byteF) U30 ti5 tz5 ts5 rfl rfl rfl (h6.keep e2) hq21 (by rw [tb5, Bt.end4L_eq, Bt.sum4_len]; omega) (by unfold maxLen; rw [Bt.end4L_eq, Bt.sum4_len]; omega) (by omega) (fun v22 w3 h22 e3 => ?_)
 have z3 := e3.size
 have h22s := h22.sl
 refine O.asg (K2 (C.ret (Outs.one rfl rfl ?_)))
 exact ⟨(Ext.new (Ext.trans e1 e2) e3 (by intro i hi h; have := (h6.keep e2).bk_ge i h; omega)), (h22).lst (by rw [Bt.end4L_eq])⟩
theorem rbody_spec (v0 : Value) (raw : List EntR) (l : List EntT) (F : Nat → Prop) (w : World) (hr : Sl entF.enc w F v0 raw) (he : EntL w F raw l) (hF : ∀ k, F k → k < w.heap.size) (hB : Bt.Big l) (hT : (l.flatMap Bt.entB).length ≤ 100000000) (hn : l.length ≤ 1000000) :
 Ret prog 30 #[v0] w (fun v w' => Le w w' ∧ OwnF byteF 5 w.heap.size w' v (Bt.body l)) := by
 obtain ⟨ie5, ti5, ts5, tb5, tz5⟩ := inf5
 have hl := he.1
 have hrl := hr.le
 have hnl := Cn.num_le l.length (by omega)
 refine enT [v0] 31 func30 rfl rfl (C.sr fun K1 => O.asg (K1 (C.sr fun K2 => O.mv (O.len U22 rfl hr (O.convIU (m' := 64) U3 U110 rfl rfl rfl (O.call call67 (args1 rfl) (rnum_spec (BitVec.ofInt 64 (raw.length : Int)) _) ?_))))))
 rintro v_8 w1 ⟨e1, h8⟩
 have z1 := e1.size
 rw [Cn.u_def, Cn.u_nat (by omega), hl] at h8
 have sp1_ := OG.of h8 (by have := Cn.num_len l.length; omega)
 obtain ⟨g8, ho8, hb8⟩ := sp1_
 have hc8 := ho8.2.2
 refine O.asg (K2 (C.sq fun K3 => C.sr fun K4 => O.asg (K4 (C.bl fun K5 => C.loop0 (σ := Nat × Value × Nat) (fun f0 w0 ⟨k, o, gl⟩ f wz => f 3 = o ∧ f 4 = .int .i64 ((k : Int)) ∧ f 0 = f0 0 ∧ f 2 = f0 2 ∧ Le w wz ∧ OG byteF 5 wz o gl (Cn.num l.length ++ (l.take k).flatMap Bt.entB) ∧ k ≤ l.length ∧ w.heap.size ≤ gl ∧ gl < wz.heap.size) (fun ⟨k, o, gl⟩ => l.length - k) (0, v_8, g8) ?_ ?_))))
 ·
  refine ⟨rfl, rfl, rfl, rfl, e1, ((ho8).lst (by simp)), ?_⟩
  exact ⟨Nat.zero_le _, by omega, by omega⟩
 rintro ⟨k, o, gl⟩ f_1 w2 ⟨s3_1, s4_1, s0_1, s2_1, e_1, r0_1, ⟨hk, hgl, hgl2⟩⟩
 have z_1 := e_1.size
 have htl := Bt.take_len l k
 refine C.sq fun K6 => C.sr fun K7 => O.mv (O.mv (O.len U22 s0_1 (hr.keep e_1) (O.lssI s4_1 rfl (K7 (C.condD rfl (fun c12 => ?_) (fun c12 => ?_))))))
 ·
  have hk2 : k < l.length := by omega
  have hk9r : k < raw.length := by have q9 := ((he.keep e_1)).1; omega
  have hk8r : k < l.length := by have q9 := ((he.keep e_1)).1; omega
  have sp2_ : ∃ q : EntR, q = raw[k] := ⟨_, rfl⟩
  obtain ⟨r, hrr⟩ := sp2_
  have sp3_ : ∃ q : EntT, q = l[k] := ⟨_, rfl⟩
  obtain ⟨x, hxr⟩ := sp3_
  have t0 := ((he.keep e_1)).2 k hk9r hk8r
  have hkxr : r.1 = x.1 := by rw [hrr, hxr]; exact t0.1
  have hca : CartAt w2 F r.2 x.2 := by rw [hrr, hxr]; exact t0.2
  have hmxr : x ∈ l := by rw [hxr]; exact List.getElem_mem _
  have hbr := hB x hmxr
  have hml := Bt.mem_len hmxr
  have hel2 := Bt.entB_len x
  have hrl1 : r.1.length = x.1.length := by rw [hkxr]
  have hsl9 : (Cn.strB r.1).length = (Cn.num x.1.length).length + x.1.length := by rw [hkxr]; unfold Cn.strB; rw [List.length_append]
  refine C.skip (K6 (C.sq fun K8 => C.bl fun K9 => C.join (fun f w f' w' => Ext (fun k => k = gl) w w' ∧ f' 0 = f 0 ∧ f' 2 = f 2 ∧ f' 4 = f 4 ∧ ∃ (v3m : Value) (g3m : Nat), f' 3 = v3m ∧ OG byteF 5 w' v3m g3m (Cn.num l.length ++ (l.take k).flatMap Bt.entB ++ Cn.strB r.1 ++ Cn.bytes x.2) ∧ (g3m = gl ∨ w.heap.size ≤ g3m)) ?_ ?_))
  ·
   refine C.drawB (wB := w) (by kernel_rfl) fun w3 e3 => ?_
   have z3 := e3.size
   have t1 := Ext.trans e_1 e3
   refine D.mv 0 rfl t1 (D.mv 1 rfl t1 (D.mv 2 rfl t1 ?_))
   have sp4_ := Sl.at (i := (k : Int)) (P := prog) U22 Z50 rfl hr (by omega)
   obtain ⟨a18, h18, hr18⟩ := sp4_
   refine D.t 3 rfl t1 (fun _ _ _ hN => O.idxR s0_1 s4_1 hr18 (O.nil hN)) (D.t 4 rfl t1 (fun _ _ _ hN => O.ft U50 rfl Z9 rfl (O.nil hN)) (D.t 5 rfl t1 (fun _ hw_ _ hN => O.loadAtF (G := entF) isAgg9 rfl rfl (h18.keep hw_) (O.nil hN)) (D.cast (v' := str r.1) (by rw [hrr]; rfl) (D.mv 8 rfl t1 (D.mv 9 rfl t1 ?_)))))
   have sp5_ := Sl.at (i := (k : Int)) (P := prog) U22 Z50 rfl hr (by omega)
   obtain ⟨a25, h25, hr25⟩ := sp5_
   refine D.t 10 rfl t1 (fun _ _ _ hN => O.idxR s0_1 s4_1 hr25 (O.nil hN)) (D.t 11 rfl t1 (fun _ _ _ hN => O.ft U50 rfl Z47 rfl (O.nil hN)) (D.t 12 rfl t1 (fun _ hw_ _ hN => O.loadPart (G := entF) isAgg47 Z47 (by decide) rfl (h25.keep hw_) (O.nil hN)) (D.cast (v' := .agg #[slv r.2.1.1, slv r.2.1.2, slv r.2.2]) (by rw [hrr]; rfl) (D.on 6 rfl rfl (O.call call68 (args1 rfl) (rstr_spec r.1 _ (by omega)) ?_)))))
   rintro v_21 w4 ⟨e4, h21⟩
   have z4 := e4.size
   refine O.nil ⟨(Ext.trans t1 e4), ?_⟩
   have h21s := h21.sl
   refine D.on 7 rfl rfl ?_
   have t2 := (r0_1.keep e3).keep e4
   refine O.appG (G := byteF) U30 ti5 tz5 ts5 rfl s3_1 rfl t2 h21s (by rw [tb5]; (try simp only [List.length_append]); omega) (by unfold maxLen; (try simp only [List.length_append]); omega) (fun v22 gg22 w5 h22 hg22 e5 hw22 => ?_)
   have e5m := e5.mono (M' := fun k => k = _) (fun k _ hk => t2.2.1 k hk)
   have z5 := e5.size
   have hgl22 := h22.2.2
   have t3 := Ext.new (Ext.trans t1 e4) e5 (by intro i hi h; replace h := t2.2.1 _ h; (try dsimp only at h); omega)
   refine O.nil ⟨t3, D.on 13 rfl rfl ?_⟩
   have t4 := (hca.keep e3).keep e4
   have t5 := t4.keepM e5 (by intro k hk h; replace h := t2.2.1 _ h; first | (have q1 := hF k hk; (try dsimp only at h); omega) | (have q1 := hF2 k hk; (try dsimp only at h); omega) | (have q1 := hFb k hk; (try dsimp only at h); omega) | ((try dsimp only at hk); (try dsimp only at h); omega))
   refine O.call call69 (args1 rfl) (rbytes_spec (slv r.2.1.1) (slv r.2.1.2) (slv r.2.2) x.2 F _ (t5).1 (t5).2.1 (t5).2.2 (fun j hj => by have q1 := hF j hj; omega) hbr.2.2.2.1 hbr.2.2.2.2 hbr.2.1 hbr.2.2.1) ?_
   rintro v_28 w6 ⟨e6, h28⟩
   have z6 := e6.size
   refine O.nil ⟨(Ext.trans t3 e6), ?_⟩
   have h28s := h28.sl
   refine D.on 14 rfl rfl (O.appG (G := byteF) U30 ti5 tz5 ts5 rfl rfl rfl (h22.keep e6) h28s (by rw [tb5]; (try simp only [List.length_append]); omega) (by unfold maxLen; (try simp only [List.length_append]); omega) (fun v29 gg29 w7 h29 hg29 e7 hw29 => ?_))
   have e7m := e7.mono (M' := fun k => k = _) (fun k _ hk => (h22.keep e6).2.1 k hk)
   have z7 := e7.size
   have hgl29 := h29.2.2
   have t6 := Ext.new (Ext.trans t3 e6) e7 (by intro i hi h; replace h := (h22.keep e6).2.1 _ h; (try dsimp only at h); omega)
   refine O.nil ⟨t6, D.as 15 rfl t6 (D.dn ?_)⟩
   exact ⟨(Ext.nw (Ext.nw (Ext.nw (Ext.nw (Ext.nw (Ext.refl _ _) e3) e4) e5m) e6) e7m), rfl, rfl, rfl, ⟨_, _, rfl, ⟨h29, by omega⟩⟩⟩
  rintro f_2 w8 ⟨e_2, s0_2, s2_2, s4_2, ⟨v3m, g3m, s3_2, q0_2⟩⟩
  have z_2 := e_2.size
  obtain ⟨h29, hg29⟩ := q0_2
  have hgl29 := h29.2.2
  refine K9 (K8 (C.region (O.mv (O.addI (Eq.trans s4_2 s4_1) rfl (by unfold InI; omega) (O.asg (O.nil (⟨(k + 1, _, _), ⟨s3_2, rfl, (Eq.trans s0_2 s0_1), (Eq.trans s2_2 s2_1), (Ext.new e_1 e_2 (by intro i hi h; (try dsimp only at h); omega)), ((h29).lst (by rw [Cn.flatMap_take _ hk2, ← hxr, hkxr]; unfold Bt.entB; simp only [List.append_assoc])), ?_⟩, by first | omega | (simp only []; omega)⟩)))))))
  exact ⟨by omega, by omega, by omega⟩
 have hk3 : k = l.length := by omega
 refine C.exit (K5 (K3 (C.sr fun K10 => O.mv (O.asg (K10 (C.ret (Outs.one rfl s3_1 ?_)))))))
 exact ⟨e_1, ((r0_1).own (by omega)).lst (by rw [hk3, List.take_length]; rfl)⟩
theorem lwhole_spec (v0 : Value) (raw : List EntR) (l : List EntT) (F : Nat → Prop) (w : World) (hr : Sl entF.enc w F v0 raw) (he : EntL w F raw l) (hF : ∀ k, F k → k < w.heap.size) (hB : Bt.Big l) (hT : (l.flatMap Bt.entB).length ≤ 100000000) (hn : l.length ≤ 1000000) :
 Ret prog 22 #[v0] w (fun v w' => Le w w' ∧ OwnF byteF 5 w.heap.size w' v (Bt.enc l)) := by
 have hbl := Bt.body_le hT hn
 refine enT [v0] 10 func22 rfl rfl (C.sr fun K1 => O.asg (K1 (C.sr fun K2 => O.mv (O.call call30 (args1 rfl) (rbody_spec v0 raw l F _ hr he (fun j hj => by have q1 := hF j hj; omega) hB hT hn) ?_))))
 rintro v_5 w1 ⟨e1, h5⟩
 have z1 := e1.size
 have h5s := h5.sl
 refine O.asg (K2 (C.sr fun K3 => O.mv (O.mv (O.call call25 (args1 rfl) (csum_spec _ _ _ _ h5s) ?_))))
 rintro v_8 w2 ⟨rfl, e2⟩
 have z2 := e2.size
 refine O.call call24 (args2 rfl rfl) (rend_spec _ (Bt.body l) _ (Bt.sumOf (Bt.body l)) _ (h5s.keep e2) (by omega)) ?_
 rintro v_9 w3 ⟨e3, h9⟩
 have z3 := e3.size
 refine O.asg (K3 (C.ret (Outs.one rfl rfl ?_)))
 exact ⟨(Ext.trans (Ext.trans e1 e2) e3), h9.low (by omega)⟩
theorem copyL_spec (v0 : Value) (raw : List EntR) (l : List EntT) (F : Nat → Prop) (w : World) (hr : Sl entF.enc w F v0 raw) (he : EntL w F raw l) (hF : ∀ k, F k → k < w.heap.size) (hB : Bt.Big l) (hn : l.length ≤ 1000000) (mx : Mx w) :
 Ret prog 17 #[v0] w (fun v w' => SlS 50 w' (fun j => w.heap.size ≤ j ∧ j < w'.heap.size) (fun j => w.heap.size ≤ j ∧ j < w'.heap.size ∧ ¬ bk v j) v l ∧ Le w w') := by
 obtain ⟨ie50, ti50, ts50, tb50, tz50⟩ := inf50
 have hl := he.1
 have hrl := hr.le
 have hgl9 := mx.lt
 refine enT [v0] 27 func17 rfl rfl (C.sr fun K1 => O.asg (K1 (C.sr fun K2 => O.asg (K2 (C.sq fun K3 => C.sr fun K4 => O.asg (K4 (C.bl fun K5 => C.loop0 (σ := Nat × Value × Nat × List EntR × Nat) (fun f0 w0 ⟨k, o, gl, rr, hi⟩ f wz => f 3 = o ∧ f 4 = .int .i64 ((k : Int)) ∧ f 0 = f0 0 ∧ f 2 = f0 2 ∧ Le w wz ∧ OG entF 50 wz o gl (rr) ∧ EntL wz (fun j => w.heap.size ≤ j ∧ j < hi ∧ j ≠ gl) rr (l.take k) ∧ k ≤ l.length ∧ (∀ j, bk o j → w.heap.size ≤ j) ∧ hi ≤ wz.heap.size) (fun ⟨k, o, gl, rr, hi⟩ => l.length - k) (0, .slice none 0 0, 0, [], 0) ?_ ?_)))))))
 ·
  refine ⟨rfl, rfl, rfl, rfl, (Le.refl _), (OG.nil (by omega)), EntL.nil, ?_⟩
  exact ⟨Nat.zero_le _, fun _ h => h.elim, Nat.zero_le _⟩
 rintro ⟨k, o, gl, rr, hi⟩ f_1 w1 ⟨s3_1, s4_1, s0_1, s2_1, e_1, r0_1, r1_1, ⟨hk, hob, hhi⟩⟩
 have z_1 := e_1.size
 have hogl := (r0_1).2.2
 have hogu := (r0_1).2.1
 have hrx := (r1_1).1
 rw [List.length_take] at hrx
 refine C.sq fun K6 => C.sr fun K7 => O.mv (O.mv (O.len U22 s0_1 (hr.keep e_1) (O.lssI s4_1 rfl (K7 (C.condD rfl (fun c8 => ?_) (fun c8 => ?_))))))
 ·
  have hk2 : k < l.length := by omega
  have hk9r : k < raw.length := by have q9 := ((he.keep e_1)).1; omega
  have hk8r : k < l.length := by have q9 := ((he.keep e_1)).1; omega
  have sp6_ : ∃ q : EntR, q = raw[k] := ⟨_, rfl⟩
  obtain ⟨r, hrr⟩ := sp6_
  have sp7_ : ∃ q : EntT, q = l[k] := ⟨_, rfl⟩
  obtain ⟨x, hxr⟩ := sp7_
  have t0 := ((he.keep e_1)).2 k hk9r hk8r
  have hkxr : r.1 = x.1 := by rw [hrr, hxr]; exact t0.1
  have hca : CartAt w1 F r.2 x.2 := by rw [hrr, hxr]; exact t0.2
  have hmxr : x ∈ l := by rw [hxr]; exact List.getElem_mem _
  have hbr := hB x hmxr
  have sp8_ : ∃ n, n = w1.heap.size := ⟨_, rfl⟩
  obtain ⟨w0_, hw0_⟩ := sp8_
  refine C.skip (K6 (C.sq fun K8 => C.bl fun K9 => C.drawB (wB := w) (by kernel_rfl) fun w2 e2 => ?_))
  have z2 := e2.size
  have t1 := Ext.trans e_1 e2
  refine D.mv 0 rfl t1 (D.mv 1 rfl t1 (D.mv 2 rfl t1 ?_))
  have sp9_ := Sl.at (i := (k : Int)) (P := prog) U22 Z50 rfl hr (by omega)
  obtain ⟨a14, h14, hr14⟩ := sp9_
  refine D.t 3 rfl t1 (fun _ _ _ hN => O.idxR s0_1 s4_1 hr14 (O.nil hN)) (D.t 4 rfl t1 (fun _ _ _ hN => O.ft U50 rfl Z9 rfl (O.nil hN)) (D.t 5 rfl t1 (fun _ hw_ _ hN => O.loadAtF (G := entF) isAgg9 rfl rfl (h14.keep hw_) (O.nil hN)) (D.cast (v' := str r.1) (by rw [hrr]; rfl) (D.mv 6 rfl t1 (D.mv 7 rfl t1 ?_)))))
  have sp10_ := Sl.at (i := (k : Int)) (P := prog) U22 Z50 rfl hr (by omega)
  obtain ⟨a19, h19, hr19⟩ := sp10_
  refine D.t 8 rfl t1 (fun _ _ _ hN => O.idxR s0_1 s4_1 hr19 (O.nil hN)) (D.t 9 rfl t1 (fun _ _ _ hN => O.ft U50 rfl Z47 rfl (O.nil hN)) (D.t 10 rfl t1 (fun _ hw_ _ hN => O.loadPart (G := entF) isAgg47 Z47 (by decide) rfl (h19.keep hw_) (O.nil hN)) (D.cast (v' := .agg #[slv r.2.1.1, slv r.2.1.2, slv r.2.2]) (by rw [hrr]; rfl) (D.on 11 rfl rfl (O.call call53 (args1 rfl) (copy_spec (slv r.2.1.1) (slv r.2.1.2) (slv r.2.2) x.2 F _ ((hca.keep e2)).1 ((hca.keep e2)).2.1 ((hca.keep e2)).2.2 (fun j hj => by have q1 := hF j hj; omega) hbr.2.2.2.1 hbr.2.2.2.2 hbr.2.1 hbr.2.2.1) ?_)))))
  rintro v_22 w3 ⟨vav22, vbv22, vcv22, rfl, hxv22, hyv22, hzv22, e3⟩
  have z3 := e3.size
  refine O.nil ⟨(Ext.trans t1 e3), ?_⟩
  have sp11_ := hxv22.slv
  obtain ⟨p1, sp11_⟩ := sp11_
  subst sp11_
  have sp12_ := hyv22.slv
  obtain ⟨p2, sp12_⟩ := sp12_
  subst sp12_
  have sp13_ := hzv22.slv
  obtain ⟨p3, sp13_⟩ := sp13_
  subst sp13_
  have sp14_ : ∃ n, n = w3.heap.size := ⟨_, rfl⟩
  obtain ⟨wa, hwa⟩ := sp14_
  have hca22 : CartAt w3 (fun j => w0_ ≤ j ∧ j < wa) ((p1, p2), p3) x.2 := ⟨hxv22.weakA, hyv22.weakA, hzv22.weakA⟩
  refine D.on 12 rfl rfl (O.build (cells := #[str r.1, slv p1, slv p2, slv p3]) rfl (by kernel_rfl) (O.nil ⟨(Ext.trans t1 e3), D.on 13 rfl rfl (O.litG (G := entF) [(r.1, (p1, p2), p3)] U22 ti50 ts50 tz50 rfl (by decide) (by decide) rfl (fun b24 w4 hb24 hz24 e4 => ?_))⟩))
  have z4 := e4.size
  have h24 := hz24.own
  have hq24 := Sl.litG (n := 1) h24 rfl (by unfold maxLen; omega)
  have t2 := Ext.trans (Ext.trans t1 e3) e4
  refine O.nil ⟨t2, D.on 14 rfl rfl ?_⟩
  have t3 := ((r0_1.keep e2).keep e3).keep e4
  refine O.appG (G := entF) U22 ti50 tz50 ts50 rfl s3_1 rfl t3 hq24 (by rw [tb50]; simp; omega) (by unfold maxLen; simp; omega) (fun v25 gg25 w5 h25 hg25 e5 hw25 => ?_)
  have e5m := e5.mono (M' := fun k => k = _) (fun k _ hk => t3.2.1 k hk)
  have z5 := e5.size
  have hgl25 := h25.2.2
  have t4 := Ext.new t2 e5 (by intro i hi h; have := hob i h; omega)
  refine O.nil ⟨t4, ?_⟩
  have hob25 : ∀ k, bk v25 k → w.heap.size ≤ k := fun k hk => by
   rcases hw25 k hk with q | q
   ·exact hob k q
   ·omega
  have hg25 : w.heap.size ≤ gg25 := hob25 _ (h25.bk (by simp))
  have hgg25 := (hw25 _ (h25.bk (by simp))).imp (hogu _) id
  refine D.as 15 rfl t4 (D.dn (K9 (K8 (C.region (O.mv (O.addI s4_1 rfl (by unfold InI; omega) (O.asg (O.nil ?_))))))))
  refine ⟨(k + 1, v25, gg25, rr ++ [(r.1, (p1, p2), p3)], wa), ⟨rfl, rfl, s0_1, s2_1, t4, h25, (show EntL _ (fun j => w.heap.size ≤ j ∧ j < wa ∧ j ≠ gg25) (rr ++ [(r.1, (p1, p2), p3)]) (l.take (k + 1)) by
 rw [List.take_succ_eq_append_getElem hk2, ← hxr]
 exact ((((((r1_1.keep e2).keep e3).keep e4).keepM e5 (by intro j hj h; exact hj.2.2 (hogu j h)))).weakA).snoc hkxr ((((hca22.keep e4).keepM e5 (by intro j hj h; have q3 := hogu j h; (try dsimp only at hj); omega))).weakA)), ?_⟩, by first | omega | (simp only []; omega)⟩
  exact ⟨by omega, hob25, by omega⟩
 have hk3 : k = l.length := by omega
 refine C.exit (K5 (K3 (C.sr fun K10 => O.mv (O.asg (K10 (C.ret (Outs.one rfl s3_1 ?_)))))))
 have hbk9 := (r0_1).1.bk_ge
 refine ⟨⟨rr, (r0_1).1.fre (fun j hj => ⟨hob j hj, (hbk9 j hj).2⟩), ?_⟩, e_1⟩
 have q9 := (r1_1).weak (F' := fun j => w.heap.size ≤ j ∧ j < w1.heap.size ∧ ¬ bk o j) (fun j hj => ⟨hj.1, by omega, fun q => hj.2.2 (hogu j q)⟩)
 rw [hk3, List.take_length] at q9
 exact q9
end Go.Proofs.YtpbcafkcfobngaaGreatDoor
