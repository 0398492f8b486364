/-
 The walks of digests: which are valid, which are equal. Conditions: slices as they lie in memory.
-/
import Derived.Test.YtlgjaminfabchaaGreatDoorProg
import Derived.Test.YtlgjaminfabchaaGreatDoorRows
import Derived.Shelf.SlLaysF
import Derived.Shelf.SlLaysF0
import Derived.Ground.SlsfProg
import Derived.Shelf.Strings.Builder1
import Derived.Shelf.Strings.Trim
import Derived.Shelf.Small.Utf8
import Derived.Shelf.Small.Bits
import Derived.Shelf.Small.Strs
import Derived.Shelf.Small.Wraps
import Derived.Shelf.Strings.BuilderF
import Derived.Shelf.Strings.BuilderK
import Derived.Shelf.Strconv.Itoa0
import Derived.Shelf.Strings.Search1
import Derived.Shelf.Strings.Search2
import Derived.Shelf.Strings.Search3
import Derived.Shelf.LaysM
import Derived.Shelf.Strings.Shaped
import Derived.Shelf.Unicode.Decode
import Derived.Shelf.Strings.Runes
import Derived.Shelf.Strings.AsciiSet
import Derived.Shelf.Unicode.DecodeSlow
import Derived.Shelf.Unicode.DecodeAny
import Derived.Shelf.Unicode.DecodeLast
import Derived.Shelf.Strings.BuilderCap
import Derived.Shelf.Slices.CompactS
import Derived.Ground.Names2Prog
import Derived.Shelf.Slices.SearchI
import Derived.Shelf.Slices.Cells
import Derived.Shelf.SlSortCmp.Insertion
import Derived.Shelf.SlSortCmp.SiftDown1
import Derived.Shelf.SlSortCmp.HeapSort1
import Derived.Shelf.SlSortCmp.Insertion1
import Derived.Shelf.SlSortCmp.Median1
import Derived.Shelf.SlSortCmp.Pivot1
import Derived.Shelf.SlSortCmp.ReverseRange1
import Derived.Shelf.SlSortCmp.PartialInsertion1
import Derived.Shelf.SlSortCmp.PartitionEqual1
import Derived.Shelf.SlSortCmp.Partition1
import Derived.Shelf.SlSortCmp.Pdq1
import Derived.Shelf.SlSortCmp.Whole1
import Derived.Test.YtlgjaminfabchaaGreatDoorDigestHoldsM1
namespace Go.Proofs.YtlgjaminfabchaaGreatDoor
open Go.Pn Go.RowKit Go.Proofs _root_.Go.Proofs.Tryz
attribute [local irreducible] O C D
set_option maxHeartbeats 2000000 in
theorem lequal_spec (d:Dg.Dig)(vd:Value)(F:Nat->Prop)(e:Dg.Dig)(ve:Value)(F2:Nat->Prop)(w:World)(hd:Sl leafF.enc w F vd d.ls)(hdb:d.bs.length=16)(he:Sl leafF.enc w F2 ve e.ls)(heb:e.bs.length=16):
 Ret prog 15 #[.agg (dgC vd d.bs d.rt).toArray,.agg (dgC ve e.bs e.rt).toArray] w (λv w'=>v=.bool (decide (d=e))∧Le w w'):=by
 have hdl:=hd.le;have hel:=he.le;obtain ⟨ie26,ti26,ts26,tb26,tz26⟩:=inf26;refine enT [.agg (dgC vd d.bs d.rt).toArray,.agg (dgC ve e.bs e.rt).toArray] 45 func15 rfl rfl (C.sr λK1=>O.box (v:=.agg (dgC vd d.bs d.rt).toArray) rfl (λb2 w1 hb2 hz2 e1=>?_));have z1:=e1.size;have h2:=hz2.own;have hl2:=h2.lt;replace h2:Own w1 b2 31 (dgC vd d.bs d.rt):=h2;refine O.box (v:=.agg (dgC ve e.bs e.rt).toArray) rfl (λb3 w2 hb3 hz3 e2=>?_);have z2:=e2.size;have h3:=hz3.own;have hl3:=h3.lt;replace h3:Own w2 b3 31 (dgC ve e.bs e.rt):=h3;refine O.j (K1 (C.sq λK2=>C.sr λK3=>O.fa U31 rfl Z28 rfl (O.loadO isAgg28 rfl (h2.L e2) rfl (O.len U28 rfl ((hd.L e1).L e2) (O.fa U31 rfl Z28 rfl (O.loadO isAgg28 rfl h3 rfl (O.len U28 rfl ((he.L e1).L e2) (O.neqI rfl rfl (O.mv (O.splitD (x:=.tmp 13) rfl (λc13=>?_) (λc13=>?_)))))))))))
 ·
  refine O.no rfl (noB (isT rfl c13) rfl) (O.no rfl (noB (isT rfl c13) rfl) (O.no rfl (noB (isT rfl c13) rfl) (O.no rfl (noB (isT rfl c13) rfl) (O.no rfl (noB (isT rfl c13) rfl) (O.pickT (isT rfl c13) (O.mv (O.no rfl (noB rfl rfl) (O.no rfl (noB rfl rfl) (O.no rfl (noB rfl rfl) (O.no rfl (noB rfl rfl) (O.no rfl (noB rfl rfl) (O.pickT rfl (K3 (C.condT rfl (C.sr λK4=>O.j (K4 (C.ret (Outs.one rfl rfl ?_))))))))))))))))));exact ⟨cB (dF (λh=>absurd (congrArg (λq:Dg.Dig=>(q.ls.length:Int)) h) c13)).symm,(Ext.T e1 e2)⟩
 refine O.yes rfl (isF rfl c13) (O.fa U31 rfl Z29 rfl (O.cast (v':=.pointer (some ⟨b2,1,none⟩)) rfl (O.yes rfl (isF rfl c13) (O.loadOA isAgg29 Z29 rfl (h2.L e2) (by rw[dgC_len];omega) (O.cast (v':=.agg (d.bs.map u6).toArray) (by rw[dgC_arr hdb]) (O.yes rfl (isF rfl c13) (O.fa U31 rfl Z29 rfl (O.cast (v':=.pointer (some ⟨b3,1,none⟩)) rfl (O.yes rfl (isF rfl c13) (O.loadOA isAgg29 Z29 rfl h3 (by rw[dgC_len];omega) (O.cast (v':=.agg (e.bs.map u6).toArray) (by rw[dgC_arr heb]) (O.yes rfl (isF rfl c13) ?_))))))))))));refine O.neqAr (a:=d.bs) (b:=e.bs) U29 U26 ti26 (by kernel_rfl) isAgg26 (by kernel_rfl) rfl rfl hdb heb (O.pickF (isF rfl c13) (O.mv (O.splitD (x:=.tmp 20) rfl (λc20=>?_) (λc20=>?_))))
 ·
  refine O.no rfl (noB (isT rfl c20) rfl) (O.no rfl (noB (isT rfl c20) rfl) (O.no rfl (noB (isT rfl c20) rfl) (O.no rfl (noB (isT rfl c20) rfl) (O.no rfl (noB (isT rfl c20) rfl) (O.pickT (isT rfl c20) (K3 (C.condT rfl (C.sr λK5=>O.j (K5 (C.ret (Outs.one rfl rfl ?_)))))))))));exact ⟨cB (dF (λh=>absurd (congrArg Dg.Dig.bs h) c20)).symm,(Ext.T e1 e2)⟩
 refine O.yes rfl (isF rfl c20) (O.fa U31 rfl Z26 rfl (O.cast (v':=.pointer (some ⟨b2,17,none⟩)) rfl (O.yes rfl (isF rfl c20) (O.loadO isAgg26 rfl (h2.L e2) (dgC_rt hdb) (O.cast (v':=.int .u64 (d.rt.toNat:Int)) rfl (O.yes rfl (isF rfl c20) (O.fa U31 rfl Z26 rfl (O.cast (v':=.pointer (some ⟨b3,17,none⟩)) rfl (O.yes rfl (isF rfl c20) (O.loadO isAgg26 rfl h3 (dgC_rt heb) (O.cast (v':=.int .u64 (e.rt.toNat:Int)) rfl (O.yes rfl (isF rfl c20) (O.neqU (m:=64) rfl rfl (O.pickF (isF rfl c20) (K3 (C.condD rfl (λc26=>?_) (λc26=>?_)))))))))))))))))
 ·
  refine C.sr λK6=>O.j (K6 (C.ret (Outs.one rfl rfl ?_)))
  exact ⟨cB (dF (λh=>absurd (congrArg Dg.Dig.rt h) c26)).symm,(Ext.T e1 e2)⟩
 refine C.skip (K2 (C.sq λK7=>C.sr λK8=>O.j (K8 (C.bl λK9=>C.loop0 (σ:=Nat) (λf0 w0 k f wz=>f 5=.int .i64 ((k:Int))∧f 2=f0 2∧f 3=f0 3∧Le w wz∧Own wz b2 31 (dgC vd d.bs d.rt)∧Own wz b3 31 (dgC ve e.bs e.rt)∧k<=d.ls.length∧(∀i,∀h:i<d.ls.length,∀h2:i<e.ls.length,i<k->d.ls[i]=e.ls[i])) (λk=>d.ls.length-k) 0 ?_ ?_))))
 ·
  refine ⟨rfl,rfl,rfl,(Ext.T e1 e2),(h2.L e2),h3,?_⟩;exact ⟨Nat.zero_le _,λi h h2 k=>absurd k (Nat.not_lt_zero _)⟩
 rintro k f_1 w3 ⟨s5_1,s2_1,s3_1,e_1,r0_1,r1_1,⟨hk,hI⟩⟩;have z_1:=e_1.size;refine C.sq λK10=>C.sr λK11=>O.mv (O.fa U31 rfl Z28 s2_1 (O.loadO isAgg28 rfl r0_1 rfl (O.len U28 rfl (hd.L e_1) (O.lssI s5_1 rfl (K11 (C.condD rfl (λc31=>?_) (λc31=>?_)))))))
 ·
  have hk2:k<d.ls.length:=by omega
  have hk3:k<e.ls.length:=by omega
  refine C.skip (K10 (C.sq λK12=>C.bl λK13=>C.sd λK14 w4 e4 z4=>D.t 0 rfl leR (λ_ _ _ hN=>O.fa U31 rfl Z28 s2_1 (O.o hN)) (D.t 1 rfl leR (λ_ hw_ _ hN=>O.loadO isAgg28 rfl ((r0_1.L e4).L hw_) rfl (O.o hN)) (D.mv 2 rfl leR ?_))));have sp1_:=Sl.at (i:=(k:Int)) (P:=prog) U28 Z47 rfl ((hd.L e_1).L e4) (by omega);obtain ⟨a37,h37,hr37⟩:=sp1_;refine D.t 3 rfl leR (λ_ _ _ hN=>O.idxR rfl s5_1 hr37 (O.o hN)) (D.t 4 rfl leR (λ_ hw_ _ hN=>O.loadG (G:=leafF) isAgg47 Z47 rfl (h37.L hw_) (O.o hN)) (D.t 5 rfl leR (λ_ _ _ hN=>O.fa U31 rfl Z28 s3_1 (O.o hN)) (D.t 6 rfl leR (λ_ hw_ _ hN=>O.loadO isAgg28 rfl ((r1_1.L e4).L hw_) rfl (O.o hN)) (D.mv 7 rfl leR ?_))));have sp2_:=Sl.at (i:=(k:Int)) (P:=prog) U28 Z47 rfl ((he.L e_1).L e4) (by omega);obtain ⟨a42,h42,hr42⟩:=sp2_;refine D.t 8 rfl leR (λ_ _ _ hN=>O.idxR rfl s5_1 hr42 (O.o hN)) (D.t 9 rfl leR (λ_ hw_ _ hN=>O.loadG (G:=leafF) isAgg47 Z47 rfl (h42.L hw_) (O.o hN)) (D.t 10 rfl leR (λ_ _ _ hN=>O.neqLf (a:=(d.ls[k]'(by omega))) (b:=(e.ls[k]'(by omega))) U47 (by decide) (by decide) rfl rfl U9 U26 isAgg9 isAgg26 (by kernel_rfl) (by kernel_rfl) rfl rfl (O.o hN)) (K14 (C.condD rfl (λc44=>?_) (λc44=>?_)))))
  ·
   refine C.sr λK15=>O.j (K15 (C.ret (Outs.one rfl rfl ?_)))
   exact ⟨cB (dF (λh=>absurd (by simp only[h]) c44)).symm,(Ext.T e_1 e4)⟩
  refine C.skip (K13 (K12 (C.region (O.mv (O.ad s5_1 rfl (O.j (O.o (⟨k+1,⟨rfl,s2_1,s3_1,(Ext.T e_1 e4),(r0_1.L e4),(r1_1.L e4),?_⟩,by first|omega|(simp only[];omega)⟩))))))));refine ⟨by omega,λi hi hi2 hik=>?_⟩;rcases Nat.lt_or_eq_of_le (Nat.le_of_lt_succ hik) with h|rfl
  ·exact hI i hi hi2 h
  ·exact Decidable.of_not_not c44
 refine C.exit (K9 (K7 (C.sr λK16=>O.j (K16 (C.ret (Outs.one rfl rfl ?_))))));exact ⟨cB (dT (Dg.dig_ext (List.ext_getElem (by omega) (λi h1 h2=>hI i h1 h2 (by omega))) (by simpa using c20) (by simpa using c26))).symm,e_1⟩
end Go.Proofs.YtlgjaminfabchaaGreatDoor
