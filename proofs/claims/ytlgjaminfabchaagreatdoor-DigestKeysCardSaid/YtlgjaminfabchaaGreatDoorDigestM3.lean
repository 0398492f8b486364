/-
 The walks of hashes. Conditions: what lies in memory.
-/
import Derived.Test.YtlgjaminfabchaaGreatDoorProg
import Derived.Test.YtlgjaminfabchaaGreatDoorRows
import Derived.Shelf.SlLaysF
import Derived.Shelf.SlLaysF0
import Derived.Ground.SlsfProg
import Derived.Shelf.Strings.Builder1
import Derived.Shelf.Strings.Trim
import Derived.Shelf.Small.Utf8
import Derived.Shelf.Small.Bits
import Derived.Shelf.Small.Strs
import Derived.Shelf.Small.Wraps
import Derived.Shelf.Strings.BuilderF
import Derived.Shelf.Strings.BuilderK
import Derived.Shelf.Strconv.Itoa0
import Derived.Shelf.Strings.Search1
import Derived.Shelf.Strings.Search2
import Derived.Shelf.Strings.Search3
import Derived.Shelf.LaysM
import Derived.Shelf.Strings.Shaped
import Derived.Shelf.Unicode.Decode
import Derived.Shelf.Strings.Runes
import Derived.Shelf.Strings.AsciiSet
import Derived.Shelf.Unicode.DecodeSlow
import Derived.Shelf.Unicode.DecodeAny
import Derived.Shelf.Unicode.DecodeLast
import Derived.Shelf.Strings.BuilderCap
import Derived.Shelf.Slices.CompactS
import Derived.Ground.Names2Prog
import Derived.Shelf.Slices.SearchI
import Derived.Shelf.Slices.Cells
import Derived.Shelf.SlSortCmp.Insertion
import Derived.Shelf.SlSortCmp.SiftDown1
import Derived.Shelf.SlSortCmp.HeapSort1
import Derived.Shelf.SlSortCmp.Insertion1
import Derived.Shelf.SlSortCmp.Median1
import Derived.Shelf.SlSortCmp.Pivot1
import Derived.Shelf.SlSortCmp.ReverseRange1
import Derived.Shelf.SlSortCmp.PartialInsertion1
import Derived.Shelf.SlSortCmp.PartitionEqual1
import Derived.Shelf.SlSortCmp.Partition1
import Derived.Shelf.SlSortCmp.Pdq1
import Derived.Shelf.SlSortCmp.Whole1
import Derived.Test.YtlgjaminfabchaaGreatDoorDigestM2
set_option maxHeartbeats 16000000
namespace Go.Proofs
open _root_.Go.Proofs.Tryz
theorem Z101:type_of%@sizeOf101:=sizeOf101
theorem Z119:type_of%@sizeOf119:=sizeOf119
theorem Z155:type_of%@sizeOf155:=sizeOf155
theorem Z26:type_of%@sizeOf26:=sizeOf26
theorem Z28:type_of%@sizeOf28:=sizeOf28
theorem Z29:type_of%@sizeOf29:=sizeOf29
theorem Z3:type_of%@sizeOf3:=sizeOf3
theorem Z31:type_of%@sizeOf31:=sizeOf31
theorem Z47:type_of%@sizeOf47:=sizeOf47
theorem Z48:type_of%@sizeOf48:=sizeOf48
theorem Z49:type_of%@sizeOf49:=sizeOf49
theorem Z5:type_of%@sizeOf5:=sizeOf5
theorem Z51:type_of%@sizeOf51:=sizeOf51
theorem Z52:type_of%@sizeOf52:=sizeOf52
theorem Z54:type_of%@sizeOf54:=sizeOf54
theorem Z56:type_of%@sizeOf56:=sizeOf56
theorem Z63:type_of%@sizeOf63:=sizeOf63
theorem Z74:type_of%@sizeOf74:=sizeOf74
theorem Z76:type_of%@sizeOf76:=sizeOf76
theorem Z9:type_of%@sizeOf9:=sizeOf9
theorem U101:type_of%@underlying101:=underlying101
theorem U102:type_of%@underlying102:=underlying102
theorem U119:type_of%@underlying119:=underlying119
theorem U132:type_of%@underlying132:=underlying132
theorem U155:type_of%@underlying155:=underlying155
theorem U211:type_of%@underlying211:=underlying211
theorem U22:type_of%@underlying22:=underlying22
theorem U225:type_of%@underlying225:=underlying225
theorem U26:type_of%@underlying26:=underlying26
theorem U28:type_of%@underlying28:=underlying28
theorem U29:type_of%@underlying29:=underlying29
theorem U3:type_of%@underlying3:=underlying3
theorem U31:type_of%@underlying31:=underlying31
theorem U44:type_of%@underlying44:=underlying44
theorem U45:type_of%@underlying45:=underlying45
theorem U47:type_of%@underlying47:=underlying47
theorem U48:type_of%@underlying48:=underlying48
theorem U49:type_of%@underlying49:=underlying49
theorem U5:type_of%@underlying5:=underlying5
theorem U51:type_of%@underlying51:=underlying51
theorem U52:type_of%@underlying52:=underlying52
theorem U54:type_of%@underlying54:=underlying54
theorem U56:type_of%@underlying56:=underlying56
theorem U63:type_of%@underlying63:=underlying63
theorem U74:type_of%@underlying74:=underlying74
theorem U76:type_of%@underlying76:=underlying76
theorem U83:type_of%@underlying83:=underlying83
theorem U9:type_of%@underlying9:=underlying9
end Go.Proofs
section
namespace Go.Proofs.YtlgjaminfabchaaGreatDoor
open Go.Pn Go.RowKit Go.Proofs _root_.Go.Proofs.Tryz
attribute [local irreducible] O C D
theorem hash_spec (l:List UInt8)(w:World)(hlm:l.length<=maxLen)(hg:Row u64E w (λk=>k=0) 0 0 [Dg.off,Dg.prime]):
 Ret prog 11 #[str (l)] w (λv w'=>v=.int .u64 ((Dg.hash l).toNat:Int)∧Le w w'):=by
 have hlm9:=hlm;unfold maxLen at hlm9;refine enT [str (l)] 24 func11 rfl rfl (C.sr λK1=>O.j (K1 (C.sr λK2=>O.idxA (i:=0) underlying78 Z26 rfl rfl (by omega) (O.loadR isAgg26 rfl rfl hg (by decide) (λv7 h7=>?_)))));obtain rfl:=u64E.inv h7;refine O.j (K2 (C.sq λK3=>C.sr λK4=>O.mv (O.strB U9 U63 U5 rfl hlm (λb9 cap9 w1 hb9 hc9 h9 hs9 e1=>?_))));have z1:=e1.size;refine O.len U63 rfl hs9 (O.mv (K4 (C.bl λK5=>C.loop0 (σ:=Nat×BitVec 64) (λf0 w0 ⟨k,m⟩ f w=>f 3=.int .u64 ((m).toNat:Int)∧f 11=.int .i64 ((k:Int))∧f 2=f0 2∧f 9=f0 9∧f 10=f0 10∧Le w0 w∧k<=l.length∧m=(l.take k).foldl Dg.step Dg.off) (λ⟨k,m⟩=>l.length-k) (0,Dg.off) ?_ ?_)))
 ·
  refine ⟨rfl,rfl,rfl,rfl,rfl,Le.refl _,?_⟩;exact ⟨Nat.zero_le _,rfl⟩
 rintro ⟨k,m⟩ f_1 w2 ⟨s3_1,s11_1,s2_1,s9_1,s10_1,e_1,⟨hk,hm⟩⟩;have z_1:=e_1.size;refine C.sr λK6=>O.lssI s11_1 s10_1 (K6 (C.sq λK7=>C.condD rfl (λc12=>?_) (λc12=>?_)))
 ·
  refine C.skip (K7 (C.sq λK8=>C.bl λK9=>C.sr λK10=>O.idx U63 Z5 rfl s9_1 (hs9.L e_1) s11_1 (by omega) (λa13 h13=>O.loadB isAgg5 rfl h13 (O.j (K10 (C.region (O.mv (O.mv (O.convUU (m:=8) (m':=64) U5 U26 rfl rfl rfl (O.xorU (m:=64) rfl rfl s3_1 rfl (O.idxA (i:=1) underlying78 Z26 rfl rfl (by omega) (O.loadR isAgg26 rfl rfl ((hg.L e1).L e_1) (by decide) (λv20 h20=>?_)))))))))))));obtain rfl:=u64E.inv h20;refine O.mulU (m:=64) rfl rfl rfl rfl (O.j (O.o (K9 (K8 (C.region (O.ad s11_1 rfl (O.mv (O.o (⟨(k+1,_),⟨rfl,rfl,s2_1,s9_1,s10_1,e_1,?_⟩,by first|omega|(simp only[];omega)⟩)))))))));refine ⟨by omega,?_⟩;rw[Dg.hash_take _ (by omega),<-hm]
  rfl
 refine C.exit (K5 (K3 (C.sr λK11=>O.mv (O.j (K11 (C.ret (Outs.one rfl s3_1 (⟨?_,(Ext.T e1 e_1)⟩))))))));obtain rfl:k=l.length:=by omega
 rw[hm,List.take_length];rfl
theorem bucket_spec (l:List UInt8)(w:World)(hlm:l.length<=maxLen)(hg:Row u64E w (λk=>k=0) 0 0 [Dg.off,Dg.prime]):
 Ret prog 10 #[str (l)] w (λv w'=>v=.int .i64 (Dg.bucket l:Int)∧Le w w'):=by
 refine enT [str (l)] 7 func10 rfl rfl (C.sr λK1=>O.j (K1 (C.sr λK2=>O.mv (O.call call11 (args1 rfl) (hash_spec l _ hlm hg) ?_))));rintro v_4 w1 ⟨rfl,e1⟩;have z1:=e1.size;refine O.remU (m:=64) (b:=16#64) rfl rfl rfl rfl (by decide) (O.convU64I U26 U3 rfl (O.j (K2 (C.ret (Outs.one rfl rfl ?_)))));exact ⟨by rw[<-Dg.bucket_int];rfl,e1⟩
end Go.Proofs.YtlgjaminfabchaaGreatDoor
end
section
namespace Go.Proofs.YtlgjaminfabchaaGreatDoor
open Go.Pn Go.RowKit _root_.Go.Proofs.Tryz
theorem inf119:∃ie,prog.info? 119=some ie∧ie.size=2∧ie.bytes=16∧ie.zero=some (.agg #[.int .i64 0,.int .i64 0]):=by
 have h:(prog.info? 119).isSome=true:=by kernel_rfl
 exact ⟨(prog.info? 119).get h,(Option.some_get h).symm,by kernel_rfl,by kernel_rfl,by kernel_rfl⟩
theorem inf3:∃ie,prog.info? 3=some ie∧ie.size=1∧ie.bytes=8∧ie.zero=some (.int .i64 0):=by
 have h:(prog.info? 3).isSome=true:=by kernel_rfl
 exact ⟨(prog.info? 3).get h,(Option.some_get h).symm,by kernel_rfl,by kernel_rfl,by kernel_rfl⟩
theorem valid_spec (d:Dt.Dot)(w:World):
 Ret prog 118 #[Dt.dv (d)] w (λv w'=>v=.bool (decide (Dt.Valid d))∧Le w w'):=by
 refine enT [Dt.dv (d)] 21 func118 rfl rfl (C.sr λK1=>O.box (v:=Dt.dv (d)) rfl (λb1 w1 hb1 hz1 e1=>?_));have z1:=e1.size;have h1:=hz1.own;have hl1:=h1.lt;refine O.j (K1 (C.sr λK2=>O.fa U119 rfl Z3 rfl (O.loadO isAgg3 rfl h1 rfl (O.geqI rfl rfl (O.mv (O.cut 4 (λf f'=>f' 10=.bool (decide (1<=d.1∧d.1<=65535))∧f' 1=f 1) ?_ ?_))))))
 ·
  refine O.splitD (x:=.tmp 6) rfl (λc6=>?_) (λc6=>?_)
  ·
   refine O.yes rfl (isT rfl c6) (O.fa U119 rfl Z3 rfl (O.yes rfl (isT rfl c6) (O.loadO isAgg3 rfl h1 rfl (O.yes rfl (isT rfl c6) (O.leqI rfl rfl (O.pickT (isT rfl c6) (O.o (⟨⟨?_,rfl⟩,rfl⟩))))))));exact dJ rfl
  refine O.no rfl (noB (isF rfl c6) rfl) (O.no rfl (noB (isF rfl c6) rfl) (O.no rfl (noB (isF rfl c6) rfl) (O.pickF (isF rfl c6) (O.o (⟨⟨?_,rfl⟩,rfl⟩)))));exact dJ rfl
 rintro f_1 ⟨s10_1,s1_1⟩;refine O.mv (O.cut 4 (λf f'=>f' 15=.bool (decide ((1<=d.1∧d.1<=65535)∧1<=d.2))∧f' 1=f 1) ?_ ?_)
 ·
  refine O.splitD (x:=.tmp 11) s10_1 (λc11=>?_) (λc11=>?_)
  ·
   refine O.yes rfl (isT s10_1 c11) (O.fa U119 rfl Z3 s1_1 (O.yes rfl (isT s10_1 c11) (O.loadO isAgg3 rfl h1 rfl (O.yes rfl (isT s10_1 c11) (O.geqI rfl rfl (O.pickT (isT s10_1 c11) (O.o (⟨⟨?_,rfl⟩,rfl⟩))))))));exact dJ rfl
  refine O.no rfl (noB (isF s10_1 c11) rfl) (O.no rfl (noB (isF s10_1 c11) rfl) (O.no rfl (noB (isF s10_1 c11) rfl) (O.pickF (isF s10_1 c11) (O.o (⟨⟨?_,rfl⟩,rfl⟩)))));exact dJ rfl
 rintro f_2 ⟨s15_2,s1_2⟩;refine O.mv (O.cut 4 (λf f'=>f' 20=.bool (decide (((1<=d.1∧d.1<=65535)∧1<=d.2)∧d.2<=4294967295))) ?_ ?_)
 ·
  refine O.splitD (x:=.tmp 16) s15_2 (λc16=>?_) (λc16=>?_)
  ·
   refine O.yes rfl (isT s15_2 c16) (O.fa U119 rfl Z3 (Eq.trans s1_2 s1_1) (O.yes rfl (isT s15_2 c16) (O.loadO isAgg3 rfl h1 rfl (O.yes rfl (isT s15_2 c16) (O.leqI rfl rfl (O.pickT (isT s15_2 c16) (O.o (⟨?_,rfl⟩))))))));exact dJ rfl
  refine O.no rfl (noB (isF s15_2 c16) rfl) (O.no rfl (noB (isF s15_2 c16) rfl) (O.no rfl (noB (isF s15_2 c16) rfl) (O.pickF (isF s15_2 c16) (O.o (⟨?_,rfl⟩)))));exact dJ rfl
 intro f_3 s20_3;refine O.j (K2 (C.ret (Outs.one rfl s20_3 ?_)));exact ⟨cB (decide_eq_decide.2 (by unfold Dt.Valid;omega)),e1⟩
theorem isNaN_spec (x:Int)(w:World):
 Ret prog 185 #[.int .i64 (x)] w (λv w'=>v=.bool false∧w'=w):=by
 refine enT [.int .i64 (x)] 6 func185 rfl rfl (C.sr λK1=>O.j (K1 (C.sr λK2=>O.mv (O.mv (O.neqI rfl rfl (O.cast (v':=.bool false) (cB (by exact dF (λh=>h rfl))) (O.j (K2 (C.ret (Outs.one rfl rfl ?_))))))))));exact ⟨rfl,rfl⟩
theorem icmp_spec (a b:Int)(w:World):
 Ret prog 151 #[.int .i64 (a),.int .i64 (b)] w (λv w'=>v=.int .i64 (Dt.icmp a b)∧w'=w):=by
 refine enT [.int .i64 (a),.int .i64 (b)] 20 func151 rfl rfl (C.sr λK1=>O.j (K1 (C.sr λK2=>O.mv (O.call call185 (args1 rfl) (isNaN_spec _ _) ?_))));rintro v_8 w1 ⟨rfl,hw_⟩;replace hw_:=hw_.symm;subst hw_;refine O.j (K2 (C.sr λK3=>O.mv (O.call call185 (args1 rfl) (isNaN_spec _ _) ?_)));rintro v_10 w1 ⟨rfl,hw_⟩;replace hw_:=hw_.symm;subst hw_;refine O.j (K3 (C.sq λK4=>C.sr λK5=>O.mv (K5 (C.condF rfl (C.skip (K4 (C.sq λK6=>C.sr λK7=>O.mv (K7 (C.condF rfl (C.skip (K6 (C.sq λK8=>C.sr λK9=>O.mv (O.mv (O.lssI rfl rfl (K9 (C.condD rfl (λc16=>?_) (λc16=>?_)))))))))))))))))
 ·
  refine C.sr λK10=>O.j (K10 (C.ret (Outs.one rfl rfl ?_)))
  unfold Dt.icmp
  first
  |(rw[if_pos (by assumption)];exact ⟨rfl,rfl⟩)
  |(rw[if_neg (by assumption),if_pos (by assumption)];exact ⟨rfl,rfl⟩)
  |(rw[if_neg (by assumption),if_neg (by assumption)];exact ⟨rfl,rfl⟩)
 refine C.skip (K8 (C.sq λK11=>C.sr λK12=>O.mv (O.mv (O.gtrI rfl rfl (K12 (C.condD rfl (λc19=>?_) (λc19=>?_)))))))
 ·
  refine C.sr λK13=>O.j (K13 (C.ret (Outs.one rfl rfl ?_)))
  unfold Dt.icmp
  first
  |(rw[if_pos (by assumption)];exact ⟨rfl,rfl⟩)
  |(rw[if_neg (by assumption),if_pos (by assumption)];exact ⟨rfl,rfl⟩)
  |(rw[if_neg (by assumption),if_neg (by assumption)];exact ⟨rfl,rfl⟩)
 refine C.skip (K11 (C.sr λK14=>O.j (K14 (C.ret (Outs.one rfl rfl ?_)))));unfold Dt.icmp
 first
 |(rw[if_pos (by assumption)];exact ⟨rfl,rfl⟩)
 |(rw[if_neg (by assumption),if_pos (by assumption)];exact ⟨rfl,rfl⟩)
 |(rw[if_neg (by assumption),if_neg (by assumption)];exact ⟨rfl,rfl⟩)
theorem cor_spec (v0:Value)(a b:Int)(F:Nat->Prop)(w:World)(hl:Sl Dt.intE w F v0 [a,b]):
 Ret prog 150 #[v0] w (λv w'=>v=.int .i64 (if a≠0 then a else b)∧w'=w):=by
 refine enT [v0] 18 func150 rfl rfl (C.sr λK1=>O.j (K1 (C.sr λK2=>O.j (K2 (C.sq λK3=>C.sr λK4=>O.mv (O.len U44 rfl hl (O.mv (K4 (C.bl λK5=>C.loop0 (σ:=Nat) (λf0 w0 k f w=>f 8=.int .i64 (k)∧f 3=f0 3∧f 6=f0 6∧f 7=f0 7∧w=w0∧k<=2∧∀i,(h:i<2)->i<k->[a,b][i]=0) (λk=>2-k) 0 ?_ ?_)))))))))
 ·
  refine ⟨rfl,rfl,rfl,rfl,rfl,?_⟩;exact ⟨by omega,λi _ h=>absurd h (by omega)⟩
 rintro k f_1 wx ⟨s8_1,s3_1,s6_1,s7_1,rfl,⟨hk,hI⟩⟩;refine C.sr λK6=>O.lssI s8_1 s7_1 (K6 (C.sq λK7=>C.condD rfl (λc9=>?_) (λc9=>?_)))
 ·
  have hk2:k<2:=by simp at c9;omega
  refine C.skip (K7 (C.sq λK8=>C.bl λK9=>C.sr λK10=>O.idx U44 Z3 rfl s6_1 hl s8_1 (by omega) (λa10 h10=>O.load1F (G:=Dt.intF) isAgg3 rfl rfl rfl h10 ?_)));obtain ⟨u,hu⟩:∃u:Int,u=[a,b][k]:=⟨_,rfl⟩
  refine O.cast (v':=.int .i64 u) (by rw[hu];rfl) (O.j (K10 (C.sr λK11=>O.mv (O.mv (O.neqI rfl s3_1 (K11 (C.condD rfl (λc14=>?_) (λc14=>?_))))))))
  ·
   refine C.sr λK12=>O.mv (O.j (K12 (C.ret (Outs.one rfl rfl ?_))))
   first
   |(refine ⟨congrArg (Value.int .i64) ?_,rfl⟩
     have h01:k=0∨k=1:=by omega
     rcases h01 with rfl|rfl
     ·have e0:u=a:=hu
      rw[<-e0,if_pos c14]
     ·have e0:a=0:=hI 0 (by omega) (by omega)
      have e1:u=b:=hu;rw[if_neg (λh=>h e0),e1])
   |(have hk2:k=2:=by simp at c9;omega
     have e0:a=0:=hI 0 (by omega) (by omega);have e1:b=0:=hI 1 (by omega) (by omega);refine ⟨congrArg (Value.int .i64) ?_,rfl⟩;rw[if_neg (λh=>h e0),e1])
  refine C.skip (K9 (K8 (C.region (O.ad s8_1 rfl (O.mv (O.o (⟨k+1,⟨rfl,s3_1,s6_1,s7_1,rfl,?_⟩,by first|omega|(simp only[];omega)⟩)))))));refine ⟨by omega,λi hi2 hik=>?_⟩;rcases Nat.lt_or_eq_of_le (Nat.le_of_lt_succ hik) with h|rfl
  ·exact hI i hi2 h
  ·rw [<-hu];exact Decidable.of_not_not c14
 refine C.exit (K5 (K3 (C.sr λK13=>O.mv (O.j (K13 (C.ret (Outs.one rfl s3_1 ?_)))))))
 first
 |(refine ⟨congrArg (Value.int .i64) ?_,rfl⟩
   have h01:k=0∨k=1:=by omega
   rcases h01 with rfl|rfl
   ·have e0:u=a:=hu
    rw[<-e0,if_pos c14]
   ·have e0:a=0:=hI 0 (by omega) (by omega)
    have e1:u=b:=hu;rw[if_neg (λh=>h e0),e1])
 |(have hk2:k=2:=by simp at c9;omega
   have e0:a=0:=hI 0 (by omega) (by omega);have e1:b=0:=hI 1 (by omega) (by omega);refine ⟨congrArg (Value.int .i64) ?_,rfl⟩;rw[if_neg (λh=>h e0),e1])
theorem cmp_spec (a b:Dt.Dot)(w:World):
 Ret prog 94 #[Dt.dv (a),Dt.dv (b)] w (λv w'=>v=.int .i64 (Dt.cmp a b)∧Le w w'∧w.drawn<=w'.drawn):=by
 obtain ⟨ie3,ti3,ts3,tb3,tz3⟩:=inf3;refine enT [Dt.dv (a),Dt.dv (b)] 17 func94 rfl rfl (C.sr λK1=>O.boxD (v:=Dt.dv (a)) rfl (λb2 w1 hb2 hz2 e1 d1=>?_));have z1:=e1.size;have h2:=hz2.own;have hl2:=h2.lt;refine O.boxD (v:=Dt.dv (b)) rfl (λb3 w2 hb3 hz3 e2 d2=>?_);have z2:=e2.size;have h3:=hz3.own;have hl3:=h3.lt;refine O.j (K1 (C.sq λK2=>C.drawD (by kernel_rfl) λw3 e3 d3=>?_));have z3:=e3.size;refine D.t 0 rfl leR (λ_ _ _ hN=>O.fa U119 rfl Z3 rfl (O.o hN)) (D.t 1 rfl leR (λ_ hw_ _ hN=>O.loadO isAgg3 rfl (((h2.L e2).L e3).L hw_) rfl (O.o hN)) (D.t 2 rfl leR (λ_ _ _ hN=>O.fa U119 rfl Z3 rfl (O.o hN)) (D.t 3 rfl leR (λ_ hw_ _ hN=>O.loadO isAgg3 rfl ((h3.L e3).L hw_) rfl (O.o hN)) (D.t 5 rfl leR (λ_ _ _ hN=>O.fa U119 rfl Z3 rfl (O.o hN)) (D.t 6 rfl leR (λ_ hw_ _ hN=>O.loadO isAgg3 rfl (((h2.L e2).L e3).L hw_) rfl (O.o hN)) ?_)))));refine D.t 7 rfl leR (λ_ _ _ hN=>O.fa U119 rfl Z3 rfl (O.o hN)) (D.t 8 rfl leR (λ_ hw_ _ hN=>O.loadO isAgg3 rfl ((h3.L e3).L hw_) rfl (O.o hN)) (D.on 4 rfl rfl (O.call call151 (args2 rfl rfl) (icmp_spec _ _ _) ?_)));rintro v_9 w4 ⟨rfl,hw_⟩;replace hw_:=hw_.symm;subst hw_;refine O.o ⟨leR,D.on 9 rfl rfl (O.call call151 (args2 rfl rfl) (icmp_spec _ _ _) ?_)⟩;rintro v_14 w4 ⟨rfl,hw_⟩;replace hw_:=hw_.symm;subst hw_;refine O.o ⟨leR,D.on 10 rfl rfl (O.litnD [.int .i64 (Dt.icmp a.2 b.2),.int .i64 (Dt.icmp a.1 b.1)] U44 ti3 ts3 tz3 rfl (by decide) (by decide) rfl (by simp[Value.oneCell']) (λb15 w4 hb15 hz15 e4 d4=>?_))⟩;have z4:=e4.size;have h15:=hz15.own;have hl15:=h15.lt;refine O.o ⟨e4,?_⟩;have h1015:Sl Dt.intF.enc w4 (λk=>k=b15) (.slice (some ⟨b15,0,none⟩) 2 2) [Dt.icmp a.2 b.2,Dt.icmp a.1 b.1]:=Sl.of_own (G:=Dt.intF) h15 rfl (Nat.le_refl _) (by unfold maxLen;omega) (by simp[Dt.intF]);refine D.on 11 rfl rfl (O.call call150 (args1 rfl) (cor_spec _ _ _ _ _ h1015) ?_);rintro v_16 w5 ⟨rfl,hw_⟩;replace hw_:=hw_.symm;subst hw_;refine O.o ⟨e4,D.as 12 rfl e4 (D.dn (K2 (C.ret (Outs.one rfl rfl ?_))))⟩;exact ⟨cI (Dt.cmp_or a b).symm,(Ext.T (Ext.T (Ext.T e1 e2) e3) e4),by omega⟩
end Go.Proofs.YtlgjaminfabchaaGreatDoor
end
section
namespace Go.Proofs.YtlgjaminfabchaaGreatDoor
open Go.Pn Go.RowKit _root_.Go.Proofs.Tryz
theorem isSet_spec (v0:Value)(l:List Dt.Dot)(F:Nat->Prop)(w:World)(hl:Sl Dt.dotF.enc w F v0 l):
 Ret prog 107 #[v0] w (λv w'=>v=.bool (Dt.isSet l)∧Le w w'):=by
 have hle:=hl.le;refine enT [v0] 21 func107 rfl rfl (C.sr λK1=>O.j (K1 (C.sq λK2=>C.sr λK3=>O.j (K3 (C.bl λK4=>C.loop0 (σ:=Nat) (λf0 w0 k f wz=>f 3=.int .i64 ((k:Int)+1)∧f 0=f0 0∧Le w wz∧∀i,∀h:i+1<l.length,i<k->Dt.Less l[i] l[i+1]) (λk=>l.length-k) 0 ?_ ?_)))))
 ·
  refine ⟨(Eq.trans rfl (i64_eq (by omega))),rfl,leR,?_⟩;exact λi h k=>absurd k (Nat.not_lt_zero _)
 rintro k f_1 w1 ⟨s3_1,s0_1,e_1,hI⟩;have z_1:=e_1.size;refine C.sq λK5=>C.sr λK6=>O.mv (O.mv (O.len U48 s0_1 (hl.L e_1) (O.lssI s3_1 rfl (K6 (C.condD rfl (λc7=>?_) (λc7=>?_))))))
 ·
  have hk2:k+1<l.length:=by omega
  have x0:((k:Int)+1-1).toNat=k:=by omega
  have x1:((k:Int)+1).toNat=k+1:=by omega
  refine C.skip (K5 (C.sq λK7=>C.bl λK8=>C.sd λK9 w2 e2 z2=>D.mv 0 rfl leR (D.mv 1 rfl leR (D.t 2 rfl leR (λ_ _ _ hN=>O.sb s3_1 rfl (O.o hN)) ?_))));obtain ⟨a13,h13,hr13⟩:=Sl.at (i:=(k:Int)+1-1) (P:=prog) U48 Z119 rfl ((hl.L e_1).L e2) (by omega);refine D.t 3 rfl leR (λ_ _ _ hN=>O.idxR s0_1 rfl hr13 (O.o hN)) (D.t 4 rfl leR (λ_ hw_ _ hN=>O.loadG (G:=Dt.dotF) isAgg119 Z119 rfl (h13.L hw_) (O.o hN)) (D.mv 5 rfl leR (D.mv 6 rfl leR ?_)));obtain ⟨a17,h17,hr17⟩:=Sl.at (i:=(k:Int)+1) (P:=prog) U48 Z119 rfl ((hl.L e_1).L e2) (by omega);refine D.t 7 rfl leR (λ_ _ _ hN=>O.idxR s0_1 s3_1 hr17 (O.o hN)) (D.t 8 rfl leR (λ_ hw_ _ hN=>O.loadG (G:=Dt.dotF) isAgg119 Z119 rfl (h17.L hw_) (O.o hN)) (D.on 9 rfl rfl (O.call call94 (args2 rfl rfl) (cmp_spec _ _ _) ?_)));rintro v_19 w3 ⟨rfl,e3,_⟩;have z3:=e3.size;refine O.o ⟨e3,D.t 10 rfl e3 (λ_ _ _ hN=>O.geqI rfl rfl (O.o hN)) (K9 (C.condD rfl (λc20=>?_) (λc20=>?_)))⟩
  ·
   simp only[x0,x1,Dt.cmp_ge] at c20;refine C.sr λK10=>O.j (K10 (C.ret (Outs.one rfl rfl ?_)))
   first
   |exact ⟨cB (Dt.isSet_no hk2 (by omega) rfl c20).symm,(Ext.T (Ext.T e_1 e2) e3)⟩
   |exact ⟨cB (Dt.isSet_yes (λi hi=>hI i hi (by omega))).symm,(Ext.T (Ext.T e_1 e2) e3)⟩
  simp only[x0,x1,Dt.cmp_ge,Decidable.not_not] at c20;refine C.skip (K8 (K7 (C.region (O.mv (O.ad s3_1 rfl (O.j (O.o (⟨k+1,⟨(Eq.trans rfl (i64_eq (by omega))),s0_1,(Ext.T (Ext.T e_1 e2) e3),?_⟩,by first|omega|(simp only[];omega)⟩))))))));intro i hi hik;rcases Nat.lt_or_eq_of_le (Nat.le_of_lt_succ hik) with h|rfl
  ·exact hI i hi h
  ·exact c20
 refine C.exit (K4 (K2 (C.sr λK11=>O.j (K11 (C.ret (Outs.one rfl rfl ?_))))))
 first
 |exact ⟨cB (Dt.isSet_no hk2 (by omega) rfl c20).symm,e_1⟩
 |exact ⟨cB (Dt.isSet_yes (λi hi=>hI i hi (by omega))).symm,e_1⟩
theorem index_spec (v0:Value)(l:List Dt.Dot)(F:Nat->Prop)(d:Dt.Dot)(w:World)(hl:Sl Dt.dotF.enc w F v0 l):
 Ret prog 203 #[v0,Dt.dv (d)] w (λv w'=>(∃r:Int,v=.int .i64 r∧(r≥0↔d∈l))∧Le w w'):=by
 have hle:=hl.le;refine enT [v0,Dt.dv (d)] 19 func203 rfl rfl (C.sr λK1=>O.box (v:=Dt.dv (d)) rfl (λb3 w1 hb3 hz3 e1=>?_));have z1:=e1.size;have h3:=hz3.own;have hl3:=h3.lt;refine O.j (K1 (C.sq λK2=>C.sr λK3=>O.mv (O.len U48 rfl (hl.L e1) (O.mv (K3 (C.bl λK4=>C.loop0 (σ:=Nat) (λf0 w0 k f wz=>f 8=.int .i64 (k)∧f 0=f0 0∧f 3=f0 3∧f 7=f0 7∧Le w wz∧Own wz b3 119 (Dt.dv d).cells.toList∧k<=l.length∧∀i,∀h:i<l.length,i<k->l[i]≠d) (λk=>l.length-k) 0 ?_ ?_))))))
 ·
  refine ⟨rfl,rfl,rfl,rfl,e1,h3,?_⟩;exact ⟨Nat.zero_le _,λi h k=>absurd k (Nat.not_lt_zero _)⟩
 rintro k f_1 w2 ⟨s8_1,s0_1,s3_1,s7_1,e_1,r0_1,⟨hk,hI⟩⟩;have z_1:=e_1.size;refine C.sr λK5=>O.lssI s8_1 s7_1 (K5 (C.sq λK6=>C.condD rfl (λc9=>?_) (λc9=>?_)))
 ·
  refine C.skip (K6 (C.sq λK7=>C.bl λK8=>C.sr λK9=>O.mv (O.j (K9 (C.sd λK10 w3 e3 z3=>D.t 0 rfl leR (λ_ hw_ _ hN=>O.loadOA isAgg119 Z119 s3_1 ((r0_1.L e3).L hw_) (leB rfl) (O.o hN)) (D.mv 1 rfl leR (D.mv 2 rfl leR ?_)))))));obtain ⟨a14,h14,hr14⟩:=Sl.at (i:=(k:Int)) (P:=prog) U48 Z119 rfl ((hl.L e_1).L e3) (by omega);refine D.t 3 rfl leR (λ_ _ _ hN=>O.idxR s0_1 s8_1 hr14 (O.o hN)) (D.t 4 rfl leR (λ_ hw_ _ hN=>O.loadG (G:=Dt.dotF) isAgg119 Z119 rfl (h14.L hw_) (O.o hN)) (D.t 5 rfl leR (λ_ _ _ hN=>O.eqlP U119 (by decide) (by decide) rfl rfl U3 U3 isAgg3 isAgg3 (by kernel_rfl) (by kernel_rfl) rfl rfl (O.o hN)) (K10 (C.condD rfl (λc16=>?_) (λc16=>?_)))))
  ·
   refine C.sr λK11=>O.mv (O.j (K11 (C.ret (Outs.one rfl s8_1 ?_))))
   first
   |exact ⟨⟨_,rfl,⟨λ_=>by rw[c16];exact List.getElem_mem _,λ_=>by omega⟩⟩,(Ext.T e_1 e3)⟩
   |exact ⟨⟨-1,rfl,⟨λh=>absurd h (by omega),λh=>absurd h (Dt.not_mem λi hi=>hI i hi (by omega))⟩⟩,(Ext.T e_1 e3)⟩
  refine C.skip (K8 (K7 (C.region (O.ad s8_1 rfl (O.mv (O.o (⟨k+1,⟨rfl,s0_1,s3_1,s7_1,(Ext.T e_1 e3),(r0_1.L e3),?_⟩,by first|omega|(simp only[];omega)⟩)))))));refine ⟨by omega,λi hi hik=>?_⟩;rcases Nat.lt_or_eq_of_le (Nat.le_of_lt_succ hik) with h|rfl
  ·exact hI i hi h
  ·exact λh=>c16 h.symm
 refine C.exit (K4 (K2 (C.sr λK12=>O.j (K12 (C.ret (Outs.one rfl rfl ?_))))))
 first
 |exact ⟨⟨_,rfl,⟨λ_=>by rw[c16];exact List.getElem_mem _,λ_=>by omega⟩⟩,e_1⟩
 |exact ⟨⟨-1,rfl,⟨λh=>absurd h (by omega),λh=>absurd h (Dt.not_mem λi hi=>hI i hi (by omega))⟩⟩,e_1⟩
theorem contains_spec (v0:Value)(l:List Dt.Dot)(F:Nat->Prop)(d:Dt.Dot)(w:World)(hl:Sl Dt.dotF.enc w F v0 l):
 Ret prog 161 #[v0,Dt.dv (d)] w (λv w'=>v=.bool (decide (d∈l))∧Le w w'):=by
 refine enT [v0,Dt.dv (d)] 9 func161 rfl rfl (C.sr λK1=>O.box (v:=Dt.dv (d)) rfl (λb3 w1 hb3 hz3 e1=>?_));have z1:=e1.size;have h3:=hz3.own;have hl3:=h3.lt;refine O.j (K1 (C.sr λK2=>O.mv (O.loadOA isAgg119 Z119 rfl h3 (leB rfl) (O.call call203 (args2 rfl rfl) (index_spec _ _ _ d _ (hl.L e1)) ?_))));rintro v_7 w2 ⟨⟨rv7,rfl,hrv7⟩,e2⟩;have z2:=e2.size;refine O.geqI rfl rfl (O.j (K2 (C.ret (Outs.one rfl rfl ?_))));exact ⟨cB (decide_eq_decide.2 hrv7),(Ext.T e1 e2)⟩
theorem has_spec (v0:Value)(l:List Dt.Dot)(F:Nat->Prop)(d:Dt.Dot)(w:World)(hl:Sl Dt.dotF.enc w F v0 l):
 Ret prog 119 #[v0,Dt.dv (d)] w (λv w'=>v=.bool (decide (d∈l))∧Le w w'):=by
 refine enT [v0,Dt.dv (d)] 8 func119 rfl rfl (C.sr λK1=>O.box (v:=Dt.dv (d)) rfl (λb3 w1 hb3 hz3 e1=>?_));have z1:=e1.size;have h3:=hz3.own;have hl3:=h3.lt;refine O.j (K1 (C.sr λK2=>O.mv (O.loadOA isAgg119 Z119 rfl h3 (leB rfl) (O.call call161 (args2 rfl rfl) (contains_spec _ _ _ d _ (hl.L e1)) ?_))));rintro v_7 w2 ⟨rfl,e2⟩;have z2:=e2.size;refine O.j (K2 (C.ret (Outs.one rfl rfl ?_)));exact ⟨rfl,(Ext.T e1 e2)⟩
theorem clone_spec (v0:Value)(l:List Dt.Dot)(F:Nat->Prop)(w:World)(hl:Sl Dt.dotF.enc w F v0 l)(hn:l.length<=1000000000000):
 Ret prog 64 #[v0] w (λv w'=>Le w w'∧OwnF Dt.dotF 119 w.heap.size w' v l):=by
 have hle:=hl.le;obtain ⟨ie119,ti119,ts119,tb119,tz119⟩:=inf119;refine enT [v0] 8 func64 rfl rfl (C.sr λK1=>O.j (K1 (C.sq λK2=>C.sr λK3=>O.mv (O.eqlNilS U48 rfl hl (K3 (C.cond rfl (λc4=>?_) (λc4=>?_)))))))
 ·
  refine C.sr λK4=>O.j (K4 (C.ret (Outs.one rfl rfl ?_)))
  first
  |(obtain rfl:=isNilS_nil hl c4
    exact ⟨leR,OwnF.nil _ _ _ _⟩)
  |exact ⟨leR,{app:7}⟩
 refine C.skip (K2 (C.sr λK5=>O.lit0 U48 ti119 (λb5 w1 hb5 hz5 e1=>?_)));have z1:=e1.size;have hl5:=hz5.own.lt;have h1005:OwnF Dt.dotF 119 w.heap.size w1 _ []:=OwnF.lit0 hz5 hb5;refine O.mv (O.appF (G:=Dt.dotF) U48 ti119 tz119 ts119 rfl rfl rfl h1005 (hl.L e1) (by rw[tb119];simp;omega) (by unfold maxLen;simp;omega) (by omega) (λv7 w2 h7 e2=>?_));have z2:=e2.size;have h7s:=h7.sl;refine O.j (K5 (C.ret (Outs.one rfl rfl ?_)))
 first
 |(obtain rfl:=isNilS_nil hl c4
   exact ⟨(Ext.new e1 e2 (by intro i hi h;have:=h1005.bk_ge i h;omega)),OwnF.nil _ _ _ _⟩)
 |exact ⟨(Ext.new e1 e2 (by intro i hi h;have:=h1005.bk_ge i h;omega)),h7⟩
end Go.Proofs.YtlgjaminfabchaaGreatDoor
end
section
namespace Go.Proofs.YtlgjaminfabchaaGreatDoor
open Go.Pn Go.RowKit _root_.Go.Proofs.Tryz
theorem vbad_spec (d:Dt.Dot)(w:World):
 Ret prog 155 #[Dt.dv (d)] w (λv w'=>v=.bool (Cn.badD d)∧Le w w'):=by
 refine enT [Dt.dv (d)] 6 func155 rfl rfl (C.sr λK1=>O.box (v:=Dt.dv (d)) rfl (λb1 w1 hb1 hz1 e1=>?_));have z1:=e1.size;have h1:=hz1.own;have hl1:=h1.lt;refine O.j (K1 (C.sr λK2=>O.loadOA isAgg119 Z119 rfl h1 (leB rfl) (O.call call118 (args1 rfl) (valid_spec d _) ?_)));rintro v_4 w2 ⟨rfl,e2⟩;have z2:=e2.size;refine O.not rfl (O.j (K2 (C.ret (Outs.one rfl rfl ?_))));exact ⟨rfl,(Ext.T e1 e2)⟩
theorem cbad_spec (d:Dt.Dot)(w:World):
 Ret prog 156 #[Dt.dv (d)] w (λv w'=>v=.bool (Cn.badD d)∧Le w w'):=by
 refine enT [Dt.dv (d)] 6 func156 rfl rfl (C.sr λK1=>O.box (v:=Dt.dv (d)) rfl (λb1 w1 hb1 hz1 e1=>?_));have z1:=e1.size;have h1:=hz1.own;have hl1:=h1.lt;refine O.j (K1 (C.sr λK2=>O.loadOA isAgg119 Z119 rfl h1 (leB rfl) (O.call call118 (args1 rfl) (valid_spec d _) ?_)));rintro v_4 w2 ⟨rfl,e2⟩;have z2:=e2.size;refine O.not rfl (O.j (K2 (C.ret (Outs.one rfl rfl ?_))));exact ⟨rfl,(Ext.T e1 e2)⟩
theorem pred_vbad (M:Nat->Prop)(w:World):Pred prog M w (.func (.func 155) #[] #[]) Dt.dv Cn.badD:=⟨155,[],rfl,call155,λd w' _=>vbad_spec d w'⟩
theorem pred_cbad (M:Nat->Prop)(w:World):Pred prog M w (.func (.func 156) #[] #[]) Dt.dv Cn.badD:=⟨156,[],rfl,call156,λd w' _=>cbad_spec d w'⟩
theorem indexV_spec (v0 vf:Value)(l:List Dt.Dot)(F M:Nat->Prop)(p:Dt.Dot->Bool)(w:World)(hl:Sl Dt.dotF.enc w F v0 l)(hp:Pred prog M w vf Dt.dv p):
 Ret prog 104 #[v0,vf] w (λv w'=>v=.int .i64 (Cn.idx p l)∧Le w w'):=by
 have hle:=hl.le;refine enT [v0,vf] 19 func104 rfl rfl (C.sr λK1=>O.j (K1 (C.sq λK2=>C.sr λK3=>O.mv (O.len U49 rfl hl (O.mv (K3 (C.bl λK4=>C.loop0 (σ:=Nat) (λf0 w0 k f wz=>f 8=.int .i64 (k)∧f 0=f0 0∧f 1=f0 1∧f 7=f0 7∧Le w wz∧k<=l.length∧∀i,∀h:i<l.length,i<k->p l[i]=false) (λk=>l.length-k) 0 ?_ ?_)))))))
 ·
  refine ⟨rfl,rfl,rfl,rfl,leR,?_⟩;exact ⟨Nat.zero_le _,λi h k=>absurd k (Nat.not_lt_zero _)⟩
 rintro k f_1 w1 ⟨s8_1,s0_1,s1_1,s7_1,e_1,⟨hk,hI⟩⟩;have z_1:=e_1.size;refine C.sr λK5=>O.lssI s8_1 s7_1 (K5 (C.sq λK6=>C.condD rfl (λc9=>?_) (λc9=>?_)))
 ·
  have hk2:k<l.length:=by omega
  refine C.skip (K6 (C.sq λK7=>C.bl λK8=>C.sr λK9=>O.mv (O.j (K9 (C.sr λK10=>O.mv (O.mv (O.mv (O.idx U49 Z119 rfl s0_1 (hl.L e_1) s8_1 (by omega) (λa14 h14=>O.loadG (G:=Dt.dotF) isAgg119 Z119 rfl h14 (O.callP (_) (hp.L e_1) s1_1 rfl (λw2 e2=>?_)))))))))));have z2:=e2.size;refine K10 (C.cond rfl (λc16=>?_) (λc16=>?_))
  ·
   simp only[Int.toNat_natCast] at c16;refine C.sr λK11=>O.mv (O.j (K11 (C.ret (Outs.one rfl s8_1 ?_))))
   first
   |exact ⟨cI (Cn.idx_yes hk2 c16 hI).symm,(Ext.T e_1 e2)⟩
   |exact ⟨cI (Cn.idx_no λi hi=>hI i hi (by omega)).symm,(Ext.T e_1 e2)⟩
  simp only[Int.toNat_natCast] at c16;refine C.skip (K8 (K7 (C.region (O.ad s8_1 rfl (O.mv (O.o (⟨k+1,⟨rfl,s0_1,s1_1,s7_1,(Ext.T e_1 e2),?_⟩,by first|omega|(simp only[];omega)⟩)))))));refine ⟨by omega,λi hi hik=>?_⟩;rcases Nat.lt_or_eq_of_le (Nat.le_of_lt_succ hik) with h|rfl
  ·exact hI i hi h
  ·exact c16
 refine C.exit (K4 (K2 (C.sr λK12=>O.j (K12 (C.ret (Outs.one rfl rfl ?_))))))
 first
 |exact ⟨cI (Cn.idx_yes hk2 c16 hI).symm,e_1⟩
 |exact ⟨cI (Cn.idx_no λi hi=>hI i hi (by omega)).symm,e_1⟩
theorem indexD_spec (v0 vf:Value)(l:List Dt.Dot)(F M:Nat->Prop)(p:Dt.Dot->Bool)(w:World)(hl:Sl Dt.dotF.enc w F v0 l)(hp:Pred prog M w vf Dt.dv p):
 Ret prog 109 #[v0,vf] w (λv w'=>v=.int .i64 (Cn.idx p l)∧Le w w'):=by
 have hle:=hl.le;refine enT [v0,vf] 19 func109 rfl rfl (C.sr λK1=>O.j (K1 (C.sq λK2=>C.sr λK3=>O.mv (O.len U48 rfl hl (O.mv (K3 (C.bl λK4=>C.loop0 (σ:=Nat) (λf0 w0 k f wz=>f 8=.int .i64 (k)∧f 0=f0 0∧f 1=f0 1∧f 7=f0 7∧Le w wz∧k<=l.length∧∀i,∀h:i<l.length,i<k->p l[i]=false) (λk=>l.length-k) 0 ?_ ?_)))))))
 ·
  refine ⟨rfl,rfl,rfl,rfl,leR,?_⟩;exact ⟨Nat.zero_le _,λi h k=>absurd k (Nat.not_lt_zero _)⟩
 rintro k f_1 w1 ⟨s8_1,s0_1,s1_1,s7_1,e_1,⟨hk,hI⟩⟩;have z_1:=e_1.size;refine C.sr λK5=>O.lssI s8_1 s7_1 (K5 (C.sq λK6=>C.condD rfl (λc9=>?_) (λc9=>?_)))
 ·
  have hk2:k<l.length:=by omega
  refine C.skip (K6 (C.sq λK7=>C.bl λK8=>C.sr λK9=>O.mv (O.j (K9 (C.sr λK10=>O.mv (O.mv (O.mv (O.idx U48 Z119 rfl s0_1 (hl.L e_1) s8_1 (by omega) (λa14 h14=>O.loadG (G:=Dt.dotF) isAgg119 Z119 rfl h14 (O.callP (_) (hp.L e_1) s1_1 rfl (λw2 e2=>?_)))))))))));have z2:=e2.size;refine K10 (C.cond rfl (λc16=>?_) (λc16=>?_))
  ·
   simp only[Int.toNat_natCast] at c16;refine C.sr λK11=>O.mv (O.j (K11 (C.ret (Outs.one rfl s8_1 ?_))))
   first
   |exact ⟨cI (Cn.idx_yes hk2 c16 hI).symm,(Ext.T e_1 e2)⟩
   |exact ⟨cI (Cn.idx_no λi hi=>hI i hi (by omega)).symm,(Ext.T e_1 e2)⟩
  simp only[Int.toNat_natCast] at c16;refine C.skip (K8 (K7 (C.region (O.ad s8_1 rfl (O.mv (O.o (⟨k+1,⟨rfl,s0_1,s1_1,s7_1,(Ext.T e_1 e2),?_⟩,by first|omega|(simp only[];omega)⟩)))))));refine ⟨by omega,λi hi hik=>?_⟩;rcases Nat.lt_or_eq_of_le (Nat.le_of_lt_succ hik) with h|rfl
  ·exact hI i hi h
  ·exact c16
 refine C.exit (K4 (K2 (C.sr λK12=>O.j (K12 (C.ret (Outs.one rfl rfl ?_))))))
 first
 |exact ⟨cI (Cn.idx_yes hk2 c16 hI).symm,e_1⟩
 |exact ⟨cI (Cn.idx_no λi hi=>hI i hi (by omega)).symm,e_1⟩
theorem containsV_spec (v0 vf:Value)(l:List Dt.Dot)(F M:Nat->Prop)(p:Dt.Dot->Bool)(w:World)(hl:Sl Dt.dotF.enc w F v0 l)(hp:Pred prog M w vf Dt.dv p):
 Ret prog 154 #[v0,vf] w (λv w'=>v=.bool (l.any p)∧Le w w'):=by
 refine enT [v0,vf] 9 func154 rfl rfl (C.sr λK1=>O.j (K1 (C.sr λK2=>O.mv (O.mv (O.call call104 (args2 rfl rfl) (indexV_spec _ _ _ _ _ _ _ hl hp) ?_)))));rintro v_7 w1 ⟨rfl,e1⟩;have z1:=e1.size;refine O.geqI rfl rfl (O.j (K2 (C.ret (Outs.one rfl rfl ?_))));exact ⟨cB (Cn.idx_any l),e1⟩
theorem containsD_spec (v0 vf:Value)(l:List Dt.Dot)(F M:Nat->Prop)(p:Dt.Dot->Bool)(w:World)(hl:Sl Dt.dotF.enc w F v0 l)(hp:Pred prog M w vf Dt.dv p):
 Ret prog 71 #[v0,vf] w (λv w'=>v=.bool (l.any p)∧Le w w'):=by
 refine enT [v0,vf] 9 func71 rfl rfl (C.sr λK1=>O.j (K1 (C.sr λK2=>O.mv (O.mv (O.call call109 (args2 rfl rfl) (indexD_spec _ _ _ _ _ _ _ hl hp) ?_)))));rintro v_7 w1 ⟨rfl,e1⟩;have z1:=e1.size;refine O.geqI rfl rfl (O.j (K2 (C.ret (Outs.one rfl rfl ?_))));exact ⟨cB (Cn.idx_any l),e1⟩
theorem vecValid_spec (v0:Value)(l:List Dt.Dot)(F:Nat->Prop)(w:World)(hl:Sl Dt.dotF.enc w F v0 l):
 Ret prog 106 #[v0] w (λv w'=>v=.bool (Cn.vecValid l)∧Le w w'):=by
 have hle:=hl.le;refine enT [v0] 25 func106 rfl rfl (C.sr λK1=>O.j (K1 (C.sq λK2=>C.sr λK3=>O.j (K3 (C.bl λK4=>C.loop0 (σ:=Nat) (λf0 w0 k f wz=>f 3=.int .i64 ((k:Int)+1)∧f 0=f0 0∧Le w wz∧∀i,∀h:i+1<l.length,i<k->decide (l[i].1<l[i+1].1)=true) (λk=>l.length-k) 0 ?_ ?_)))))
 ·
  refine ⟨(Eq.trans rfl (i64_eq (by omega))),rfl,leR,?_⟩;exact λi h k=>absurd k (Nat.not_lt_zero _)
 rintro k f_1 w1 ⟨s3_1,s0_1,e_1,hI⟩;have z_1:=e_1.size;refine C.sq λK5=>C.sr λK6=>O.mv (O.mv (O.len U49 s0_1 (hl.L e_1) (O.lssI s3_1 rfl (K6 (C.condD rfl (λc7=>?_) (λc7=>?_))))))
 ·
  have hk2:k+1<l.length:=by omega
  have x0:((k:Int)+1-1).toNat=k:=by omega
  have x1:((k:Int)+1).toNat=k+1:=by omega
  refine C.skip (K5 (C.sq λK7=>C.bl λK8=>C.sd λK9 w2 e2 z2=>D.mv 0 rfl leR (D.mv 1 rfl leR (D.t 2 rfl leR (λ_ _ _ hN=>O.sb s3_1 rfl (O.o hN)) ?_))));obtain ⟨a13,h13,hr13⟩:=Sl.at (i:=(k:Int)+1-1) (P:=prog) U49 Z119 rfl ((hl.L e_1).L e2) (by omega);refine D.t 3 rfl leR (λ_ _ _ hN=>O.idxR s0_1 rfl hr13 (O.o hN)) (D.t 4 rfl leR (λ_ _ _ hN=>O.ft U119 rfl Z3 rfl (O.o hN)) (D.t 5 rfl leR (λ_ hw_ _ hN=>O.loadAtF (G:=Dt.dotF) isAgg3 rfl rfl (h13.L hw_) (O.o hN)) (D.mv 6 rfl leR (D.mv 7 rfl leR ?_))));obtain ⟨a18,h18,hr18⟩:=Sl.at (i:=(k:Int)+1) (P:=prog) U49 Z119 rfl ((hl.L e_1).L e2) (by omega);refine D.t 8 rfl leR (λ_ _ _ hN=>O.idxR s0_1 s3_1 hr18 (O.o hN)) (D.t 9 rfl leR (λ_ _ _ hN=>O.ft U119 rfl Z3 rfl (O.o hN)) (D.t 10 rfl leR (λ_ hw_ _ hN=>O.loadAtF (G:=Dt.dotF) isAgg3 rfl rfl (h18.L hw_) (O.o hN)) (D.t 11 rfl leR (λ_ _ _ hN=>O.geqI rfl rfl (O.o hN)) (K9 (C.condD rfl (λc21=>?_) (λc21=>?_))))))
  ·
   simp only[x0,x1] at c21;refine C.sr λK10=>O.j (K10 (C.ret (Outs.one rfl rfl ?_)))
   first
   |(refine ⟨congrArg Value.bool ?_,(Ext.T e_1 e2)⟩
     have q:Cn.incr l=false:=Cn.adj_no hk2 (Nat.lt_of_succ_lt hk2) rfl (dF (by omega));unfold Cn.vecValid;rw[q]
     rfl)
   |(refine ⟨congrArg Value.bool ?_,(Ext.T e_1 e2)⟩
     have q:Cn.incr l=true:=Cn.adj_yes (λi hi=>hI i hi (by omega));unfold Cn.vecValid;rw[q]
     rfl)
  simp only[x0,x1] at c21;refine C.skip (K8 (K7 (C.region (O.mv (O.ad s3_1 rfl (O.j (O.o (⟨k+1,⟨(Eq.trans rfl (i64_eq (by omega))),s0_1,(Ext.T e_1 e2),?_⟩,by first|omega|(simp only[];omega)⟩))))))));intro i hi hik;rcases Nat.lt_or_eq_of_le (Nat.le_of_lt_succ hik) with h|rfl
  ·exact hI i hi h
  ·exact dT (by omega)
 refine C.exit (K4 (K2 (C.sr λK11=>O.mv (O.call call154 (args2 s0_1 rfl) (containsV_spec _ _ _ _ _ _ _ (hl.L e_1) (pred_vbad (λ_=>False) _)) ?_))));rintro v_23 w3 ⟨rfl,e3⟩;have z3:=e3.size;refine O.not rfl (O.j (K11 (C.ret (Outs.one rfl rfl ?_))))
 first
 |(refine ⟨congrArg Value.bool ?_,(Ext.T e_1 e3)⟩
   have q:Cn.incr l=false:=Cn.adj_no hk2 (Nat.lt_of_succ_lt hk2) rfl (dF (by omega));unfold Cn.vecValid;rw[q]
   rfl)
 |(refine ⟨congrArg Value.bool ?_,(Ext.T e_1 e3)⟩
   have q:Cn.incr l=true:=Cn.adj_yes (λi hi=>hI i hi (by omega));unfold Cn.vecValid;rw[q]
   rfl)
theorem get1_spec (d:Dt.Dot)(bc:Nat)(r:Int)(w:World)(ho:Own w bc 3 [.int .i64 r]):
 Ret prog 105 #[Dt.dv (d),.pointer (some ⟨bc,0,none⟩)] w (λv w'=>v=.bool (decide (d.1=r))∧Le w w'):=by
 refine enT [Dt.dv (d),.pointer (some ⟨bc,0,none⟩)] 8 func105 rfl rfl (C.sr λK1=>O.box (v:=Dt.dv (d)) rfl (λb2 w1 hb2 hz2 e1=>?_));have z1:=e1.size;have h2:=hz2.own;have hl2:=h2.lt;refine O.j (K1 (C.sr λK2=>O.fa U119 rfl Z3 rfl (O.loadO isAgg3 rfl h2 rfl (O.loadO isAgg3 rfl (ho.L e1) rfl (O.eqlI rfl rfl (O.j (K2 (C.ret (Outs.one rfl rfl ?_)))))))));exact ⟨rfl,e1⟩
theorem pred_get (bc:Nat)(r:Int)(M:Nat->Prop)(w:World)(ho:Own w bc 3 [.int .i64 r])(hM:¬M bc):Pred prog M w (.func (.func 105) #[] #[.pointer (some ⟨bc,0,none⟩)]) Dt.dv (λd=>decide (d.1=r)):=⟨105,[.pointer (some ⟨bc,0,none⟩)],rfl,call105,λd w' e=>get1_spec d bc r w' (ho.kM e hM)⟩
theorem get_spec (v0:Value)(l:List Dt.Dot)(F:Nat->Prop)(r:Int)(w:World)(hl:Sl Dt.dotF.enc w F v0 l):
 Ret prog 69 #[v0,.int .i64 (r)] w (λv w'=>v=.int .i64 (Cn.get l r)∧Le w w'):=by
 have hle:=hl.le;have hge:=Cn.idx_ge (p:=λd:Dt.Dot=>decide (d.1=r)) l;refine enT [v0,.int .i64 (r)] 16 func69 rfl rfl (C.sr λK1=>O.box (v:=.int .i64 (r)) rfl (λb3 w1 hb3 hz3 e1=>?_));have z1:=e1.size;have h3:=hz3.own;have hl3:=h3.lt;refine O.j (K1 (C.sr λK2=>O.mv (O.makeF (v1:=[]) rfl rfl (O.call call104 (args2 rfl rfl) (indexV_spec _ _ _ _ (λ_=>False) _ _ (hl.L e1) (pred_get b3 r _ _ h3 not_false)) ?_))));rintro v_8 w2 ⟨rfl,e2⟩;have z2:=e2.size;refine O.j (K2 (C.sq λK3=>C.sr λK4=>O.mv (O.lssI rfl rfl (K4 (C.condD rfl (λc10=>?_) (λc10=>?_))))))
 ·
  refine C.sr λK5=>O.j (K5 (C.ret (Outs.one rfl rfl ?_)))
  first
  |exact ⟨cI (Cn.get_no c10).symm,(Ext.T e1 e2)⟩
  |(obtain ⟨hk,q⟩:=Cn.get_yes2 c10
    exact ⟨cI q.symm,(Ext.T e1 e2)⟩)
 refine C.skip (K3 (C.sr λK6=>O.mv (O.mv (O.idx U49 Z119 rfl rfl ((hl.L e1).L e2) rfl ⟨by omega,by have:=Cn.idx_lt (p:=λd:Dt.Dot=>decide (d.1=r)) (l:=l) (by omega);omega⟩ (λa13 h13=>O.ft U119 rfl Z3 rfl (O.loadAtF (G:=Dt.dotF) isAgg3 rfl rfl h13 (O.j (K6 (C.ret (Outs.one rfl rfl ?_))))))))))
 first
 |exact ⟨cI (Cn.get_no c10).symm,(Ext.T e1 e2)⟩
 |(obtain ⟨hk,q⟩:=Cn.get_yes2 c10
   exact ⟨cI q.symm,(Ext.T e1 e2)⟩)
theorem cvalid_spec (v0:Value)(l:List Dt.Dot)(F:Nat->Prop)(w:World)(hl:Sl Dt.dotF.enc w F v0 l):
 Ret prog 108 #[v0] w (λv w'=>v=.bool (!l.any Cn.badD)∧Le w w'):=by
 refine enT [v0] 6 func108 rfl rfl (C.sr λK1=>O.j (K1 (C.sr λK2=>O.mv (O.call call71 (args2 rfl rfl) (containsD_spec _ _ _ _ _ _ _ hl (pred_cbad (λ_=>False) _)) ?_))));rintro v_4 w1 ⟨rfl,e1⟩;have z1:=e1.size;refine O.not rfl (O.j (K2 (C.ret (Outs.one rfl rfl ?_))));exact ⟨rfl,e1⟩
theorem ctxValid_spec (v1 v2:Value)(x:Cn.Ctx)(F:Nat->Prop)(w:World)(hv:Sl Dt.dotF.enc w F v1 x.1)(hc:Sl Dt.dotF.enc w F v2 x.2):
 Ret prog 70 #[.agg #[v1,v2]] w (λv w'=>v=.bool (Cn.ctxValid x)∧Le w w'):=by
 refine enT [.agg #[v1,v2]] 16 func70 rfl rfl (C.sr λK1=>O.box (v:=.agg #[v1,v2]) rfl (λb1 w1 hb1 hz1 e1=>?_));have z1:=e1.size;have h1:=hz1.own;have hl1:=h1.lt;refine O.j (K1 (C.sr λK2=>O.fa U51 rfl Z49 rfl (O.loadO isAgg49 rfl h1 rfl (O.call call106 (args1 rfl) (vecValid_spec _ _ _ _ (hv.L e1)) ?_))));rintro v_5 w2 ⟨rfl,e2⟩;have z2:=e2.size;refine O.mv (O.split (x:=.tmp 6) rfl (λc6=>?_) (λc6=>?_))
 ·
  refine O.yes rfl (isT' rfl c6) (O.fa U51 rfl Z48 rfl (O.yes rfl (isT' rfl c6) (O.loadO isAgg48 rfl (h1.L e2) rfl (O.yes rfl (isT' rfl c6) (O.call call107 (args1 rfl) (isSet_spec _ _ _ _ ((hc.L e1).L e2)) ?_)))));rintro v_9 w3 ⟨rfl,e3⟩;have z3:=e3.size;refine O.pickT (isT' rfl c6) (O.mv (O.split (x:=.tmp 11) rfl (λc11=>?_) (λc11=>?_)))
  ·
   refine O.yes rfl (isT' rfl c11) (O.fa U51 rfl Z48 rfl (O.yes rfl (isT' rfl c11) (O.loadO isAgg48 rfl ((h1.L e2).L e3) rfl (O.yes rfl (isT' rfl c11) (O.call call108 (args1 rfl) (cvalid_spec _ _ _ _ (((hc.L e1).L e2).L e3)) ?_)))));rintro v_14 w4 ⟨rfl,e4⟩;have z4:=e4.size;refine O.pickT (isT' rfl c11) (O.j (K2 (C.ret (Outs.one rfl rfl (⟨congrArg Value.bool ?_,(Ext.T (Ext.T (Ext.T e1 e2) e3) e4)⟩)))));unfold Cn.ctxValid
   first
   |(rw[c6];rfl)
   |(rw[c6,c11];rfl)
  refine O.no rfl (noB (isF' rfl c11) rfl) (O.no rfl (noB (isF' rfl c11) rfl) (O.no rfl (noB (isF' rfl c11) rfl) (O.pickF (isF' rfl c11) (O.j (K2 (C.ret (Outs.one rfl rfl (⟨congrArg Value.bool ?_,(Ext.T (Ext.T e1 e2) e3)⟩))))))));unfold Cn.ctxValid
  first
  |(rw[c6];rfl)
  |(rw[c6,c11];rfl)
 refine O.no rfl (noB (isF' rfl c6) rfl) (O.no rfl (noB (isF' rfl c6) rfl) (O.no rfl (noB (isF' rfl c6) rfl) (O.pickF (isF' rfl c6) (O.mv (O.no rfl (noB rfl rfl) (O.no rfl (noB rfl rfl) (O.no rfl (noB rfl rfl) (O.pickF rfl (O.j (K2 (C.ret (Outs.one rfl rfl (⟨congrArg Value.bool ?_,(Ext.T e1 e2)⟩)))))))))))));unfold Cn.ctxValid
 first
 |(rw[c6];rfl)
 |(rw[c6,c11];rfl)
theorem near_spec (d:Dt.Dot)(bc:Nat)(v1 v2:Value)(x:Cn.Ctx)(F:Nat->Prop)(w:World)(ho:Own w bc 51 [v1,v2])(hv:Sl Dt.dotF.enc w F v1 x.1)(hg:∀r,0<=Cn.get x.1 r∧Cn.get x.1 r<=4294967295):
 Ret prog 68 #[Dt.dv (d),.pointer (some ⟨bc,0,none⟩)] w (λv w'=>v=.bool (Cn.near x.1 d)∧Le w w'):=by
 refine enT [Dt.dv (d),.pointer (some ⟨bc,0,none⟩)] 13 func68 rfl rfl (C.sr λK1=>O.box (v:=Dt.dv (d)) rfl (λb2 w1 hb2 hz2 e1=>?_));have z1:=e1.size;have h2:=hz2.own;have hl2:=h2.lt;refine O.j (K1 (C.sd λK2 w2 e2 z2=>D.t 0 rfl leR (λ_ _ _ hN=>O.fa U119 rfl Z3 rfl (O.o hN)) (D.t 1 rfl leR (λ_ hw_ _ hN=>O.loadO isAgg3 rfl ((h2.L e2).L hw_) rfl (O.o hN)) (D.t 2 rfl leR (λ_ _ _ hN=>O.fa U51 rfl Z49 rfl (O.o hN)) (D.t 3 rfl leR (λ_ hw_ _ hN=>O.loadO isAgg49 rfl (((ho.L e1).L e2).L hw_) rfl (O.o hN)) (D.t 4 rfl leR (λ_ _ _ hN=>O.fa U119 rfl Z3 rfl (O.o hN)) (D.t 5 rfl leR (λ_ hw_ _ hN=>O.loadO isAgg3 rfl ((h2.L e2).L hw_) rfl (O.o hN)) (D.on 6 rfl rfl ?_))))))));refine O.call call69 (args2 rfl rfl) (get_spec _ x.1 _ d.1 _ ((hv.L e1).L e2)) ?_;rintro v_10 w3 ⟨rfl,e3⟩;have z3:=e3.size;refine O.o ⟨e3,?_⟩;have hgd:=hg d.1;refine D.t 7 rfl e3 (λ_ _ _ hN=>O.ad rfl rfl (O.o hN)) (D.t 8 rfl e3 (λ_ _ _ hN=>O.leqI rfl rfl (O.o hN)) (D.as 9 rfl e3 (K2 (C.ret (Outs.one rfl rfl ?_)))));exact ⟨rfl,(Ext.T (Ext.T e1 e2) e3)⟩
theorem pred_near (bc:Nat)(v1 v2:Value)(x:Cn.Ctx)(F M:Nat->Prop)(w:World)(ho:Own w bc 51 [v1,v2])(hv:Sl Dt.dotF.enc w F v1 x.1)(hg:∀r,0<=Cn.get x.1 r∧Cn.get x.1 r<=4294967295)(hM:¬M bc)(hF:∀k,F k->¬M k):Pred prog M w (.func (.func 68) #[] #[.pointer (some ⟨bc,0,none⟩)]) Dt.dv (Cn.near x.1):=⟨68,[.pointer (some ⟨bc,0,none⟩)],rfl,call68,λd w' e=>near_spec d bc v1 v2 x F w' (ho.kM e hM) (hv.kM e hF) hg⟩
theorem isCompact_spec (v1 v2:Value)(x:Cn.Ctx)(F:Nat->Prop)(w:World)(hv:Sl Dt.dotF.enc w F v1 x.1)(hc:Sl Dt.dotF.enc w F v2 x.2):
 Ret prog 43 #[.agg #[v1,v2]] w (λv w'=>v=.bool (Cn.isCompact x)∧Le w w'):=by
 refine enT [.agg #[v1,v2]] 14 func43 rfl rfl (C.sr λK1=>O.box (v:=.agg #[v1,v2]) rfl (λb1 w1 hb1 hz1 e1=>?_));have z1:=e1.size;have h1:=hz1.own;have hl1:=h1.lt;refine O.j (K1 (C.sr λK2=>O.makeF (v1:=[]) rfl rfl (O.j (K2 (C.sr λK3=>O.loadOA isAgg51 Z51 rfl h1 (leB rfl) (O.call call70 (args1 rfl) (ctxValid_spec v1 v2 x F _ (hv.L e1) (hc.L e1)) ?_))))));rintro v_6 w2 ⟨rfl,e2⟩;have z2:=e2.size;refine O.mv (O.split (x:=.tmp 7) rfl (λc7=>?_) (λc7=>?_))
 ·
  refine O.yes rfl (isT' rfl c7) (O.fa U51 rfl Z48 rfl (O.yes rfl (isT' rfl c7) (O.loadO isAgg48 rfl (h1.L e2) rfl (O.yes rfl (isT' rfl c7) (O.mv (O.yes rfl (isT' rfl c7) (O.call call71 (args2 rfl rfl) (containsD_spec _ _ _ _ (λ_=>False) _ _ ((hc.L e1).L e2) (pred_near b1 v1 v2 x F _ _ (h1.L e2) ((hv.L e1).L e2) (Cn.get_bound c7) not_false (λ_ _=>not_false))) ?_)))))));rintro v_11 w3 ⟨rfl,e3⟩;have z3:=e3.size;refine O.yes rfl (isT' rfl c7) (O.not rfl (O.pickT (isT' rfl c7) (O.j (K3 (C.ret (Outs.one rfl rfl (⟨congrArg Value.bool ?_,(Ext.T (Ext.T e1 e2) e3)⟩)))))));unfold Cn.isCompact;rw[c7]
  rfl
 refine O.no rfl (noB (isF' rfl c7) rfl) (O.no rfl (noB (isF' rfl c7) rfl) (O.no rfl (noB (isF' rfl c7) rfl) (O.no rfl (noB (isF' rfl c7) rfl) (O.no rfl (noB (isF' rfl c7) rfl) (O.pickF (isF' rfl c7) (O.j (K3 (C.ret (Outs.one rfl rfl (⟨congrArg Value.bool ?_,(Ext.T e1 e2)⟩))))))))));unfold Cn.isCompact;rw[c7]
 rfl
theorem vecHas_spec (v0:Value)(l:List Dt.Dot)(F:Nat->Prop)(d:Dt.Dot)(w:World)(hl:Sl Dt.dotF.enc w F v0 l):
 Ret prog 117 #[v0,Dt.dv (d)] w (λv w'=>v=.bool (Cn.vecHas l d)∧Le w w'):=by
 refine enT [v0,Dt.dv (d)] 16 func117 rfl rfl (C.sr λK1=>O.box (v:=Dt.dv (d)) rfl (λb3 w1 hb3 hz3 e1=>?_));have z1:=e1.size;have h3:=hz3.own;have hl3:=h3.lt;refine O.j (K1 (C.sd λK2 w2 e2 z2=>D.t 0 rfl leR (λ_ hw_ _ hN=>O.loadOA isAgg119 Z119 rfl ((h3.L e2).L hw_) (leB rfl) (O.o hN)) (D.on 1 rfl rfl (O.call call118 (args1 rfl) (valid_spec d _) ?_))));rintro v_6 w3 ⟨rfl,e3⟩;have z3:=e3.size;refine O.o ⟨e3,D.mv 2 rfl e3 (D.splitD (x:=.tmp 7) rfl (λc7=>?_) (λc7=>?_))⟩
 ·
  refine D.ty 3 rfl rfl rfl rfl (isT rfl c7) e3 ⟨_,rfl⟩ (λ_ hw_ _ hN=>O.fa U119 rfl Z3 rfl (O.o hN)) (D.ty 4 rfl rfl rfl rfl (isT rfl c7) e3 ⟨_,rfl⟩ (λ_ hw_ _ hN=>O.loadO isAgg3 rfl ((h3.L e2).L hw_) rfl (O.o hN)) (D.ty 5 rfl rfl rfl rfl (isT rfl c7) e3 ⟨pure _,rfl⟩ (λ_ hw_ _ hN=>O.mv (O.o hN)) (D.ty 6 rfl rfl rfl rfl (isT rfl c7) e3 ⟨_,rfl⟩ (λ_ hw_ _ hN=>O.fa U119 rfl Z3 rfl (O.o hN)) (D.ty 7 rfl rfl rfl rfl (isT rfl c7) e3 ⟨_,rfl⟩ (λ_ hw_ _ hN=>O.loadO isAgg3 rfl ((h3.L e2).L hw_) rfl (O.o hN)) (D.oneYes (i:=8) rfl rfl (isT rfl c7) (by kernel_rfl) ?_)))));refine O.call call69 (args2 rfl rfl) (get_spec _ l _ d.1 _ (((hl.L e1).L e2).L e3)) ?_;rintro v_13 w4 ⟨rfl,e4⟩;have z4:=e4.size;refine O.o ⟨(Ext.T e3 e4),D.ty 9 rfl rfl rfl rfl (isT rfl c7) (Ext.T e3 e4) ⟨_,rfl⟩ (λ_ hw_ _ hN=>O.leqI rfl rfl (O.o hN)) (D.tk 10 rfl rfl rfl rfl (Ext.T e3 e4) pick_form (λ_ hw_ _ hN=>O.pickT (isT rfl c7) (O.o hN)) (D.as 11 rfl (Ext.T e3 e4) (K2 (C.ret (Outs.one rfl rfl (⟨congrArg Value.bool ?_,(Ext.T (Ext.T (Ext.T e1 e2) e3) e4)⟩))))))⟩;unfold Cn.vecHas Cn.okD
  first
  |(rw[decide_eq_true c7];rfl)
  |(rw[decide_eq_false c7];rfl)
 refine D.tn 3 rfl rfl e3 rfl (noB (isF rfl c7) rfl) (D.tn 4 rfl rfl e3 rfl (noB (isF rfl c7) rfl) (D.tn 5 rfl rfl e3 rfl (noB (isF rfl c7) rfl) (D.tn 6 rfl rfl e3 rfl (noB (isF rfl c7) rfl) (D.tn 7 rfl rfl e3 rfl (noB (isF rfl c7) rfl) (D.tn 8 rfl rfl e3 rfl (noB (isF rfl c7) rfl) (D.tn 9 rfl rfl e3 rfl (noB (isF rfl c7) rfl) (D.tk 10 rfl rfl rfl rfl e3 pick_form (λ_ hw_ _ hN=>O.pickF (isF rfl c7) (O.o hN)) (D.as 11 rfl e3 (K2 (C.ret (Outs.one rfl rfl (⟨congrArg Value.bool ?_,(Ext.T (Ext.T e1 e2) e3)⟩))))))))))));unfold Cn.vecHas Cn.okD
 first
 |(rw[decide_eq_true c7];rfl)
 |(rw[decide_eq_false c7];rfl)
theorem ctxHas_spec (v1 v2:Value)(x:Cn.Ctx)(F:Nat->Prop)(d:Dt.Dot)(w:World)(hv:Sl Dt.dotF.enc w F v1 x.1)(hc:Sl Dt.dotF.enc w F v2 x.2):
 Ret prog 76 #[.agg #[v1,v2],Dt.dv (d)] w (λv w'=>v=.bool (Cn.ctxHas x d)∧Le w w'):=by
 refine enT [.agg #[v1,v2],Dt.dv (d)] 19 func76 rfl rfl (C.sr λK1=>O.box (v:=.agg #[v1,v2]) rfl (λb2 w1 hb2 hz2 e1=>?_));have z1:=e1.size;have h2:=hz2.own;have hl2:=h2.lt;refine O.box (v:=Dt.dv (d)) rfl (λb3 w2 hb3 hz3 e2=>?_);have z2:=e2.size;have h3:=hz3.own;have hl3:=h3.lt;refine O.j (K1 (C.sr λK2=>O.fa U51 rfl Z49 rfl (O.loadO isAgg49 rfl (h2.L e2) rfl (O.loadOA isAgg119 Z119 rfl h3 (leB rfl) (O.call call117 (args2 rfl rfl) (vecHas_spec _ x.1 _ d _ ((hv.L e1).L e2)) ?_)))));rintro v_8 w3 ⟨rfl,e3⟩;have z3:=e3.size;refine O.mv (O.split (x:=.tmp 9) rfl (λc9=>?_) (λc9=>?_))
 ·
  refine O.no rfl (noB (isT' rfl c9) rfl) (O.no rfl (noB (isT' rfl c9) rfl) (O.no rfl (noB (isT' rfl c9) rfl) (O.no rfl (noU rfl) (O.no rfl (noU rfl) (O.no rfl (noU rfl) (O.no rfl (noU rfl) (O.no rfl (noB (isT' rfl c9) rfl) (O.pickT (isT' rfl c9) (O.j (K2 (C.ret (Outs.one rfl rfl (⟨congrArg Value.bool ?_,(Ext.T (Ext.T e1 e2) e3)⟩)))))))))))));unfold Cn.ctxHas Cn.okD
  first
  |(rw[c9];rfl)
  |(rw[c9,decide_eq_true c12];rfl)
  |(rw[c9,decide_eq_false c12];rfl)
 refine O.yes rfl (isF' rfl c9) (O.loadOA isAgg119 Z119 rfl (h3.L e3) (leB rfl) (O.yes rfl (isF' rfl c9) (O.call call118 (args1 rfl) (valid_spec d _) ?_)));rintro v_11 w4 ⟨rfl,e4⟩;have z4:=e4.size;refine O.yes rfl (isF' rfl c9) (O.mv (O.splitD (x:=.tmp 12) rfl (λc12=>?_) (λc12=>?_)))
 ·
  refine O.yes rfl (isT rfl c12) (O.fa U51 rfl Z48 rfl (O.yes rfl (isT rfl c12) (O.loadO isAgg48 rfl (((h2.L e2).L e3).L e4) rfl (O.yes rfl (isT rfl c12) (O.loadOA isAgg119 Z119 rfl ((h3.L e3).L e4) (leB rfl) (O.yes rfl (isT rfl c12) (O.call call119 (args2 rfl rfl) (has_spec _ x.2 _ d _ ((((hc.L e1).L e2).L e3).L e4)) ?_)))))));rintro v_16 w5 ⟨rfl,e5⟩;have z5:=e5.size;refine O.yes rfl (isF' rfl c9) (O.pickT (isT rfl c12) (O.pickF (isF' rfl c9) (O.j (K2 (C.ret (Outs.one rfl rfl (⟨congrArg Value.bool ?_,(Ext.T (Ext.T (Ext.T (Ext.T e1 e2) e3) e4) e5)⟩)))))));unfold Cn.ctxHas Cn.okD
  first
  |(rw[c9];rfl)
  |(rw[c9,decide_eq_true c12];rfl)
  |(rw[c9,decide_eq_false c12];rfl)
 refine O.no rfl (noB (isF rfl c12) rfl) (O.no rfl (noB (isF rfl c12) rfl) (O.no rfl (noB (isF rfl c12) rfl) (O.no rfl (noB (isF rfl c12) rfl) (O.yes rfl (isF' rfl c9) (O.pickF (isF rfl c12) (O.pickF (isF' rfl c9) (O.j (K2 (C.ret (Outs.one rfl rfl (⟨congrArg Value.bool ?_,(Ext.T (Ext.T (Ext.T e1 e2) e3) e4)⟩)))))))))));unfold Cn.ctxHas Cn.okD
 first
 |(rw[c9];rfl)
 |(rw[c9,decide_eq_true c12];rfl)
 |(rw[c9,decide_eq_false c12];rfl)
theorem miss1_spec (d:Dt.Dot)(bc:Nat)(v1 v2:Value)(x:Cn.Ctx)(F:Nat->Prop)(w:World)(ho:Own w bc 51 [v1,v2])(hv:Sl Dt.dotF.enc w F v1 x.1)(hc:Sl Dt.dotF.enc w F v2 x.2):
 Ret prog 75 #[Dt.dv (d),.pointer (some ⟨bc,0,none⟩)] w (λv w'=>v=.bool (Cn.ctxHas x d)∧Le w w'):=by
 refine enT [Dt.dv (d),.pointer (some ⟨bc,0,none⟩)] 7 func75 rfl rfl (C.sr λK1=>O.box (v:=Dt.dv (d)) rfl (λb2 w1 hb2 hz2 e1=>?_));have z1:=e1.size;have h2:=hz2.own;have hl2:=h2.lt;refine O.j (K1 (C.sr λK2=>O.loadOA isAgg51 Z51 rfl (ho.L e1) (leB rfl) (O.loadOA isAgg119 Z119 rfl h2 (leB rfl) (O.call call76 (args2 rfl rfl) (ctxHas_spec v1 v2 x F d _ (hv.L e1) (hc.L e1)) ?_))));rintro v_6 w2 ⟨rfl,e2⟩;have z2:=e2.size;refine O.j (K2 (C.ret (Outs.one rfl rfl ?_)));exact ⟨rfl,(Ext.T e1 e2)⟩
theorem pred_miss (bc:Nat)(v1 v2:Value)(x:Cn.Ctx)(F M:Nat->Prop)(w:World)(ho:Own w bc 51 [v1,v2])(hv:Sl Dt.dotF.enc w F v1 x.1)(hc:Sl Dt.dotF.enc w F v2 x.2)(hM:¬M bc)(hF:∀k,F k->¬M k):Pred prog M w (.func (.func 75) #[] #[.pointer (some ⟨bc,0,none⟩)]) Dt.dv (Cn.ctxHas x):=⟨75,[.pointer (some ⟨bc,0,none⟩)],rfl,call75,λd w' e=>miss1_spec d bc v1 v2 x F w' (ho.kM e hM) (hv.kM e hF) (hc.kM e hF)⟩
end Go.Proofs.YtlgjaminfabchaaGreatDoor
end
section
namespace Go.Proofs.YtlgjaminfabchaaGreatDoor
open Go.Pn Go.RowKit _root_.Go.Proofs.Tryz
theorem inf155:∃ie,prog.info? 155=some ie∧ie.size=4∧ie.bytes=32∧ie.zero=some (.agg #[.int .i64 0,.int .i64 0,.int .i64 0,.int .u64 0]):=by
 have h:(prog.info? 155).isSome=true:=by kernel_rfl
 exact ⟨(prog.info? 155).get h,(Option.some_get h).symm,by kernel_rfl,by kernel_rfl,by kernel_rfl⟩
theorem inf76:∃ie,prog.info? 76=some ie∧ie.size=2∧ie.bytes=40∧ie.zero=some (.agg #[.string ⟨#[]⟩,.slice none 0 0]):=by
 have h:(prog.info? 76).isSome=true:=by kernel_rfl
 exact ⟨(prog.info? 76).get h,(Option.some_get h).symm,by kernel_rfl,by kernel_rfl,by kernel_rfl⟩
theorem okQ_spec (q:Int)(w:World):
 Ret prog 159 #[.int .i64 (q)] w (λv w'=>v=.bool (decide (1<=q∧q<=2147483647))∧Le w w'):=by
 refine enT [.int .i64 (q)] 9 func159 rfl rfl (C.sr λK1=>O.j (K1 (C.sr λK2=>O.mv (O.geqI rfl rfl (O.mv (O.cut 3 (λf f'=>f' 8=.bool (decide (1<=q∧q<=2147483647))) ?_ ?_))))))
 ·
  refine O.splitD (x:=.tmp 5) rfl (λc5=>?_) (λc5=>?_)
  ·
   refine O.yes rfl (isT rfl c5) (O.mv (O.yes rfl (isT rfl c5) (O.leqI rfl rfl (O.pickT (isT rfl c5) (O.o (⟨?_,rfl⟩))))));exact dJ rfl
  refine O.no rfl (noB (isF rfl c5) rfl) (O.no rfl (noB (isF rfl c5) rfl) (O.pickF (isF rfl c5) (O.o (⟨?_,rfl⟩))));exact dJ rfl
 intro f_1 s8_1;refine O.j (K2 (C.ret (Outs.one rfl s8_1 ?_)));exact ⟨rfl,leR⟩
theorem okM_spec (m:MarkT)(w:World):
 Ret prog 114 #[mv (m)] w (λv w'=>v=.bool (Cn.okM m)∧Le w w'):=by
 refine enT [mv (m)] 16 func114 rfl rfl (C.sr λK1=>O.box (v:=mv (m)) rfl (λb1 w1 hb1 hz1 e1=>?_));have z1:=e1.size;have h1:=hz1.own;have hl1:=h1.lt;refine O.j (K1 (C.sr λK2=>O.fa U155 rfl Z119 rfl (O.loadOA isAgg119 Z119 rfl h1 (leB rfl) (O.call call118 (args1 rfl) (valid_spec m.1 _) ?_))));rintro v_5 w2 ⟨rfl,e2⟩;have z2:=e2.size;refine O.mv (O.splitD (x:=.tmp 6) rfl (λc6=>?_) (λc6=>?_))
 ·
  refine O.yes rfl (isT rfl c6) (O.fa U155 rfl Z3 rfl (O.yes rfl (isT rfl c6) (O.loadO isAgg3 rfl (h1.L e2) rfl (O.yes rfl (isT rfl c6) (O.call call159 (args1 rfl) (okQ_spec m.2.1 _) ?_)))));rintro v_9 w3 ⟨rfl,e3⟩;have z3:=e3.size;refine O.pickT (isT rfl c6) (O.mv (O.splitD (x:=.tmp 11) rfl (λc11=>?_) (λc11=>?_)))
  ·
   refine O.yes rfl (isT rfl c11) (O.fa U155 rfl Z26 rfl (O.yes rfl (isT rfl c11) (O.loadO isAgg26 rfl ((h1.L e2).L e3) rfl (O.yes rfl (isT rfl c11) (O.gtrU (m:=64) (b:=0#64) rfl rfl (O.pickT (isT rfl c11) (O.j (K2 (C.ret (Outs.one rfl rfl (⟨congrArg Value.bool ?_,(Ext.T (Ext.T e1 e2) e3)⟩)))))))))));unfold Cn.okM Cn.okD
   first
   |(rw[decide_eq_false c6];rfl)
   |(rw[decide_eq_true c6,decide_eq_false c11];rfl)
   |(rw[decide_eq_true c6,decide_eq_true c11];rfl)
  refine O.no rfl (noB (isF rfl c11) rfl) (O.no rfl (noB (isF rfl c11) rfl) (O.no rfl (noB (isF rfl c11) rfl) (O.pickF (isF rfl c11) (O.j (K2 (C.ret (Outs.one rfl rfl (⟨congrArg Value.bool ?_,(Ext.T (Ext.T e1 e2) e3)⟩))))))));unfold Cn.okM Cn.okD
  first
  |(rw[decide_eq_false c6];rfl)
  |(rw[decide_eq_true c6,decide_eq_false c11];rfl)
  |(rw[decide_eq_true c6,decide_eq_true c11];rfl)
 refine O.no rfl (noB (isF rfl c6) rfl) (O.no rfl (noB (isF rfl c6) rfl) (O.no rfl (noB (isF rfl c6) rfl) (O.pickF (isF rfl c6) (O.mv (O.no rfl (noB rfl rfl) (O.no rfl (noB rfl rfl) (O.no rfl (noB rfl rfl) (O.pickF rfl (O.j (K2 (C.ret (Outs.one rfl rfl (⟨congrArg Value.bool ?_,(Ext.T e1 e2)⟩)))))))))))));unfold Cn.okM Cn.okD
 first
 |(rw[decide_eq_false c6];rfl)
 |(rw[decide_eq_true c6,decide_eq_false c11];rfl)
 |(rw[decide_eq_true c6,decide_eq_true c11];rfl)
theorem mbad_spec (m:MarkT)(w:World):
 Ret prog 113 #[mv (m)] w (λv w'=>v=.bool (Cn.badM m)∧Le w w'):=by
 refine enT [mv (m)] 6 func113 rfl rfl (C.sr λK1=>O.box (v:=mv (m)) rfl (λb1 w1 hb1 hz1 e1=>?_));have z1:=e1.size;have h1:=hz1.own;have hl1:=h1.lt;refine O.j (K1 (C.sr λK2=>O.loadOA isAgg155 Z155 rfl h1 (leB rfl) (O.call call114 (args1 rfl) (okM_spec m _) ?_)));rintro v_4 w2 ⟨rfl,e2⟩;have z2:=e2.size;refine O.not rfl (O.j (K2 (C.ret (Outs.one rfl rfl ?_))));exact ⟨rfl,(Ext.T e1 e2)⟩
theorem pred_mbad (M:Nat->Prop)(w:World):Pred prog M w (.func (.func 113) #[] #[]) mv Cn.badM:=⟨113,[],rfl,call113,λd w' _=>mbad_spec d w'⟩
theorem indexM_spec (v0 vf:Value)(l:List MarkT)(F M:Nat->Prop)(p:MarkT->Bool)(w:World)(hl:Sl markF.enc w F v0 l)(hp:Pred prog M w vf mv p):
 Ret prog 146 #[v0,vf] w (λv w'=>v=.int .i64 (Cn.idx p l)∧Le w w'):=by
 have hle:=hl.le;refine enT [v0,vf] 19 func146 rfl rfl (C.sr λK1=>O.j (K1 (C.sq λK2=>C.sr λK3=>O.mv (O.len U74 rfl hl (O.mv (K3 (C.bl λK4=>C.loop0 (σ:=Nat) (λf0 w0 k f wz=>f 8=.int .i64 (k)∧f 0=f0 0∧f 1=f0 1∧f 7=f0 7∧Le w wz∧k<=l.length∧∀i,∀h:i<l.length,i<k->p l[i]=false) (λk=>l.length-k) 0 ?_ ?_)))))))
 ·
  refine ⟨rfl,rfl,rfl,rfl,leR,?_⟩;exact ⟨Nat.zero_le _,λi h k=>absurd k (Nat.not_lt_zero _)⟩
 rintro k f_1 w1 ⟨s8_1,s0_1,s1_1,s7_1,e_1,⟨hk,hI⟩⟩;have z_1:=e_1.size;refine C.sr λK5=>O.lssI s8_1 s7_1 (K5 (C.sq λK6=>C.condD rfl (λc9=>?_) (λc9=>?_)))
 ·
  have hk2:k<l.length:=by omega
  refine C.skip (K6 (C.sq λK7=>C.bl λK8=>C.sr λK9=>O.mv (O.j (K9 (C.sr λK10=>O.mv (O.mv (O.mv (O.idx U74 Z155 rfl s0_1 (hl.L e_1) s8_1 (by omega) (λa14 h14=>O.loadG (G:=markF) isAgg155 Z155 rfl h14 (O.callP (_) (hp.L e_1) s1_1 rfl (λw2 e2=>?_)))))))))));have z2:=e2.size;refine K10 (C.cond rfl (λc16=>?_) (λc16=>?_))
  ·
   simp only[Int.toNat_natCast] at c16;refine C.sr λK11=>O.mv (O.j (K11 (C.ret (Outs.one rfl s8_1 ?_))))
   first
   |exact ⟨cI (Cn.idx_yes hk2 c16 hI).symm,(Ext.T e_1 e2)⟩
   |exact ⟨cI (Cn.idx_no λi hi=>hI i hi (by omega)).symm,(Ext.T e_1 e2)⟩
  simp only[Int.toNat_natCast] at c16;refine C.skip (K8 (K7 (C.region (O.ad s8_1 rfl (O.mv (O.o (⟨k+1,⟨rfl,s0_1,s1_1,s7_1,(Ext.T e_1 e2),?_⟩,by first|omega|(simp only[];omega)⟩)))))));refine ⟨by omega,λi hi hik=>?_⟩;rcases Nat.lt_or_eq_of_le (Nat.le_of_lt_succ hik) with h|rfl
  ·exact hI i hi h
  ·exact c16
 refine C.exit (K4 (K2 (C.sr λK12=>O.j (K12 (C.ret (Outs.one rfl rfl ?_))))))
 first
 |exact ⟨cI (Cn.idx_yes hk2 c16 hI).symm,e_1⟩
 |exact ⟨cI (Cn.idx_no λi hi=>hI i hi (by omega)).symm,e_1⟩
theorem containsM_spec (v0 vf:Value)(l:List MarkT)(F M:Nat->Prop)(p:MarkT->Bool)(w:World)(hl:Sl markF.enc w F v0 l)(hp:Pred prog M w vf mv p):
 Ret prog 112 #[v0,vf] w (λv w'=>v=.bool (l.any p)∧Le w w'):=by
 refine enT [v0,vf] 9 func112 rfl rfl (C.sr λK1=>O.j (K1 (C.sr λK2=>O.mv (O.mv (O.call call146 (args2 rfl rfl) (indexM_spec _ _ _ _ _ _ _ hl hp) ?_)))));rintro v_7 w1 ⟨rfl,e1⟩;have z1:=e1.size;refine O.geqI rfl rfl (O.j (K2 (C.ret (Outs.one rfl rfl ?_))));exact ⟨cB (Cn.idx_any l),e1⟩
theorem qdots_spec (v0:Value)(l:List MarkT)(F:Nat->Prop)(w:World)(hl:Sl markF.enc w F v0 l)(hn:l.length<=1000000):
 Ret prog 77 #[v0] w (λv w'=>Le w w'∧OwnF Dt.dotF 119 w.heap.size w' v (Cn.mdots l)):=by
 have hle:=hl.le;obtain ⟨ie119,ti119,ts119,tb119,tz119⟩:=inf119;refine enT [v0] 19 func77 rfl rfl (C.sr λK1=>O.j (K1 (C.sr λK2=>O.j (K2 (C.sq λK3=>C.sr λK4=>O.mv (O.len U74 rfl hl (O.mv (K4 (C.bl λK5=>C.loop0 (σ:=Nat×Value) (λf0 w0 ⟨k,o⟩ f wz=>f 3=o∧f 8=.int .i64 (k)∧f 2=f0 2∧f 6=f0 6∧f 7=f0 7∧Le w wz∧OwnF Dt.dotF 119 w.heap.size wz o (Cn.mdots (l.take k))∧k<=l.length) (λ⟨k,o⟩=>l.length-k) (0,.slice none 0 0) ?_ ?_)))))))))
 ·
  refine ⟨rfl,rfl,rfl,rfl,rfl,leR,(OwnF.nil _ _ _ _),?_⟩;exact Nat.zero_le _
 rintro ⟨k,o⟩ f_1 w1 ⟨s3_1,s8_1,s2_1,s6_1,s7_1,e_1,r0_1,hk⟩;have z_1:=e_1.size;have r0_1s:=r0_1.sl;have hlk:(Cn.mdots (l.take k)).length=k:=by unfold Cn.mdots;simp;omega
 refine C.sr λK6=>O.lssI s8_1 s7_1 (K6 (C.sq λK7=>C.condD rfl (λc9=>?_) (λc9=>?_)))
 ·
  have hk2:k<l.length:=by omega
  refine C.skip (K7 (C.sq λK8=>C.bl λK9=>C.sr λK10=>O.idx U74 Z155 rfl s6_1 (hl.L e_1) s8_1 (by omega) (λa10 h10=>O.loadG (G:=markF) isAgg155 Z155 rfl h10 ?_)));obtain ⟨u,hu⟩:∃u:MarkT,u=l[k]:=⟨_,rfl⟩
  refine O.cast (v':=mv u) (by rw[hu];rfl) (O.alloc zeroValue155 (λb5 w2 hb5 hz5 e2=>?_));have z2:=e2.size;have h5:=hz5.own;have hl5:=h5.lt;refine O.storeA (vs:=[.int .i64 u.1.1,.int .i64 u.1.2,.int .i64 u.2.1,.int .u64 (u.2.2.toNat:Int)]) Z155 rfl rfl rfl (by simp[Value.oneCell']) h5 (leB rfl) (λw3 hs3 e3 z3=>K10 (C.region (O.mv (O.fa U155 rfl Z119 rfl (O.loadOA isAgg119 Z119 rfl hs3 (leB rfl) (O.litG (G:=Dt.dotF) [u.1] U48 ti119 ts119 tz119 rfl (by decide) (by decide) rfl (λb15 w4 hb15 hz15 e4=>?_)))))));have z4:=e4.size;have h15:=hz15.own;have hq15:=Sl.litG (n:=1) h15 rfl (by unfold maxLen;omega);have t0:=(r0_1.L e2).kM e3 (λk hk h=>by have:=r0_1.bk_ge k hk;(try dsimp only at h);omega);refine O.appF (G:=Dt.dotF) U48 ti119 tz119 ts119 rfl s3_1 rfl (t0.L e4) hq15 (by rw[tb119];simp;omega) (by unfold maxLen;simp;omega) (by omega) (λv16 w5 h16 e5=>?_);have z5:=e5.size;have h16s:=h16.sl;refine O.j (O.o (K9 (K8 (C.region (O.ad s8_1 rfl (O.mv (O.o (⟨(k+1,_),⟨rfl,rfl,s2_1,s6_1,s7_1,(Ext.new (Ext.T (Ext.nr (Ext.T e_1 e2) e3) e4) e5 (by intro i hi h;have:=(t0.L e4).bk_ge i h;omega)),(by rw[show Cn.mdots (l.take (k+1))=Cn.mdots (l.take k)++[u.1] from by rw[hu];exact Cn.map_take _ hk2];exact h16),?_⟩,by first|omega|(simp only[];omega)⟩))))))))
  omega
 refine C.exit (K5 (K3 (C.sr λK11=>O.mv (O.j (K11 (C.ret (Outs.one rfl s3_1 ?_)))))));obtain rfl:k=l.length:=by omega
 rw[List.take_length] at r0_1;exact ⟨e_1,r0_1⟩
theorem isList_spec (v0:Value)(l:List MarkT)(F:Nat->Prop)(w:World)(hl:Sl markF.enc w F v0 l)(hn:l.length<=1000000):
 Ret prog 111 #[v0] w (λv w'=>v=.bool (Dt.isSet (Cn.mdots l))∧Le w w'):=by
 refine enT [v0] 6 func111 rfl rfl (C.sr λK1=>O.j (K1 (C.sr λK2=>O.mv (O.call call77 (args1 rfl) (qdots_spec _ _ _ _ hl hn) ?_))));rintro v_4 w1 ⟨e1,h4⟩;have z1:=e1.size;have h4s:=h4.sl;refine O.call call107 (args1 rfl) (isSet_spec _ _ _ _ h4s) ?_;rintro v_5 w2 ⟨rfl,e2⟩;have z2:=e2.size;refine O.j (K2 (C.ret (Outs.one rfl rfl ?_)));exact ⟨rfl,(Ext.T e1 e2)⟩
end Go.Proofs.YtlgjaminfabchaaGreatDoor
end
section
namespace Go.Proofs.YtlgjaminfabchaaGreatDoor
open Go.Pn Go.RowKit _root_.Go.Proofs.Tryz
theorem compact_a_spec (g cap B:Nat)(l:List Dt.Dot)(w:World)(ho:OwnF Dt.dotF 119 B w (.slice (some ⟨g,0,none⟩) l.length cap) l)(hn:l.length<=1000000000000):
 Ret prog 116 #[.slice (some ⟨g,0,none⟩) l.length cap] w (λv w'=>v=.slice (some ⟨g,0,none⟩) (Dt.compact l).length cap∧OwnF Dt.dotF 119 B w' v (Dt.compact l)∧Ext (λk=>k=g) w w'):=by
 have hs0:=ho.sl;have hcap:=ho.le_cap;refine enT [.slice (some ⟨g,0,none⟩) l.length cap] 61 func116 rfl rfl (C.sr λK1=>O.j (K1 (C.sq λK2=>C.sr λK3=>O.mv (O.len U48 rfl hs0 (O.lssI rfl rfl (K3 (C.condD rfl (λc8=>?_) (λc8=>?_))))))))
 ·
  refine C.sr λK4=>O.mv (O.j (K4 (C.ret (Outs.one rfl rfl ?_))))
  first
  |(have q0:Dt.compact l=l:=by
     rcases hq:l with _|⟨a,_|⟨b,r⟩⟩
     ·rfl
     ·rfl
     ·rw [hq] at c8;simp at c8;omega
    refine ⟨congrArg (λx:List Dt.Dot=>Value.slice (some ⟨g,0,none⟩) x.length cap) q0.symm,?_,(Ext.L _ _)⟩;rw[q0];exact ho)
  |(have q0:Dt.compact l=l:=Dt.compact_distinct (λi hi=>hI i hi (by omega))
    refine ⟨congrArg (λx:List Dt.Dot=>Value.slice (some ⟨g,0,none⟩) x.length cap) q0.symm,?_,(Ext.L _ _)⟩;rw[q0];exact ho)
  |(have q1:c.take m=Dt.compact l:=by rw[hT,hj3,List.take_length]
    have q2:(Dt.compact l).length=m:=by rw[<-q1,List.length_take];omega
    refine ⟨congrArg (λx:Nat=>Value.slice (some ⟨g,0,none⟩) x cap) q2.symm,?_,(Ext.L _ _)⟩;have hf:=ho;obtain ⟨X,hX⟩:∃X:List Dt.Dot,X=c.take m++List.replicate (l.length-m) ((0,0):Dt.Dot):=⟨_,rfl⟩
    have hx:X.length=l.length:=by rw[hX];simp;omega
    rw[<-hX,<-hx] at hf;replace hf:=hf.first (k:=m) (by rw[hx];omega)
    rw[hX,List.take_append_of_le_length (by simp;omega),List.take_take,Nat.min_self,q1] at hf;exact hf)
 have hn2:2<=l.length:=by omega
 refine C.skip (K2 (C.sq λK5=>C.sr λK6=>O.j (K6 (C.bl λK7=>C.loop0 (σ:=Nat) (λf0 w0 k f wz=>f 3=.int .i64 (k)∧f 0=f0 0∧Le w wz∧OwnF Dt.dotF 119 B wz (.slice (some ⟨g,0,none⟩) l.length cap) l∧1<=k∧k<=l.length∧∀i,∀h:i+1<l.length,i+1<k->l[i]≠l[i+1]) (λk=>l.length-k) 1 ?_ ?_))))
 ·
  refine ⟨rfl,rfl,leR,ho,?_⟩;exact ⟨by omega,by omega,λi h k=>absurd k (by omega)⟩
 rintro k f_1 w1 ⟨s3_1,s0_1,e_1,r0_1,⟨hk1,hk,hI⟩⟩;have z_1:=e_1.size;have r0_1s:=r0_1.sl;refine C.sq λK8=>C.sr λK9=>O.mv (O.mv (O.len U48 s0_1 r0_1s (O.lssI s3_1 rfl (K9 (C.condD rfl (λc13=>?_) (λc13=>?_))))))
 ·
  have hk2:k<l.length:=by omega
  have x0:((k:Int)).toNat=k:=by omega
  have x1:((k:Int)-1).toNat=k-1:=by omega
  refine C.skip (K8 (C.sq λK10=>C.bl λK11=>C.sd λK12 w2 e2 z2=>D.mv 0 rfl leR (D.mv 1 rfl leR ?_)));obtain ⟨a18,h18,hr18⟩:=Sl.at (i:=(k:Int)) (P:=prog) U48 Z119 rfl (r0_1s.L e2) (by omega);refine D.t 2 rfl leR (λ_ _ _ hN=>O.idxR s0_1 s3_1 hr18 (O.o hN)) (D.t 3 rfl leR (λ_ hw_ _ hN=>O.loadG (G:=Dt.dotF) isAgg119 Z119 rfl (h18.L hw_) (O.o hN)) (D.mv 4 rfl leR (D.mv 5 rfl leR (D.t 6 rfl leR (λ_ _ _ hN=>O.sb s3_1 rfl (O.o hN)) ?_))));obtain ⟨a23,h23,hr23⟩:=Sl.at (i:=(k:Int)-1) (P:=prog) U48 Z119 rfl (r0_1s.L e2) (by omega);refine D.t 7 rfl leR (λ_ _ _ hN=>O.idxR s0_1 rfl hr23 (O.o hN)) (D.t 8 rfl leR (λ_ hw_ _ hN=>O.loadG (G:=Dt.dotF) isAgg119 Z119 rfl (h23.L hw_) (O.o hN)) (D.t 9 rfl leR (λ_ _ _ hN=>O.eqlP U119 (by decide) (by decide) rfl rfl U3 U3 isAgg3 isAgg3 (by kernel_rfl) (by kernel_rfl) rfl rfl (O.o hN)) (K12 (C.condD rfl (λc25=>?_) (λc25=>?_)))))
  ·
   simp only[x0,x1] at c25;refine C.sr λK13=>O.mv (O.mv (O.subHi U48 Z119 s0_1 s3_1 (by omega) (by omega) (O.j (K13 (C.sq λK14=>C.sr λK15=>O.j (K15 (C.bl λK16=>C.loop0 (σ:=Nat×Nat×List Dt.Dot) (λf0 w0 ⟨j,m,c⟩ f w=>f 5=.int .i64 (j)∧f 3=.int .i64 (m)∧f 0=f0 0∧f 2=f0 2∧f 4=f0 4∧Ext (λk=>k=g) w0 w∧OwnF Dt.dotF 119 B w (.slice (some ⟨g,0,none⟩) l.length cap) c∧c.length=l.length∧1<=j∧k+j<=l.length∧1<=m∧m+1<=k+j∧c.take m=Dt.compact (l.take (k+j))∧∀i,∀h1:i<c.length,∀h2:i<l.length,k+j<=i+1->c[i]=l[i]) (λ⟨j,m,c⟩=>l.length-(k+j)) (1,k,l) ?_ ?_)))))))
   ·
    refine ⟨rfl,s3_1,rfl,rfl,rfl,Ext.L _ _,(r0_1.L e2),⟨rfl,by omega,by omega,by omega,by omega,?_,λi _ _ _=>rfl⟩⟩;rw[Dt.compact_take hk1 hk2,if_pos c25.symm,List.append_nil,Dt.compact_distinct];intro i hi;simp only[List.getElem_take];exact hI i (by simp at hi;omega) (by simp at hi;omega)
   rintro ⟨j,m,c⟩ f_2 w3 ⟨s5_2,s3_2,s0_2,s2_2,s4_2,e_2,r0_2,⟨hcl,hj1,hj,hm1,hm,hT,hS⟩⟩;have z_2:=e_2.size;have r0_2s:=r0_2.sl;have hp4:=r0_2;rw[<-hcl] at hp4;replace hp4:=hp4.part (k:=k) (by omega);rw[hcl] at hp4;refine C.sq λK17=>C.sr λK18=>O.mv (O.mv (O.len U48 s4_2 hp4 (O.lssI s5_2 rfl (K18 (C.condD rfl (λc32=>?_) (λc32=>?_))))))
   ·
    have hj2:k+j<c.length:=by simp at c32;omega
    have y1:((j:Int)).toNat=j:=by omega
    have y2:((j:Int)-1).toNat=j-1:=by omega
    have y3:k+(j-1)=k+j-1:=by omega
    refine C.skip (K17 (C.sq λK19=>C.bl λK20=>C.sd λK21 w4 e4 z4=>D.mv 0 rfl leR (D.mv 1 rfl leR ?_)));obtain ⟨a37,h37,hr37⟩:=Sl.at (i:=(j:Int)) (P:=prog) U48 Z119 rfl (hp4.L e4) (by simp;omega);refine D.t 2 rfl leR (λ_ _ _ hN=>O.idxR s4_2 s5_2 hr37 (O.o hN)) (D.t 3 rfl leR (λ_ hw_ _ hN=>O.loadG (G:=Dt.dotF) isAgg119 Z119 rfl (h37.L hw_) (O.o hN)) (D.mv 4 rfl leR (D.mv 5 rfl leR (D.t 6 rfl leR (λ_ _ _ hN=>O.sb s5_2 rfl (O.o hN)) ?_))));obtain ⟨a42,h42,hr42⟩:=Sl.at (i:=(j:Int)-1) (P:=prog) U48 Z119 rfl (hp4.L e4) (by simp;omega);refine D.t 7 rfl leR (λ_ _ _ hN=>O.idxR s4_2 rfl hr42 (O.o hN)) (D.t 8 rfl leR (λ_ hw_ _ hN=>O.loadG (G:=Dt.dotF) isAgg119 Z119 rfl (h42.L hw_) (O.o hN)) (D.t 9 rfl leR (λ_ _ _ hN=>O.neqP U119 (by decide) (by decide) rfl rfl U3 U3 isAgg3 isAgg3 (by kernel_rfl) (by kernel_rfl) rfl rfl (O.o hN)) (K21 (C.condD rfl (λc44=>?_) (λc44=>?_)))))
    ·
     simp only[y1,y2,List.getElem_drop] at c44;rw[hS (k+j) hj2 (by omega) (by omega),hS (k+(j-1)) (by omega) (by omega) (by omega)] at c44;simp only[y3] at c44;refine C.sr λK22=>O.mv (O.mv (O.mv (O.mv (O.idx U48 Z119 rfl s4_2 (hp4.L e4) s5_2 (by simp;omega) (λa49 h49=>O.loadG (G:=Dt.dotF) isAgg119 Z119 rfl h49 ?_)))))
     obtain ⟨u,hu⟩:∃u:Dt.Dot,u=l[k+j]'(by omega):=⟨_,rfl⟩
     refine O.cast (v':=.agg (Dt.dotF.e u).toArray) (by subst hu;simp only[y1,List.getElem_drop];rw[hS (k+j) hj2 (by omega) (by omega)]) (O.idxO U48 Z119 (Eq.trans s0_2 s0_1) s3_2 (by omega) (O.cast (v':=.pointer (some ⟨g,m*Dt.dotF.sz,none⟩)) (by rw[Nat.zero_add,Int.toNat_natCast];rfl) ?_));have ho51:=(r0_2.L e4)
     rw[<-hcl] at ho51;refine O.storeG (G:=Dt.dotF) (_) Z119 rfl rfl ho51 (by omega) (λw5 hs5 e5 z5=>?_);rw[hcl] at hs5;refine K22 (C.region (O.mv (O.ad s3_2 rfl (O.cast (v':=.int .i64 ((m+1:Nat):Int)) rfl (O.j (O.o (K20 (K19 (C.region (O.mv (O.ad s5_2 rfl (O.j (O.o (⟨(j+1,_,_),⟨rfl,rfl,s0_2,s2_2,s4_2,(Ext.T (Ext.T e_2 (Le.to e4)) (e5)),hs5,?_⟩,by first|omega|(simp only[];omega)⟩))))))))))))))
     first
     |(refine ⟨by rw[List.length_set];exact hcl,by omega,by omega,by omega,by omega,?_,λi h1 h2 h3=>?_⟩
       ·rw [List.take_succ_eq_append_getElem (by rw[List.length_set];omega),List.take_set,List.set_eq_of_length_le (by simp;omega),hT,show k+(j+1)=k+j+1 from rfl,Dt.compact_take (by omega) (by omega),if_neg (λh=>c44 h.symm),List.getElem_set_self,hu]
       ·rw [List.getElem_set_ne (by omega)]
        exact hS i (by rw[List.length_set] at h1;exact h1) h2 (by omega))
     |(refine ⟨hcl,by omega,by omega,hm1,by omega,?_,λi h1 h2 h3=>hS i h1 h2 (by omega)⟩
       rw[hT,show k+(j+1)=k+j+1 from rfl,Dt.compact_take (by omega) (by omega),if_pos (Decidable.of_not_not c44).symm,List.append_nil])
    simp only[y1,y2,List.getElem_drop] at c44;rw[hS (k+j) hj2 (by omega) (by omega),hS (k+(j-1)) (by omega) (by omega) (by omega)] at c44;simp only[y3] at c44;refine C.skip (K20 (K19 (C.region (O.mv (O.ad s5_2 rfl (O.j (O.o (⟨(j+1,_,_),⟨rfl,s3_2,s0_2,s2_2,s4_2,(Ext.T e_2 (Le.to e4)),(r0_2.L e4),?_⟩,by first|omega|(simp only[];omega)⟩))))))))
    first
    |(refine ⟨by rw[List.length_set];exact hcl,by omega,by omega,by omega,by omega,?_,λi h1 h2 h3=>?_⟩
      ·rw [List.take_succ_eq_append_getElem (by rw[List.length_set];omega),List.take_set,List.set_eq_of_length_le (by simp;omega),hT,show k+(j+1)=k+j+1 from rfl,Dt.compact_take (by omega) (by omega),if_neg (λh=>c44 h.symm),List.getElem_set_self,hu]
      ·rw [List.getElem_set_ne (by omega)]
       exact hS i (by rw[List.length_set] at h1;exact h1) h2 (by omega))
    |(refine ⟨hcl,by omega,by omega,hm1,by omega,?_,λi h1 h2 h3=>hS i h1 h2 (by omega)⟩
      rw[hT,show k+(j+1)=k+j+1 from rfl,Dt.compact_take (by omega) (by omega),if_pos (Decidable.of_not_not c44).symm,List.append_nil])
   have hj3:k+j=l.length:=by simp at c32;omega
   refine C.exit (K16 (K14 (C.sr λK23=>O.mv (O.mv (O.subHi U48 Z119 (Eq.trans s0_2 s0_1) s3_2 (by omega) (by omega) ?_)))));have hkw6:=r0_2;rw[<-hcl] at hkw6;refine O.clearG (G:=Dt.dotF) (zx:=(0,0)) (k:=m) U48 zeroValue119 rfl (by rw[hcl];exact rfl) hkw6 (by omega) (λw6 hc6 e6 z6=>?_);rw[hcl] at hc6;refine K23 (C.sr λK24=>O.mv (O.mv (O.subLo U48 Z119 (Eq.trans s0_2 s0_1) s3_2 (by omega) (by omega) (O.j (K24 (C.ret (Outs.one rfl rfl ?_)))))))
   first
   |(have q0:Dt.compact l=l:=by
      rcases hq:l with _|⟨a,_|⟨b,r⟩⟩
      ·rfl
      ·rfl
      ·rw [hq] at c8;simp at c8;omega
     refine ⟨congrArg (λx:List Dt.Dot=>Value.slice (some ⟨g,0,none⟩) x.length cap) q0.symm,?_,(Ext.T (Ext.T (Ext.T (Le.to e_1) (Le.to e2)) e_2) e6)⟩;rw[q0];exact hc6)
   |(have q0:Dt.compact l=l:=Dt.compact_distinct (λi hi=>hI i hi (by omega))
     refine ⟨congrArg (λx:List Dt.Dot=>Value.slice (some ⟨g,0,none⟩) x.length cap) q0.symm,?_,(Ext.T (Ext.T (Ext.T (Le.to e_1) (Le.to e2)) e_2) e6)⟩;rw[q0];exact hc6)
   |(have q1:c.take m=Dt.compact l:=by rw[hT,hj3,List.take_length]
     have q2:(Dt.compact l).length=m:=by rw[<-q1,List.length_take];omega
     refine ⟨congrArg (λx:Nat=>Value.slice (some ⟨g,0,none⟩) x cap) q2.symm,?_,(Ext.T (Ext.T (Ext.T (Le.to e_1) (Le.to e2)) e_2) e6)⟩;have hf:=hc6;obtain ⟨X,hX⟩:∃X:List Dt.Dot,X=c.take m++List.replicate (l.length-m) ((0,0):Dt.Dot):=⟨_,rfl⟩
     have hx:X.length=l.length:=by rw[hX];simp;omega
     rw[<-hX,<-hx] at hf;replace hf:=hf.first (k:=m) (by rw[hx];omega)
     rw[hX,List.take_append_of_le_length (by simp;omega),List.take_take,Nat.min_self,q1] at hf;exact hf)
  simp only[x0,x1] at c25;refine C.skip (K11 (K10 (C.region (O.mv (O.ad s3_1 rfl (O.j (O.o (⟨k+1,⟨rfl,s0_1,(Ext.T e_1 e2),(r0_1.L e2),?_⟩,by first|omega|(simp only[];omega)⟩))))))));refine ⟨by omega,by omega,λi hi hik=>?_⟩;rcases Nat.lt_or_eq_of_le (Nat.le_of_lt_succ hik) with h|rfl
  ·exact hI i hi h
  ·exact λh=>c25 h.symm
 refine C.exit (K7 (K5 (C.sr λK25=>O.mv (O.j (K25 (C.ret (Outs.one rfl s0_1 ?_)))))))
 first
 |(have q0:Dt.compact l=l:=by
    rcases hq:l with _|⟨a,_|⟨b,r⟩⟩
    ·rfl
    ·rfl
    ·rw [hq] at c8;simp at c8;omega
   refine ⟨congrArg (λx:List Dt.Dot=>Value.slice (some ⟨g,0,none⟩) x.length cap) q0.symm,?_,(Le.to e_1)⟩;rw[q0];exact r0_1)
 |(have q0:Dt.compact l=l:=Dt.compact_distinct (λi hi=>hI i hi (by omega))
   refine ⟨congrArg (λx:List Dt.Dot=>Value.slice (some ⟨g,0,none⟩) x.length cap) q0.symm,?_,(Le.to e_1)⟩;rw[q0];exact r0_1)
 |(have q1:c.take m=Dt.compact l:=by rw[hT,hj3,List.take_length]
   have q2:(Dt.compact l).length=m:=by rw[<-q1,List.length_take];omega
   refine ⟨congrArg (λx:Nat=>Value.slice (some ⟨g,0,none⟩) x cap) q2.symm,?_,(Le.to e_1)⟩;have hf:=r0_1;obtain ⟨X,hX⟩:∃X:List Dt.Dot,X=c.take m++List.replicate (l.length-m) ((0,0):Dt.Dot):=⟨_,rfl⟩
   have hx:X.length=l.length:=by rw[hX];simp;omega
   rw[<-hX,<-hx] at hf;replace hf:=hf.first (k:=m) (by rw[hx];omega)
   rw[hX,List.take_append_of_le_length (by simp;omega),List.take_take,Nat.min_self,q1] at hf;exact hf)
end Go.Proofs.YtlgjaminfabchaaGreatDoor
end
section
namespace Go.Proofs
open Go.Shelf
def Tryz.sortF_ren:Go.Shelf.Ren:=⟨λ|6=>115|15=>86|14=>160|28=>138|29=>139|20=>195|21=>196|22=>197|23=>198|24=>199|25=>200|26=>201|27=>202|46=>217|47=>168|48=>169|49=>218|50=>219|57=>224|n=>n,λ|22=>48|24=>119|25=>156|3=>3|39=>83|0=>0|53=>192|55=>26|4=>4|46=>186|45=>185|50=>106|5=>5|9=>9|66=>217|70=>221|76=>249|77=>250|n=>n,λ|n=>n⟩
theorem Tryz.sortF:Go.Proofs.SlLaysF0.n6 Tryz.prog Tryz.sortF_ren:={
 mixed:=by kernel_rfl
 f6:=⟨Tryz.f115.name,by decide,Tryz.func115.trans (congrArg some (by kernel_rfl))⟩
 f14:=⟨Tryz.f160.name,by decide,Tryz.func160.trans (congrArg some (by kernel_rfl))⟩
 f15:=Tryz.func86.trans (congrArg some (by kernel_rfl))
 f20:=⟨Tryz.f195.name,by decide,Tryz.func195.trans (congrArg some (by kernel_rfl))⟩
 f21:=⟨Tryz.f196.name,by decide,Tryz.func196.trans (congrArg some (by kernel_rfl))⟩
 f22:=⟨Tryz.f197.name,by decide,Tryz.func197.trans (congrArg some (by kernel_rfl))⟩
 f23:=⟨Tryz.f198.name,by decide,Tryz.func198.trans (congrArg some (by kernel_rfl))⟩
 f24:=⟨Tryz.f199.name,by decide,Tryz.func199.trans (congrArg some (by kernel_rfl))⟩
 f25:=⟨Tryz.f200.name,by decide,Tryz.func200.trans (congrArg some (by kernel_rfl))⟩
 f26:=⟨Tryz.f201.name,by decide,Tryz.func201.trans (congrArg some (by kernel_rfl))⟩
 f27:=⟨Tryz.f202.name,by decide,Tryz.func202.trans (congrArg some (by kernel_rfl))⟩
 f28:=Tryz.func138.trans (congrArg some (by kernel_rfl))
 f29:=Tryz.func139.trans (congrArg some (by kernel_rfl))
 f46:=⟨Tryz.f217.name,by decide,Tryz.func217.trans (congrArg some (by kernel_rfl))⟩
 f47:=Tryz.func168.trans (congrArg some (by kernel_rfl))
 f48:=Tryz.func169.trans (congrArg some (by kernel_rfl))
 f49:=⟨Tryz.f218.name,by decide,Tryz.func218.trans (congrArg some (by kernel_rfl))⟩
 f50:=⟨Tryz.f219.name,by decide,Tryz.func219.trans (congrArg some (by kernel_rfl))⟩
 f57:=⟨Tryz.f224.name,by decide,Tryz.func224.trans (congrArg some (by kernel_rfl))⟩
 t0:=Tryz.underlying0
 a0:=Tryz.isAgg0
 z0:=Tryz.sizeOf0
 v0:=Tryz.zeroValue0
 t3:=U3
 a3:=Tryz.isAgg3
 z3:=Z3
 v3:=Tryz.zeroValue3
 t4:=Tryz.underlying4
 a4:=Tryz.isAgg4
 z4:=Tryz.sizeOf4
 v4:=Tryz.zeroValue4
 t5:=U5
 a5:=Tryz.isAgg5
 z5:=Z5
 v5:=Tryz.zeroValue5
 t9:=U9
 a9:=Tryz.isAgg9
 z9:=Z9
 v9:=Tryz.zeroValue9
 t22:=U48
 a22:=Tryz.isAgg48
 z22:=Z48
 v22:=Tryz.zeroValue48
 t25:=Tryz.underlying156
 a25:=Tryz.isAgg156
 z25:=Tryz.sizeOf156
 v25:=Tryz.zeroValue156
 t39:=U83
 a39:=Tryz.isAgg83
 z39:=Tryz.sizeOf83
 v39:=Tryz.zeroValue83
 t45:=Tryz.underlying185
 a45:=Tryz.isAgg185
 z45:=Tryz.sizeOf185
 v45:=Tryz.zeroValue185
 t46:=Tryz.underlying186
 a46:=Tryz.isAgg186
 z46:=Tryz.sizeOf186
 v46:=Tryz.zeroValue186
 t50:=Tryz.underlying106
 a50:=Tryz.isAgg106
 z50:=Tryz.sizeOf106
 v50:=Tryz.zeroValue106
 t53:=Tryz.underlying192
 a53:=Tryz.isAgg192
 z53:=Tryz.sizeOf192
 v53:=Tryz.zeroValue192
 t55:=U26
 a55:=Tryz.isAgg26
 z55:=Z26
 v55:=Tryz.zeroValue26
 t66:=Tryz.underlying217
 a66:=Tryz.isAgg217
 z66:=Tryz.sizeOf217
 v66:=Tryz.zeroValue217
 t70:=Tryz.underlying221
 a70:=Tryz.isAgg221
 z70:=Tryz.sizeOf221
 v70:=Tryz.zeroValue221
 t76:=Tryz.underlying249
 a76:=Tryz.isAgg249
 z76:=Tryz.sizeOf249
 v76:=Tryz.zeroValue249
 t77:=Tryz.underlying250
 a77:=Tryz.isAgg250
 z77:=Tryz.sizeOf250
 v77:=Tryz.zeroValue250}
def Tryz.sortM_ren:Go.Shelf.Ren:=⟨λ|6=>92|15=>86|14=>149|28=>138|29=>139|20=>177|21=>178|22=>179|23=>180|24=>181|25=>182|26=>183|27=>184|46=>210|47=>168|48=>169|49=>211|50=>212|57=>220|n=>n,λ|22=>74|24=>155|25=>157|3=>3|39=>83|0=>0|53=>192|55=>26|4=>4|46=>186|45=>185|50=>106|5=>5|9=>9|66=>217|70=>221|76=>249|77=>250|n=>n,λ|n=>n⟩
theorem Tryz.sortM:Go.Proofs.SlLaysF0.n6 Tryz.prog Tryz.sortM_ren:={
 mixed:=by kernel_rfl
 f6:=⟨Tryz.f92.name,by decide,Tryz.func92.trans (congrArg some (by kernel_rfl))⟩
 f14:=⟨Tryz.f149.name,by decide,Tryz.func149.trans (congrArg some (by kernel_rfl))⟩
 f15:=Tryz.func86.trans (congrArg some (by kernel_rfl))
 f20:=⟨Tryz.f177.name,by decide,Tryz.func177.trans (congrArg some (by kernel_rfl))⟩
 f21:=⟨Tryz.f178.name,by decide,Tryz.func178.trans (congrArg some (by kernel_rfl))⟩
 f22:=⟨Tryz.f179.name,by decide,Tryz.func179.trans (congrArg some (by kernel_rfl))⟩
 f23:=⟨Tryz.f180.name,by decide,Tryz.func180.trans (congrArg some (by kernel_rfl))⟩
 f24:=⟨Tryz.f181.name,by decide,Tryz.func181.trans (congrArg some (by kernel_rfl))⟩
 f25:=⟨Tryz.f182.name,by decide,Tryz.func182.trans (congrArg some (by kernel_rfl))⟩
 f26:=⟨Tryz.f183.name,by decide,Tryz.func183.trans (congrArg some (by kernel_rfl))⟩
 f27:=⟨Tryz.f184.name,by decide,Tryz.func184.trans (congrArg some (by kernel_rfl))⟩
 f28:=Tryz.func138.trans (congrArg some (by kernel_rfl))
 f29:=Tryz.func139.trans (congrArg some (by kernel_rfl))
 f46:=⟨Tryz.f210.name,by decide,Tryz.func210.trans (congrArg some (by kernel_rfl))⟩
 f47:=Tryz.func168.trans (congrArg some (by kernel_rfl))
 f48:=Tryz.func169.trans (congrArg some (by kernel_rfl))
 f49:=⟨Tryz.f211.name,by decide,Tryz.func211.trans (congrArg some (by kernel_rfl))⟩
 f50:=⟨Tryz.f212.name,by decide,Tryz.func212.trans (congrArg some (by kernel_rfl))⟩
 f57:=⟨Tryz.f220.name,by decide,Tryz.func220.trans (congrArg some (by kernel_rfl))⟩
 t0:=Tryz.underlying0
 a0:=Tryz.isAgg0
 z0:=Tryz.sizeOf0
 v0:=Tryz.zeroValue0
 t3:=U3
 a3:=Tryz.isAgg3
 z3:=Z3
 v3:=Tryz.zeroValue3
 t4:=Tryz.underlying4
 a4:=Tryz.isAgg4
 z4:=Tryz.sizeOf4
 v4:=Tryz.zeroValue4
 t5:=U5
 a5:=Tryz.isAgg5
 z5:=Z5
 v5:=Tryz.zeroValue5
 t9:=U9
 a9:=Tryz.isAgg9
 z9:=Z9
 v9:=Tryz.zeroValue9
 t22:=U74
 a22:=Tryz.isAgg74
 z22:=Z74
 v22:=Tryz.zeroValue74
 t25:=Tryz.underlying157
 a25:=Tryz.isAgg157
 z25:=Tryz.sizeOf157
 v25:=Tryz.zeroValue157
 t39:=U83
 a39:=Tryz.isAgg83
 z39:=Tryz.sizeOf83
 v39:=Tryz.zeroValue83
 t45:=Tryz.underlying185
 a45:=Tryz.isAgg185
 z45:=Tryz.sizeOf185
 v45:=Tryz.zeroValue185
 t46:=Tryz.underlying186
 a46:=Tryz.isAgg186
 z46:=Tryz.sizeOf186
 v46:=Tryz.zeroValue186
 t50:=Tryz.underlying106
 a50:=Tryz.isAgg106
 z50:=Tryz.sizeOf106
 v50:=Tryz.zeroValue106
 t53:=Tryz.underlying192
 a53:=Tryz.isAgg192
 z53:=Tryz.sizeOf192
 v53:=Tryz.zeroValue192
 t55:=U26
 a55:=Tryz.isAgg26
 z55:=Z26
 v55:=Tryz.zeroValue26
 t66:=Tryz.underlying217
 a66:=Tryz.isAgg217
 z66:=Tryz.sizeOf217
 v66:=Tryz.zeroValue217
 t70:=Tryz.underlying221
 a70:=Tryz.isAgg221
 z70:=Tryz.sizeOf221
 v70:=Tryz.zeroValue221
 t76:=Tryz.underlying249
 a76:=Tryz.isAgg249
 z76:=Tryz.sizeOf249
 v76:=Tryz.zeroValue249
 t77:=Tryz.underlying250
 a77:=Tryz.isAgg250
 z77:=Tryz.sizeOf250
 v77:=Tryz.zeroValue250}
def Tryz.sortS_ren:Go.Shelf.Ren:=⟨λ|6=>57|15=>86|14=>85|28=>138|29=>139|20=>130|21=>131|22=>132|23=>133|24=>134|25=>135|26=>136|27=>137|46=>167|47=>168|48=>169|49=>170|50=>171|57=>206|n=>n,λ|22=>45|24=>9|25=>108|3=>3|39=>83|0=>0|53=>192|55=>26|4=>4|46=>186|45=>185|50=>106|5=>5|9=>9|66=>217|70=>221|76=>249|77=>250|n=>n,λ|n=>n⟩
theorem Tryz.sortS:Go.Proofs.SlLaysF.n6 Tryz.prog Tryz.sortS_ren:={
 mixed:=by kernel_rfl
 f6:=⟨Tryz.f57.name,by decide,Tryz.func57.trans (congrArg some (by kernel_rfl))⟩
 f14:=⟨Tryz.f85.name,by decide,Tryz.func85.trans (congrArg some (by kernel_rfl))⟩
 f15:=Tryz.func86.trans (congrArg some (by kernel_rfl))
 f20:=⟨Tryz.f130.name,by decide,Tryz.func130.trans (congrArg some (by kernel_rfl))⟩
 f21:=⟨Tryz.f131.name,by decide,Tryz.func131.trans (congrArg some (by kernel_rfl))⟩
 f22:=⟨Tryz.f132.name,by decide,Tryz.func132.trans (congrArg some (by kernel_rfl))⟩
 f23:=⟨Tryz.f133.name,by decide,Tryz.func133.trans (congrArg some (by kernel_rfl))⟩
 f24:=⟨Tryz.f134.name,by decide,Tryz.func134.trans (congrArg some (by kernel_rfl))⟩
 f25:=⟨Tryz.f135.name,by decide,Tryz.func135.trans (congrArg some (by kernel_rfl))⟩
 f26:=⟨Tryz.f136.name,by decide,Tryz.func136.trans (congrArg some (by kernel_rfl))⟩
 f27:=⟨Tryz.f137.name,by decide,Tryz.func137.trans (congrArg some (by kernel_rfl))⟩
 f28:=Tryz.func138.trans (congrArg some (by kernel_rfl))
 f29:=Tryz.func139.trans (congrArg some (by kernel_rfl))
 f46:=⟨Tryz.f167.name,by decide,Tryz.func167.trans (congrArg some (by kernel_rfl))⟩
 f47:=Tryz.func168.trans (congrArg some (by kernel_rfl))
 f48:=Tryz.func169.trans (congrArg some (by kernel_rfl))
 f49:=⟨Tryz.f170.name,by decide,Tryz.func170.trans (congrArg some (by kernel_rfl))⟩
 f50:=⟨Tryz.f171.name,by decide,Tryz.func171.trans (congrArg some (by kernel_rfl))⟩
 f57:=⟨Tryz.f206.name,by decide,Tryz.func206.trans (congrArg some (by kernel_rfl))⟩
 t0:=Tryz.underlying0
 a0:=Tryz.isAgg0
 z0:=Tryz.sizeOf0
 v0:=Tryz.zeroValue0
 t3:=U3
 a3:=Tryz.isAgg3
 z3:=Z3
 v3:=Tryz.zeroValue3
 t4:=Tryz.underlying4
 a4:=Tryz.isAgg4
 z4:=Tryz.sizeOf4
 v4:=Tryz.zeroValue4
 t5:=U5
 a5:=Tryz.isAgg5
 z5:=Z5
 v5:=Tryz.zeroValue5
 t9:=U9
 a9:=Tryz.isAgg9
 z9:=Z9
 v9:=Tryz.zeroValue9
 t22:=U45
 a22:=Tryz.isAgg45
 z22:=Tryz.sizeOf45
 v22:=Tryz.zeroValue45
 a24:=Tryz.isAgg9
 z24:=Z9
 t25:=Tryz.underlying108
 a25:=Tryz.isAgg108
 z25:=Tryz.sizeOf108
 v25:=Tryz.zeroValue108
 t39:=U83
 a39:=Tryz.isAgg83
 z39:=Tryz.sizeOf83
 v39:=Tryz.zeroValue83
 t45:=Tryz.underlying185
 a45:=Tryz.isAgg185
 z45:=Tryz.sizeOf185
 v45:=Tryz.zeroValue185
 t46:=Tryz.underlying186
 a46:=Tryz.isAgg186
 z46:=Tryz.sizeOf186
 v46:=Tryz.zeroValue186
 t50:=Tryz.underlying106
 a50:=Tryz.isAgg106
 z50:=Tryz.sizeOf106
 v50:=Tryz.zeroValue106
 t53:=Tryz.underlying192
 a53:=Tryz.isAgg192
 z53:=Tryz.sizeOf192
 v53:=Tryz.zeroValue192
 t55:=U26
 a55:=Tryz.isAgg26
 z55:=Z26
 v55:=Tryz.zeroValue26
 t66:=Tryz.underlying217
 a66:=Tryz.isAgg217
 z66:=Tryz.sizeOf217
 v66:=Tryz.zeroValue217
 t70:=Tryz.underlying221
 a70:=Tryz.isAgg221
 z70:=Tryz.sizeOf221
 v70:=Tryz.zeroValue221
 t76:=Tryz.underlying249
 a76:=Tryz.isAgg249
 z76:=Tryz.sizeOf249
 v76:=Tryz.zeroValue249
 t77:=Tryz.underlying250
 a77:=Tryz.isAgg250
 z77:=Tryz.sizeOf250
 v77:=Tryz.zeroValue250}
def Tryz.sortP_ren:Go.Shelf.Ren:=⟨λ|14=>160|20=>195|21=>196|22=>197|23=>198|24=>199|25=>200|26=>201|27=>202|46=>217|47=>168|48=>169|49=>218|50=>219|15=>86|57=>224|28=>138|29=>139|n=>n,λ|24=>119|22=>48|3=>3|25=>156|4=>4|0=>0|46=>186|45=>185|50=>106|66=>217|39=>83|55=>26|70=>221|76=>249|77=>250|53=>192|5=>5|9=>9|n=>n,λ|n=>n⟩
theorem Tryz.sortP:Go.Proofs.SlLaysF0.n14 Tryz.prog Tryz.sortP_ren:={
 mixed:=by kernel_rfl
 f14:=⟨Tryz.f160.name,by decide,Tryz.func160.trans (congrArg some (by kernel_rfl))⟩
 f15:=Tryz.func86.trans (congrArg some (by kernel_rfl))
 f20:=⟨Tryz.f195.name,by decide,Tryz.func195.trans (congrArg some (by kernel_rfl))⟩
 f21:=⟨Tryz.f196.name,by decide,Tryz.func196.trans (congrArg some (by kernel_rfl))⟩
 f22:=⟨Tryz.f197.name,by decide,Tryz.func197.trans (congrArg some (by kernel_rfl))⟩
 f23:=⟨Tryz.f198.name,by decide,Tryz.func198.trans (congrArg some (by kernel_rfl))⟩
 f24:=⟨Tryz.f199.name,by decide,Tryz.func199.trans (congrArg some (by kernel_rfl))⟩
 f25:=⟨Tryz.f200.name,by decide,Tryz.func200.trans (congrArg some (by kernel_rfl))⟩
 f26:=⟨Tryz.f201.name,by decide,Tryz.func201.trans (congrArg some (by kernel_rfl))⟩
 f27:=⟨Tryz.f202.name,by decide,Tryz.func202.trans (congrArg some (by kernel_rfl))⟩
 f28:=Tryz.func138.trans (congrArg some (by kernel_rfl))
 f29:=Tryz.func139.trans (congrArg some (by kernel_rfl))
 f46:=⟨Tryz.f217.name,by decide,Tryz.func217.trans (congrArg some (by kernel_rfl))⟩
 f47:=Tryz.func168.trans (congrArg some (by kernel_rfl))
 f48:=Tryz.func169.trans (congrArg some (by kernel_rfl))
 f49:=⟨Tryz.f218.name,by decide,Tryz.func218.trans (congrArg some (by kernel_rfl))⟩
 f50:=⟨Tryz.f219.name,by decide,Tryz.func219.trans (congrArg some (by kernel_rfl))⟩
 f57:=⟨Tryz.f224.name,by decide,Tryz.func224.trans (congrArg some (by kernel_rfl))⟩
 t0:=Tryz.underlying0
 a0:=Tryz.isAgg0
 z0:=Tryz.sizeOf0
 v0:=Tryz.zeroValue0
 t3:=U3
 a3:=Tryz.isAgg3
 z3:=Z3
 v3:=Tryz.zeroValue3
 t4:=Tryz.underlying4
 a4:=Tryz.isAgg4
 z4:=Tryz.sizeOf4
 v4:=Tryz.zeroValue4
 t5:=U5
 a5:=Tryz.isAgg5
 z5:=Z5
 v5:=Tryz.zeroValue5
 t9:=U9
 a9:=Tryz.isAgg9
 z9:=Z9
 v9:=Tryz.zeroValue9
 t22:=U48
 a22:=Tryz.isAgg48
 z22:=Z48
 v22:=Tryz.zeroValue48
 t25:=Tryz.underlying156
 a25:=Tryz.isAgg156
 z25:=Tryz.sizeOf156
 v25:=Tryz.zeroValue156
 t39:=U83
 a39:=Tryz.isAgg83
 z39:=Tryz.sizeOf83
 v39:=Tryz.zeroValue83
 t45:=Tryz.underlying185
 a45:=Tryz.isAgg185
 z45:=Tryz.sizeOf185
 v45:=Tryz.zeroValue185
 t46:=Tryz.underlying186
 a46:=Tryz.isAgg186
 z46:=Tryz.sizeOf186
 v46:=Tryz.zeroValue186
 t50:=Tryz.underlying106
 a50:=Tryz.isAgg106
 z50:=Tryz.sizeOf106
 v50:=Tryz.zeroValue106
 t53:=Tryz.underlying192
 a53:=Tryz.isAgg192
 z53:=Tryz.sizeOf192
 v53:=Tryz.zeroValue192
 t55:=U26
 a55:=Tryz.isAgg26
 z55:=Z26
 v55:=Tryz.zeroValue26
 t66:=Tryz.underlying217
 a66:=Tryz.isAgg217
 z66:=Tryz.sizeOf217
 v66:=Tryz.zeroValue217
 t70:=Tryz.underlying221
 a70:=Tryz.isAgg221
 z70:=Tryz.sizeOf221
 v70:=Tryz.zeroValue221
 t76:=Tryz.underlying249
 a76:=Tryz.isAgg249
 z76:=Tryz.sizeOf249
 v76:=Tryz.zeroValue249
 t77:=Tryz.underlying250
 a77:=Tryz.isAgg250
 z77:=Tryz.sizeOf250
 v77:=Tryz.zeroValue250}
end Go.Proofs
end
section
namespace Go.Proofs
open Go.Shelf
def Tryz.lays160_ren:Go.Shelf.Ren:=⟨λ|160=>157|232=>188|231=>187|227=>189|234=>191|233=>190|236=>193|235=>192|228=>213|271=>215|151=>50|197=>214|120=>222|152=>83|260=>221|137=>126|119=>127|224=>128|225=>129|217=>166|266=>205|n=>n,λ|9=>9|4=>4|3=>3|5=>5|117=>238|116=>237|0=>0|124=>241|21=>21|105=>257|46=>83|119=>263|139=>266|138=>265|n=>n,λ|3=>2|4=>3|n=>n⟩
theorem Tryz.lays160:Go.Proofs.Lays.n160 Tryz.prog Tryz.lays160_ren:={
 mixed:=by kernel_rfl
 f119:=Tryz.func127.trans (congrArg some (by kernel_rfl))
 f120:=Tryz.func222.trans (congrArg some (by kernel_rfl))
 f137:=Tryz.func126.trans (congrArg some (by kernel_rfl))
 f151:=Tryz.func50.trans (congrArg some (by kernel_rfl))
 f152:=Tryz.func83.trans (congrArg some (by kernel_rfl))
 f160:=Tryz.func157.trans (congrArg some (by kernel_rfl))
 f197:=Tryz.func214.trans (congrArg some (by kernel_rfl))
 f217:=Tryz.func166.trans (congrArg some (by kernel_rfl))
 f224:=Tryz.func128.trans (congrArg some (by kernel_rfl))
 f225:=Tryz.func129.trans (congrArg some (by kernel_rfl))
 f227:=Tryz.func189.trans (congrArg some (by kernel_rfl))
 f228:=Tryz.func213.trans (congrArg some (by kernel_rfl))
 f231:=Tryz.func187.trans (congrArg some (by kernel_rfl))
 f232:=Tryz.func188.trans (congrArg some (by kernel_rfl))
 f233:=Tryz.func190.trans (congrArg some (by kernel_rfl))
 f234:=Tryz.func191.trans (congrArg some (by kernel_rfl))
 f235:=Tryz.func192.trans (congrArg some (by kernel_rfl))
 f236:=Tryz.func193.trans (congrArg some (by kernel_rfl))
 f260:=Tryz.func221.trans (congrArg some (by kernel_rfl))
 f266:=Tryz.func205.trans (congrArg some (by kernel_rfl))
 f271:=Tryz.func215.trans (congrArg some (by kernel_rfl))
 t0:=Tryz.underlying0
 a0:=Tryz.isAgg0
 z0:=Tryz.sizeOf0
 v0:=Tryz.zeroValue0
 t3:=U3
 a3:=Tryz.isAgg3
 z3:=Z3
 v3:=Tryz.zeroValue3
 t4:=Tryz.underlying4
 a4:=Tryz.isAgg4
 z4:=Tryz.sizeOf4
 v4:=Tryz.zeroValue4
 t5:=U5
 a5:=Tryz.isAgg5
 z5:=Z5
 v5:=Tryz.zeroValue5
 t9:=U9
 a9:=Tryz.isAgg9
 z9:=Z9
 v9:=Tryz.zeroValue9
 t21:=Tryz.underlying21
 a21:=Tryz.isAgg21
 z21:=Tryz.sizeOf21
 v21:=Tryz.zeroValue21
 t46:=U83
 a46:=Tryz.isAgg83
 z46:=Tryz.sizeOf83
 v46:=Tryz.zeroValue83
 t105:=Tryz.underlying257
 a105:=Tryz.isAgg257
 z105:=Tryz.sizeOf257
 v105:=Tryz.zeroValue257
 t116:=Tryz.underlying237
 a116:=Tryz.isAgg237
 z116:=Tryz.sizeOf237
 t117:=Tryz.underlying238
 a117:=Tryz.isAgg238
 z117:=Tryz.sizeOf238
 v117:=Tryz.zeroValue238
 t119:=Tryz.underlying263
 a119:=Tryz.isAgg263
 z119:=Tryz.sizeOf263
 t124:=Tryz.underlying241
 a124:=Tryz.isAgg241
 z124:=Tryz.sizeOf241
 v124:=Tryz.zeroValue241
 t138:=Tryz.underlying265
 a138:=Tryz.isAgg265
 z138:=Tryz.sizeOf265
 v138:=Tryz.zeroValue265
 t139:=Tryz.underlying266
 a139:=Tryz.isAgg266
 z139:=Tryz.sizeOf266
 v139:=Tryz.zeroValue266
 g3:=by kernel_rfl
 g4:=by kernel_rfl}
open Go.RowKit in
theorem Tryz.strings_Trim_one (s:ByteArray)(c:UInt8)(hc:c.toNat<128)(w:World)(hs:s.size<=9223372036854775807):
 Calls Tryz.prog 157 #[.string s,.string ⟨#[c]⟩] w λe w'=>e=.returned (.string ⟨(Lib.trimB s.data.toList c).toArray⟩)∧(w'=w∨w'=w.drew):=Any.strings_Trim_one Tryz.lays160 s c hc w hs
def Tryz.lays125_ren:Go.Shelf.Ren:=⟨λ|125=>86|128=>138|129=>139|n=>n,λ|46=>83|3=>3|51=>192|53=>26|4=>4|5=>5|9=>9|n=>n,λ|n=>n⟩
theorem Tryz.lays125:Go.Proofs.Lays.n125 Tryz.prog Tryz.lays125_ren:={
 mixed:=by kernel_rfl
 f125:=Tryz.func86.trans (congrArg some (by kernel_rfl))
 f128:=Tryz.func138.trans (congrArg some (by kernel_rfl))
 f129:=Tryz.func139.trans (congrArg some (by kernel_rfl))
 t3:=U3
 a3:=Tryz.isAgg3
 z3:=Z3
 v3:=Tryz.zeroValue3
 t4:=Tryz.underlying4
 a4:=Tryz.isAgg4
 z4:=Tryz.sizeOf4
 v4:=Tryz.zeroValue4
 t5:=U5
 a5:=Tryz.isAgg5
 z5:=Z5
 v5:=Tryz.zeroValue5
 t9:=U9
 a9:=Tryz.isAgg9
 z9:=Z9
 v9:=Tryz.zeroValue9
 t46:=U83
 a46:=Tryz.isAgg83
 z46:=Tryz.sizeOf83
 v46:=Tryz.zeroValue83
 t51:=Tryz.underlying192
 a51:=Tryz.isAgg192
 z51:=Tryz.sizeOf192
 v51:=Tryz.zeroValue192
 t53:=U26
 a53:=Tryz.isAgg26
 z53:=Z26
 v53:=Tryz.zeroValue26}
theorem Tryz.bits_Len (x:Int)(w:World)(h0:0<=x)(h1:x<=18446744073709551615):
 Calls Tryz.prog 86 #[.int .u64 x] w λe w'=>e=.returned (.int .i64 (Lib.bitLen x.toNat))∧w'=w:=Any.bits_Len Tryz.lays125 x w h0 h1
def Tryz.lays144_ren:Go.Shelf.Ren:=⟨λ|144=>158|143=>194|219=>216|217=>166|225=>129|224=>128|267=>223|266=>205|314=>225|n=>n,λ|9=>9|4=>4|3=>3|5=>5|46=>83|146=>267|51=>192|n=>n,λ|1=>1|n=>n⟩
theorem Tryz.lays144:Go.Proofs.Lays.n144 Tryz.prog Tryz.lays144_ren:={
 mixed:=by kernel_rfl
 f143:=Tryz.func194.trans (congrArg some (by kernel_rfl))
 f144:=Tryz.func158.trans (congrArg some (by kernel_rfl))
 f217:=Tryz.func166.trans (congrArg some (by kernel_rfl))
 f219:=Tryz.func216.trans (congrArg some (by kernel_rfl))
 f224:=Tryz.func128.trans (congrArg some (by kernel_rfl))
 f225:=Tryz.func129.trans (congrArg some (by kernel_rfl))
 f266:=Tryz.func205.trans (congrArg some (by kernel_rfl))
 f267:=Tryz.func223.trans (congrArg some (by kernel_rfl))
 f314:=Tryz.func225.trans (congrArg some (by kernel_rfl))
 t3:=U3
 a3:=Tryz.isAgg3
 z3:=Z3
 v3:=Tryz.zeroValue3
 t4:=Tryz.underlying4
 a4:=Tryz.isAgg4
 z4:=Tryz.sizeOf4
 v4:=Tryz.zeroValue4
 t5:=U5
 a5:=Tryz.isAgg5
 z5:=Z5
 v5:=Tryz.zeroValue5
 t9:=U9
 a9:=Tryz.isAgg9
 z9:=Z9
 v9:=Tryz.zeroValue9
 t46:=U83
 a46:=Tryz.isAgg83
 z46:=Tryz.sizeOf83
 v46:=Tryz.zeroValue83
 t51:=Tryz.underlying192
 a51:=Tryz.isAgg192
 z51:=Tryz.sizeOf192
 v51:=Tryz.zeroValue192
 t146:=Tryz.underlying267
 a146:=Tryz.isAgg267
 z146:=Tryz.sizeOf267
 v146:=Tryz.zeroValue267
 g1:=by kernel_rfl}
open Go.RowKit Go.Lib in
theorem Tryz.strings_Contains (s sub:ByteArray)(m:Int)(w:World)(hs:s.size<4294967281)(hm:w.cell? ⟨1,0,none⟩=some (.int .i64 m)):
 Calls Tryz.prog 158 #[.string s,.string sub] w λe w'=>e=.returned (.bool (Lib.contains s.data.toList sub.data.toList))∧w'=w:=Any.strings_Contains Tryz.lays144 s sub m w hs hm
def Tryz.laysM144_ren:Go.Shelf.Ren:=⟨λ|144=>158|143=>194|219=>216|217=>166|225=>129|224=>128|267=>223|266=>205|314=>225|n=>n,λ|9=>9|4=>4|3=>3|5=>5|46=>83|146=>267|51=>192|n=>n,λ|1=>1|n=>n⟩
theorem Tryz.laysM144:Go.Proofs.LaysM.n144 Tryz.prog Tryz.laysM144_ren:={
 mixed:=by kernel_rfl
 f143:=Tryz.func194.trans (congrArg some (by kernel_rfl))
 f144:=Tryz.func158.trans (congrArg some (by kernel_rfl))
 f217:=Tryz.func166.trans (congrArg some (by kernel_rfl))
 f219:=Tryz.func216.trans (congrArg some (by kernel_rfl))
 f224:=Tryz.func128.trans (congrArg some (by kernel_rfl))
 f225:=Tryz.func129.trans (congrArg some (by kernel_rfl))
 f266:=Tryz.func205.trans (congrArg some (by kernel_rfl))
 f267:=Tryz.func223.trans (congrArg some (by kernel_rfl))
 f314:=Tryz.func225.trans (congrArg some (by kernel_rfl))
 t3:=U3
 a3:=Tryz.isAgg3
 z3:=Z3
 v3:=Tryz.zeroValue3
 t4:=Tryz.underlying4
 a4:=Tryz.isAgg4
 z4:=Tryz.sizeOf4
 v4:=Tryz.zeroValue4
 t5:=U5
 a5:=Tryz.isAgg5
 z5:=Z5
 v5:=Tryz.zeroValue5
 t9:=U9
 a9:=Tryz.isAgg9
 z9:=Z9
 v9:=Tryz.zeroValue9
 t46:=U83
 a46:=Tryz.isAgg83
 z46:=Tryz.sizeOf83
 v46:=Tryz.zeroValue83
 t51:=Tryz.underlying192
 a51:=Tryz.isAgg192
 z51:=Tryz.sizeOf192
 v51:=Tryz.zeroValue192
 t146:=Tryz.underlying267
 a146:=Tryz.isAgg267
 z146:=Tryz.sizeOf267
 v146:=Tryz.zeroValue267
 g1:=by kernel_rfl
 i3:=by kernel_rfl
 i4:=by kernel_rfl
 i5:=by kernel_rfl
 i9:=by kernel_rfl
 i46:=by kernel_rfl
 i51:=by kernel_rfl
 i146:=by kernel_rfl
 m1:=by kernel_rfl
 s1_3:=λw h=>Go.Proofs.cell_of_shapedOpen_int (zero:=#[.int .i64 0]) (t:=3) h (of_decide_eq_true (by kernel_rfl)) (by kernel_rfl) rfl (by kernel_rfl) (by kernel_rfl) U3}
def Tryz.lays151_ren:Go.Shelf.Ren:=⟨λ|151=>50|152=>83|137=>126|119=>127|224=>128|225=>129|217=>166|266=>205|n=>n,λ|9=>9|21=>21|4=>4|3=>3|5=>5|0=>0|46=>83|n=>n,λ|n=>n⟩
theorem Tryz.lays151:Go.Proofs.Lays.n151 Tryz.prog Tryz.lays151_ren:={
 mixed:=by kernel_rfl
 f119:=Tryz.func127.trans (congrArg some (by kernel_rfl))
 f137:=Tryz.func126.trans (congrArg some (by kernel_rfl))
 f151:=Tryz.func50.trans (congrArg some (by kernel_rfl))
 f152:=Tryz.func83.trans (congrArg some (by kernel_rfl))
 f217:=Tryz.func166.trans (congrArg some (by kernel_rfl))
 f224:=Tryz.func128.trans (congrArg some (by kernel_rfl))
 f225:=Tryz.func129.trans (congrArg some (by kernel_rfl))
 f266:=Tryz.func205.trans (congrArg some (by kernel_rfl))
 t0:=Tryz.underlying0
 a0:=Tryz.isAgg0
 z0:=Tryz.sizeOf0
 v0:=Tryz.zeroValue0
 t3:=U3
 a3:=Tryz.isAgg3
 z3:=Z3
 v3:=Tryz.zeroValue3
 t4:=Tryz.underlying4
 a4:=Tryz.isAgg4
 z4:=Tryz.sizeOf4
 v4:=Tryz.zeroValue4
 t5:=U5
 a5:=Tryz.isAgg5
 z5:=Z5
 v5:=Tryz.zeroValue5
 t9:=U9
 a9:=Tryz.isAgg9
 z9:=Z9
 v9:=Tryz.zeroValue9
 t21:=Tryz.underlying21
 a21:=Tryz.isAgg21
 z21:=Tryz.sizeOf21
 v21:=Tryz.zeroValue21
 t46:=U83
 a46:=Tryz.isAgg83
 z46:=Tryz.sizeOf83
 v46:=Tryz.zeroValue83}
open Go.RowKit Go.Lib in
theorem Tryz.strings_ContainsRune_ascii (s:ByteArray)(r:Int)(w:World)(h0:0<=r)(h1:r<128):
 Calls Tryz.prog 50 #[.string s,.int .i32 r] w λe w'=>e=.returned (.bool (decide (0<=Lib.indexByte s.data.toList r.toNat.toUInt8)))∧w'=w:=Any.strings_ContainsRune_ascii Tryz.lays151 s r w h0 h1
def Tryz.lays194_ren:Go.Shelf.Ren:=⟨λ|194=>59|n=>n,λ|31=>45|9=>9|3=>3|4=>4|0=>0|n=>n,λ|n=>n⟩
theorem Tryz.lays194:Go.Proofs.Lays.n194 Tryz.prog Tryz.lays194_ren:={
 mixed:=by kernel_rfl
 f194:=Tryz.func59.trans (congrArg some (by kernel_rfl))
 t0:=Tryz.underlying0
 a0:=Tryz.isAgg0
 z0:=Tryz.sizeOf0
 v0:=Tryz.zeroValue0
 t3:=U3
 a3:=Tryz.isAgg3
 z3:=Z3
 v3:=Tryz.zeroValue3
 t4:=Tryz.underlying4
 a4:=Tryz.isAgg4
 z4:=Tryz.sizeOf4
 v4:=Tryz.zeroValue4
 t9:=U9
 a9:=Tryz.isAgg9
 z9:=Z9
 v9:=Tryz.zeroValue9
 t31:=U45
 a31:=Tryz.isAgg45
 z31:=Tryz.sizeOf45
 v31:=Tryz.zeroValue45}
open Go.RowKit Go.Lib Go.Sort in
theorem Tryz.slices_Compact_string_arr (blk off cap:Nat)(d:Array (List UInt8))(w:World)(hH:Holds encStr w blk off d)(hsz:d.size<=9223372036854775807)(hcap:d.size<=cap):
 Calls Tryz.prog 59 #[.slice (some ⟨blk,off,none⟩) d.size cap] w λe w'=>e=.returned (.slice (some ⟨blk,off,none⟩) (compactUpTo d d.size).length cap)∧∃q,w'=putRow encStr (Sort.ahead w q) blk off (compactUpTo d d.size++List.replicate (d.size-(compactUpTo d d.size).length) []).toArray:=Any.slices_Compact_string_arr Tryz.lays194 blk off cap d w hH hsz hcap
open Go.RowKit Go.Lib Go.Sort in
theorem Tryz.slices_Compact_string_empty (a:Option Addr)(cap:Nat)(w:World):
 Calls Tryz.prog 59 #[.slice a 0 cap] w λe w'=>e=.returned (.slice a 0 cap)∧w'=w:=Any.slices_Compact_string_empty Tryz.lays194 a cap w
end Go.Proofs
end
section
namespace Go.Proofs.YtlgjaminfabchaaGreatDoor
open Go.Pn Go.RowKit Go.Proofs _root_.Go.Proofs.Tryz
attribute [local irreducible] O C D
theorem _root_.Go.Pn.OwnF.lst {α:Type}{G:Flat α}{ty:TypeId}{B:Nat}{w:World}{v:Value}{xs ys:List α}(h:OwnF G ty B w v xs)(e:xs=ys):OwnF G ty B w v ys:=e ▸ h
theorem blen_spec (w:World):Ret prog 86 #[.int .u64 ((0#64).toNat:Int)] w (λv w'=>(∃k:Int,v=.int .i64 k)∧w'=w):=by
 refine Ret.of (Tryz.bits_Len 0 w (by decide) (by decide)) ?_;rintro e w' ⟨rfl,rfl⟩;exact ⟨_,rfl,⟨_,rfl⟩,rfl⟩
theorem ins0_spec (w:World):
 Ret prog 195 #[.slice none 0 0,.int .i64 (0),.int .i64 (0),.func (.func 94) #[] #[]] w (λv w'=>v=.tuple #[]∧w'=w):=by
 refine enT [.slice none 0 0,.int .i64 (0),.int .i64 (0),.func (.func 94) #[] #[]] 53 func195 rfl rfl (C.sr λK1=>O.mv (O.ad rfl rfl (O.cast (v':=.int .i64 (1)) rfl (O.j (K1 (C.bl λK2=>C.loop0 (σ:=Nat) (λf0 w0 z f w=>f 8=.int .i64 (1)∧f 0=f0 0∧f 1=f0 1∧f 2=f0 2∧f 3=f0 3∧w=w0) (λz=>z) 0 ?_ ?_))))))
 ·
  exact ⟨rfl,rfl,rfl,rfl,rfl,rfl⟩
 rintro z f_1 wx ⟨s8_1,s0_1,s1_1,s2_1,s3_1,rfl⟩;refine C.sq λK3=>C.sr λK4=>O.mv (O.mv (O.lssI s8_1 s2_1 (O.cast (v':=.bool false) rfl (K4 (C.condF rfl (C.exit (K2 (Outs.none rfl ?_))))))))
 exact ⟨rfl,rfl⟩
theorem pdq0_spec (lim:Int)(w:World):
 Ret prog 160 #[.slice none 0 0,.int .i64 (0),.int .i64 (0),.int .i64 (lim),.func (.func 94) #[] #[]] w (λv w'=>v=.tuple #[]∧w'=w):=by
 refine enT [.slice none 0 0,.int .i64 (0),.int .i64 (0),.int .i64 (lim),.func (.func 94) #[] #[]] 148 func160 rfl rfl (C.sr λK1=>O.j (K1 (C.sr λK2=>O.j (K2 (C.bl λK3=>C.loop0 (σ:=Nat) (λf0 w0 z f w=>f 1=.int .i64 (0)∧f 2=.int .i64 (0)∧f 10=.bool (true)∧f 11=.bool (true)∧f 0=f0 0∧f 4=f0 4∧w=w0) (λz=>z) 0 ?_ ?_)))))
 ·
  exact ⟨rfl,rfl,rfl,rfl,rfl,rfl,rfl⟩
 rintro z f_1 wx ⟨s1_1,s2_1,s10_1,s11_1,s0_1,s4_1,rfl⟩;refine C.bl λK4=>C.sr λK5=>O.mv (O.mv (O.sb s2_1 s1_1 (O.cast (v':=.int .i64 (0)) rfl (O.j (K5 (C.sq λK6=>C.sr λK7=>O.mv (O.leqI rfl rfl (O.cast (v':=.bool true) rfl (K7 (C.condT rfl (C.sr λK8=>O.mv (O.mv (O.mv (O.mv (O.call call195 (args4 s0_1 s1_1 s2_1 s4_1) (ins0_spec _) ?_)))))))))))))))
 rintro v_30 w1 ⟨rfl,hw_⟩;replace hw_:=hw_.symm;subst hw_;refine K8 (C.ret (Outs.none rfl ?_));exact ⟨rfl,rfl⟩
theorem sort0_spec (w:World):
 Ret prog 115 #[.slice none 0 0,.func (.func 94) #[] #[]] w (λv w'=>v=.tuple #[]∧w'=w):=by
 refine enT [.slice none 0 0,.func (.func 94) #[] #[]] 14 func115 rfl rfl (C.sr λK1=>O.mv (O.lenL U48 rfl (O.cast (v':=.int .i64 0) rfl (O.j (K1 (C.region (O.mv (O.mv (O.mv (O.convIU (m':=64) U3 U83 rfl rfl rfl (O.cast (v':=.int .u64 ((0#64).toNat:Int)) rfl (O.call call86 (args1 rfl) (blen_spec _) ?_))))))))))));rintro v_11 w1 ⟨⟨kv11,rfl⟩,rfl⟩;refine O.mv (O.call call160 (args5 rfl rfl rfl rfl rfl) (pdq0_spec _ _) ?_);rintro v_13 w1 ⟨rfl,hw_⟩;replace hw_:=hw_.symm;subst hw_;refine O.o (Outs.none rfl ?_);exact ⟨rfl,rfl⟩
theorem compact0_spec (w:World):
 Ret prog 116 #[.slice none 0 0] w (λv w'=>v=.slice none 0 0∧w'=w):=by
 refine enT [.slice none 0 0] 61 func116 rfl rfl (C.sr λK1=>O.j (K1 (C.sq λK2=>C.sr λK3=>O.mv (O.lenL U48 rfl (O.cast (v':=.int .i64 0) rfl (O.lssI rfl rfl (O.cast (v':=.bool true) rfl (K3 (C.condT rfl (C.sr λK4=>O.mv (O.j (K4 (C.ret (Outs.one rfl rfl ?_))))))))))))));exact ⟨rfl,rfl⟩
theorem swoD:Go.Sort.SWO (ltOf Dt.cmp) where
 irrefl x:=by unfold ltOf;exact dF (λh=>Dt.less_irrefl x ((Dt.cmp_lt x x).1 h))
 trans x y z h1 h2:=by
  unfold ltOf at*;simp only[decide_eq_true_eq,Dt.cmp_lt] at*;exact Dt.less_trans h1 h2
 ntrans x y z h1 h2:=by
  unfold ltOf at*;simp only[decide_eq_false_iff_not,Dt.cmp_lt] at*;intro h;rcases Dt.less_total y z with k|k|k
  ·exact h2 k
  ·subst k;exact h1 h
  ·exact h1 (Dt.less_trans h k)
theorem sortD_spec (v:Value)(l:List Dt.Dot)(B:Nat)(w:World)(h:OwnF Dt.dotF 119 B w v l)(hn:l.length<=1000000000000):
 Ret prog 115 #[v,.func (.func 94) #[] #[]] w (λr w'=>r=.tuple #[]∧(∃l':List Dt.Dot,OwnF Dt.dotF 119 B w' v l'∧l'.Perm l∧l'.Pairwise (λa b=>¬Dt.Less b a))∧Ext (bk v) w w'):=by
 rcases h.1.2 with ⟨rfl,h0⟩|⟨g,cap,cur,rfl,_⟩
 ·obtain rfl:l=[]:=List.eq_nil_of_length_eq_zero h0
  refine (sort0_spec w).mono ?_;rintro e w' ⟨rfl,rfl⟩;exact ⟨rfl,⟨[],h,List.Perm.refl _,List.Pairwise.nil⟩,Ext.L _ _⟩
 ·obtain ⟨hH,hlt⟩:=h.holdsK
  have eg:∀args w,(callFunc 94 args).run prog w=.ok (.enter 94 args) w:=enters_of func94 (by kernel_rfl) rfl;have hcmp:CmpLays prog 94 #[] Dt.dotF.e Dt.dotF.sz Dt.cmp g 0 l.toArray.size w:=λm os dk hs x y=>
   (cmp_spec x y _).calls.mono λe w' hh=>by
     obtain ⟨v,he,hv,hle,hd⟩:=hh;exact ⟨by rw[he,hv],grow_of_le hle hd⟩
  have hs:l.toArray.size<4611686018427387904:=by simp;omega
  have hcon:=AnyQ.slices_SortFunc Tryz.sortF Dt.dotF.sz isAgg119 Z119 Dt.dotF.e Dt.dotF.len Dt.dotF.one Dt.cmp swoD 94 #[] g 0 cap l.toArray w eg hcmp hH hlt hs;refine Ret.of hcon ?_;rintro e w' ⟨rfl,d',m,os,hp,hso,rfl⟩;obtain ⟨hd,_,hperm⟩:=hp;have hd2:d'.size=l.length:=by simpa using hd
  obtain ⟨h1,h2⟩:=h.sortedK hd2 m os;refine ⟨_,rfl,rfl,⟨d'.toList,h1,?_,?_⟩,h2.mono λk _ hk=>hk⟩
  ·have e1:(l.toArray.extract 0 l.toArray.size).toList=l:=by simp
   have e2:(d'.extract 0 l.toArray.size).toList=d'.toList:=by rw[<-hd];simp
   rw[e1,e2] at hperm;exact hperm
  ·rw [List.pairwise_iff_getElem]
   intro i j hi hj hij;have hi2:i<d'.size:=by simpa using hi
   have hj2:j<d'.size:=by simpa using hj
   have h3:=hso i j (Nat.zero_le _) hij (by simpa[hd2] using hj);unfold ltOf at h3;simp only[decide_eq_false_iff_not] at h3;rw[Dt.cmp_lt,getElem!_pos d' i hi2,getElem!_pos d' j hj2] at h3
   simpa using h3
theorem compactD_spec (v:Value)(l:List Dt.Dot)(B:Nat)(w:World)(h:OwnF Dt.dotF 119 B w v l)(hn:l.length<=1000000000000):
 Ret prog 116 #[v] w (λr w'=>OwnF Dt.dotF 119 B w' r (Dt.compact l)∧Ext (bk v) w w'):=by
 rcases h.1.2 with ⟨rfl,h0⟩|⟨g,cap,cur,rfl,_⟩
 ·obtain rfl:l=[]:=List.eq_nil_of_length_eq_zero h0
  refine (compact0_spec w).mono ?_;rintro e w' ⟨rfl,rfl⟩;exact ⟨h,Ext.L _ _⟩
 ·refine (compact_a_spec g cap B l w h hn).mono ?_
  rintro e w' ⟨rfl,h1,h2⟩;exact ⟨h1,h2.mono λk _ hk=>hk⟩
theorem set_spec (v0:Value)(l:List Dt.Dot)(F:Nat->Prop)(w:World)(hl:Sl Dt.dotF.enc w F v0 l)(hn:l.length<=1000000000000):
 Ret prog 74 #[v0] w (λv w'=>Le w w'∧OwnF Dt.dotF 119 w.heap.size w' v (Dt.set l)):=by
 refine enT [v0] 10 func74 rfl rfl (C.sr λK1=>O.j (K1 (C.sr λK2=>O.mv (O.call call64 (args1 rfl) (clone_spec _ _ _ _ hl hn) ?_))));rintro v_5 w1 ⟨e1,h5⟩;have z1:=e1.size;refine O.j (K2 (C.sr λK3=>O.mv (O.call call115 (args2 rfl rfl) (sortD_spec _ _ _ _ h5 hn) ?_)));rintro v_7 w2 ⟨rfl,⟨l7,hs7,hp7,ha7⟩,e2⟩;have z2:=e2.size;refine K3 (C.sr λK4=>O.mv (O.call call116 (args1 rfl) (compactD_spec _ _ _ _ hs7 (by rw[hp7.length_eq];exact hn)) ?_));rintro v_9 w3 ⟨h9,e3⟩;have z3:=e3.size;refine O.j (K4 (C.ret (Outs.one rfl rfl (⟨(Ext.new (Ext.new e1 e2 (by intro i hi h;have:=h5.bk_ge i h;omega)) e3 (by intro i hi h;have:=hs7.bk_ge i h;omega)),?_⟩))));rw[<-Dt.set_of_sorted hp7 ha7];exact h9
structure Mx (w:World):Prop where
 h:∃m:Int,CellIs w 1 (.int .i64 m)
theorem Mx.L {w w':World}(h:Mx w)(e:Le w w'):Mx w':=by obtain ⟨m,hm⟩:=h.h;exact ⟨m,hm.L e⟩
theorem trim_spec (l:List UInt8)(w:World)(hl:l.length<=281474976710656):Ret prog 157 #[str l,str [32]] w (λv w'=>v=str (Lib.trimB l 32)∧Le w w'):=by
 refine Ret.of (Tryz.strings_Trim_one ⟨l.toArray⟩ 32 (by decide) w (by simp[ByteArray.size];omega)) ?_;rintro e w' ⟨rfl,rfl|rfl⟩
 ·exact ⟨_,rfl,rfl,Le.refl _⟩
 ·exact ⟨_,rfl,rfl,Le.drew w⟩
theorem has2_spec (l:List UInt8)(w:World)(hl:l.length<=10000000)(mx:Mx w):Ret prog 158 #[str l,str [32,32]] w (λv w'=>v=.bool (Lib.contains l [32,32])∧Le w w'):=by
 obtain ⟨m,hm⟩:=mx.h;refine Ret.of (Tryz.strings_Contains ⟨l.toArray⟩ ⟨[32,32].toArray⟩ m w (by simp[ByteArray.size];omega) hm) ?_;rintro e w' ⟨rfl,rfl⟩;exact ⟨_,rfl,rfl,Le.refl _⟩
theorem okName_spec (s:List UInt8)(w:World)(hl:s.length<=1000000)(mx:Mx w):
 Ret prog 110 #[str (s)] w (λv w'=>v=.bool (Cn.okName s)∧Le w w'):=by
 refine enT [str (s)] 38 func110 rfl rfl (C.sr λK1=>O.j (K1 (C.sq λK2=>C.sr λK3=>O.mv (O.strB U9 U63 U5 rfl (by unfold maxLen;omega) (λb6 cap6 w1 hb6 hc6 h6 hs6 e1=>?_)))));have z1:=e1.size;refine O.len U63 rfl hs6 (O.mv (K3 (C.bl λK4=>C.loop0 (σ:=Nat) (λf0 w0 k f w=>f 8=.int .i64 (k)∧f 0=f0 0∧f 6=f0 6∧f 7=f0 7∧Le w0 w∧k<=s.length∧∀i,∀h:i<s.length,i<k->Cn.okC s[i]=true) (λk=>s.length-k) 0 ?_ ?_)))
 ·
  refine ⟨rfl,rfl,rfl,rfl,Le.refl _,?_⟩;exact ⟨Nat.zero_le _,λi h k=>absurd k (Nat.not_lt_zero _)⟩
 rintro k f_1 w2 ⟨s8_1,s0_1,s6_1,s7_1,e_1,⟨hk,hI⟩⟩;have z_1:=e_1.size;refine C.sr λK5=>O.lssI s8_1 s7_1 (K5 (C.sq λK6=>C.condD rfl (λc9=>?_) (λc9=>?_)))
 ·
  have hk2:k<s.length:=by omega
  refine C.skip (K6 (C.sq λK7=>C.bl λK8=>C.sr λK9=>O.idx U63 Z5 rfl s6_1 (hs6.L e_1) s8_1 (by omega) (λa10 h10=>O.loadB isAgg5 rfl h10 (O.j (K9 (C.sr λK10=>O.mv (O.lssU (m:=8) (b:=32#8) rfl rfl (O.mv (O.splitD (x:=.tmp 14) rfl (λc14=>?_) (λc14=>?_))))))))))
  ·
   simp only[Int.toNat_natCast] at c14;refine O.no rfl (noB (isT rfl c14) rfl) (O.no rfl (noB (isT rfl c14) rfl) (O.pickT (isT rfl c14) (K10 (C.condT rfl (C.sr λK11=>O.j (K11 (C.ret (Outs.one rfl rfl ?_))))))))
   first
   |exact ⟨cB (Cn.okName_all hk2 (Cn.okC_lo c14)).symm,(Ext.T e1 e_1)⟩
   |exact ⟨cB (Cn.okName_all hk2 (Cn.okC_hi c17)).symm,(Ext.T e1 e_1)⟩
   |(refine ⟨congrArg Value.bool ?_,(Ext.T e1 e_1)⟩
     unfold Cn.okName;rw[hall]
     first
     |(rw[dF (p:=1<=s.length∧s.length<=64) (by omega)];rfl)
     |(rw[dT (p:=1<=s.length∧s.length<=64) (by omega),decide_eq_false c33];rfl)
     |(rw[dT (p:=1<=s.length∧s.length<=64) (by omega),decide_eq_true c33];rfl))
  simp only[Int.toNat_natCast] at c14;refine O.yes rfl (isF rfl c14) (O.mv (O.yes rfl (isF rfl c14) (O.gtrU (m:=8) (b:=126#8) rfl rfl (O.pickF (isF rfl c14) (K10 (C.condD rfl (λc17=>?_) (λc17=>?_)))))))
  ·
   simp only[Int.toNat_natCast] at c17;refine C.sr λK12=>O.j (K12 (C.ret (Outs.one rfl rfl ?_)))
   first
   |exact ⟨cB (Cn.okName_all hk2 (Cn.okC_lo c14)).symm,(Ext.T e1 e_1)⟩
   |exact ⟨cB (Cn.okName_all hk2 (Cn.okC_hi c17)).symm,(Ext.T e1 e_1)⟩
   |(refine ⟨congrArg Value.bool ?_,(Ext.T e1 e_1)⟩
     unfold Cn.okName;rw[hall]
     first
     |(rw[dF (p:=1<=s.length∧s.length<=64) (by omega)];rfl)
     |(rw[dT (p:=1<=s.length∧s.length<=64) (by omega),decide_eq_false c33];rfl)
     |(rw[dT (p:=1<=s.length∧s.length<=64) (by omega),decide_eq_true c33];rfl))
  simp only[Int.toNat_natCast] at c17;refine C.skip (K8 (K7 (C.region (O.ad s8_1 rfl (O.mv (O.o (⟨k+1,⟨rfl,s0_1,s6_1,s7_1,e_1,?_⟩,by first|omega|(simp only[];omega)⟩)))))));refine ⟨by omega,λi hi hik=>?_⟩;rcases Nat.lt_or_eq_of_le (Nat.le_of_lt_succ hik) with h|rfl
  ·exact hI i hi h
  ·exact Cn.okC_ok c14 c17
 have hall:s.all Cn.okC=true:=Cn.all_yes λi hi=>hI i hi (by omega)
 refine C.exit (K4 (K2 (C.sr λK13=>O.mv (O.lenS U9 s0_1 (O.geqI rfl rfl (O.mv (O.cut 4 (λf f'=>f' 26=.bool (decide ((s.length:Int)≥1∧(s.length:Int)<=64))∧f' 0=f 0) ?_ ?_)))))))
 ·
  refine O.splitD (x:=.tmp 22) rfl (λc22=>?_) (λc22=>?_)
  ·
   refine O.yes rfl (isT rfl c22) (O.mv (O.yes rfl (isT rfl c22) (O.lenS U9 s0_1 (O.yes rfl (isT rfl c22) (O.leqI rfl rfl (O.pickT (isT rfl c22) (O.o (⟨⟨?_,rfl⟩,rfl⟩))))))));exact dJ rfl
  refine O.no rfl (noB (isF rfl c22) rfl) (O.no rfl (noB (isF rfl c22) rfl) (O.no rfl (noB (isF rfl c22) rfl) (O.pickF (isF rfl c22) (O.o (⟨⟨?_,rfl⟩,rfl⟩)))));exact dJ rfl
 rintro f_2 ⟨s26_2,s0_2⟩;refine O.mv (O.splitD (x:=.tmp 27) s26_2 (λc27=>?_) (λc27=>?_))
 ·
  refine O.yes rfl (isT s26_2 c27) (O.mv (O.yes rfl (isT s26_2 c27) (O.call call157 (args2 (Eq.trans s0_2 s0_1) rfl) (trim_spec s _ (by omega)) ?_)));rintro v_29 w3 ⟨rfl,e3⟩;have z3:=e3.size;refine O.yes rfl (isT s26_2 c27) (O.mv (O.yes rfl (isT s26_2 c27) (O.eqlS rfl (Eq.trans s0_2 s0_1) (O.pickT (isT s26_2 c27) (O.mv (O.splitD (x:=.tmp 33) rfl (λc33=>?_) (λc33=>?_)))))))
  ·
   refine O.yes rfl (isT rfl c33) (O.mv (O.yes rfl (isT rfl c33) (O.call call158 (args2 (Eq.trans s0_2 s0_1) rfl) (has2_spec s _ (by omega) (((mx.L e1).L e_1).L e3)) ?_)));rintro v_35 w4 ⟨rfl,e4⟩;have z4:=e4.size;refine O.yes rfl (isT rfl c33) (O.not rfl (O.pickT (isT rfl c33) (O.j (K13 (C.ret (Outs.one rfl rfl ?_))))))
   first
   |exact ⟨cB (Cn.okName_all hk2 (Cn.okC_lo c14)).symm,(Ext.T (Ext.T (Ext.T e1 e_1) e3) e4)⟩
   |exact ⟨cB (Cn.okName_all hk2 (Cn.okC_hi c17)).symm,(Ext.T (Ext.T (Ext.T e1 e_1) e3) e4)⟩
   |(refine ⟨congrArg Value.bool ?_,(Ext.T (Ext.T (Ext.T e1 e_1) e3) e4)⟩
     unfold Cn.okName;rw[hall]
     first
     |(rw[dF (p:=1<=s.length∧s.length<=64) (by omega)];rfl)
     |(rw[dT (p:=1<=s.length∧s.length<=64) (by omega),decide_eq_false c33];rfl)
     |(rw[dT (p:=1<=s.length∧s.length<=64) (by omega),decide_eq_true c33];rfl))
  refine O.no rfl (noB (isF rfl c33) rfl) (O.no rfl (noB (isF rfl c33) rfl) (O.no rfl (noB (isF rfl c33) rfl) (O.pickF (isF rfl c33) (O.j (K13 (C.ret (Outs.one rfl rfl ?_)))))))
  first
  |exact ⟨cB (Cn.okName_all hk2 (Cn.okC_lo c14)).symm,(Ext.T (Ext.T e1 e_1) e3)⟩
  |exact ⟨cB (Cn.okName_all hk2 (Cn.okC_hi c17)).symm,(Ext.T (Ext.T e1 e_1) e3)⟩
  |(refine ⟨congrArg Value.bool ?_,(Ext.T (Ext.T e1 e_1) e3)⟩
    unfold Cn.okName;rw[hall]
    first
    |(rw[dF (p:=1<=s.length∧s.length<=64) (by omega)];rfl)
    |(rw[dT (p:=1<=s.length∧s.length<=64) (by omega),decide_eq_false c33];rfl)
    |(rw[dT (p:=1<=s.length∧s.length<=64) (by omega),decide_eq_true c33];rfl))
 refine O.no rfl (noB (isF s26_2 c27) rfl) (O.no rfl (noB (isF s26_2 c27) rfl) (O.no rfl (noB (isF s26_2 c27) rfl) (O.no rfl (noB (isF s26_2 c27) rfl) (O.pickF (isF s26_2 c27) (O.mv (O.no rfl (noB rfl rfl) (O.no rfl (noB rfl rfl) (O.no rfl (noB rfl rfl) (O.pickF rfl (O.j (K13 (C.ret (Outs.one rfl rfl ?_)))))))))))))
 first
 |exact ⟨cB (Cn.okName_all hk2 (Cn.okC_lo c14)).symm,(Ext.T e1 e_1)⟩
 |exact ⟨cB (Cn.okName_all hk2 (Cn.okC_hi c17)).symm,(Ext.T e1 e_1)⟩
 |(refine ⟨congrArg Value.bool ?_,(Ext.T e1 e_1)⟩
   unfold Cn.okName;rw[hall]
   first
   |(rw[dF (p:=1<=s.length∧s.length<=64) (by omega)];rfl)
   |(rw[dT (p:=1<=s.length∧s.length<=64) (by omega),decide_eq_false c33];rfl)
   |(rw[dT (p:=1<=s.length∧s.length<=64) (by omega),decide_eq_true c33];rfl))
theorem badI_spec (x:ItemT)(vm:Value)(F:Nat->Prop)(w:World)(hm:Sl markF.enc w F vm x.2)(q1:x.1.length<=1000000)(q2:x.2.length<=1000000)(mx:Mx w):
 Ret prog 72 #[.agg #[str x.1,vm]] w (λv w'=>v=.bool (Cn.badI x)∧Le w w'):=by
 refine enT [.agg #[str x.1,vm]] 24 func72 rfl rfl (C.sr λK1=>O.box (v:=.agg #[str x.1,vm]) rfl (λb1 w1 hb1 hz1 e1=>?_));have z1:=e1.size;have h1:=hz1.own;have hl1:=h1.lt;refine O.j (K1 (C.sr λK2=>O.fa U76 rfl Z9 rfl (O.loadO isAgg9 rfl h1 rfl (O.call call110 (args1 rfl) (okName_spec x.1 _ q1 (mx.L e1)) ?_))));rintro v_5 w2 ⟨rfl,e2⟩;have z2:=e2.size;refine O.not rfl (O.mv (O.split (x:=.tmp 7) rfl (λc7=>?_) (λc7=>?_)))
 ·
  refine O.no rfl (noB (isT' rfl c7) rfl) (O.no rfl (noB (isT' rfl c7) rfl) (O.no rfl (noB (isT' rfl c7) rfl) (O.no rfl (noB (isT' rfl c7) rfl) (O.pickT (isT' rfl c7) (O.mv (O.no rfl (noB rfl rfl) (O.no rfl (noB rfl rfl) (O.no rfl (noB rfl rfl) (O.no rfl (noB rfl rfl) (O.pickT rfl (O.mv (O.no rfl (noB rfl rfl) (O.no rfl (noB rfl rfl) (O.no rfl (noB rfl rfl) (O.pickT rfl (O.j (K2 (C.ret (Outs.one rfl rfl (⟨congrArg Value.bool ?_,(Ext.T e1 e2)⟩))))))))))))))))))));unfold Cn.badI
  first
  |(rw[c7];rfl)
  |(rw[c7,dT (p:=x.2.length=0) (by omega)];rfl)
  |(rw[c7,dF (p:=x.2.length=0) (by omega),c19];rfl)
 refine O.yes rfl (isF' rfl c7) (O.fa U76 rfl Z74 rfl (O.yes rfl (isF' rfl c7) (O.loadO isAgg74 rfl (h1.L e2) rfl (O.yes rfl (isF' rfl c7) ?_))));have t0:=(hm.L e1).L e2;refine O.len U74 rfl t0 (O.yes rfl (isF' rfl c7) (O.eqlI rfl rfl (O.pickF (isF' rfl c7) (O.mv (O.splitD (x:=.tmp 13) rfl (λc13=>?_) (λc13=>?_))))))
 ·
  refine O.no rfl (noB (isT rfl c13) rfl) (O.no rfl (noB (isT rfl c13) rfl) (O.no rfl (noB (isT rfl c13) rfl) (O.no rfl (noB (isT rfl c13) rfl) (O.pickT (isT rfl c13) (O.mv (O.no rfl (noB rfl rfl) (O.no rfl (noB rfl rfl) (O.no rfl (noB rfl rfl) (O.pickT rfl (O.j (K2 (C.ret (Outs.one rfl rfl (⟨congrArg Value.bool ?_,(Ext.T e1 e2)⟩))))))))))))));unfold Cn.badI
  first
  |(rw[c7];rfl)
  |(rw[c7,dT (p:=x.2.length=0) (by omega)];rfl)
  |(rw[c7,dF (p:=x.2.length=0) (by omega),c19];rfl)
 refine O.yes rfl (isF rfl c13) (O.fa U76 rfl Z74 rfl (O.yes rfl (isF rfl c13) (O.loadO isAgg74 rfl (h1.L e2) rfl (O.yes rfl (isF rfl c13) (O.call call111 (args1 rfl) (isList_spec _ x.2 _ _ t0 q2) ?_)))));rintro v_16 w3 ⟨rfl,e3⟩;have z3:=e3.size;refine O.yes rfl (isF rfl c13) (O.not rfl (O.pickF (isF rfl c13) (O.mv (O.split (x:=.tmp 19) rfl (λc19=>?_) (λc19=>?_)))))
 ·
  refine O.no rfl (noB (isT' rfl c19) rfl) (O.no rfl (noB (isT' rfl c19) rfl) (O.no rfl (noB (isT' rfl c19) rfl) (O.pickT (isT' rfl c19) (O.j (K2 (C.ret (Outs.one rfl rfl (⟨congrArg Value.bool ?_,(Ext.T (Ext.T e1 e2) e3)⟩))))))));unfold Cn.badI
  first
  |(rw[c7];rfl)
  |(rw[c7,dT (p:=x.2.length=0) (by omega)];rfl)
  |(rw[c7,dF (p:=x.2.length=0) (by omega),c19];rfl)
 refine O.yes rfl (isF' rfl c19) (O.fa U76 rfl Z74 rfl (O.yes rfl (isF' rfl c19) (O.loadO isAgg74 rfl ((h1.L e2).L e3) rfl (O.yes rfl (isF' rfl c19) (O.call call112 (args2 rfl rfl) (containsM_spec _ _ _ _ (λ_=>False) Cn.badM _ (t0.L e3) (pred_mbad _ _)) ?_)))));rintro v_22 w4 ⟨rfl,e4⟩;have z4:=e4.size;refine O.pickF (isF' rfl c19) (O.j (K2 (C.ret (Outs.one rfl rfl (⟨congrArg Value.bool ?_,(Ext.T (Ext.T (Ext.T e1 e2) e3) e4)⟩)))));unfold Cn.badI
 first
 |(rw[c7];rfl)
 |(rw[c7,dT (p:=x.2.length=0) (by omega)];rfl)
 |(rw[c7,dF (p:=x.2.length=0) (by omega),c19];rfl)
theorem idots_spec (v0:Value)(l:List ItemT)(F:Nat->Prop)(w:World)(hl:Sl itemE w F v0 l)(hF:∀k,F k->k<w.heap.size)(hn:l.length<=1000000)(hS:∀x∈l,x.1.length<=1000000∧x.2.length<=1000000):
 Ret prog 46 #[v0] w (λv w'=>Le w w'∧OwnF Dt.dotF 119 w.heap.size w' v (Cn.dotsOf l)):=by
 have hle:=hl.le;obtain ⟨ie119,ti119,ts119,tb119,tz119⟩:=inf119;refine enT [v0] 20 func46 rfl rfl (C.sr λK1=>O.j (K1 (C.sr λK2=>O.j (K2 (C.sq λK3=>C.sr λK4=>O.mv (O.len U52 rfl hl (O.mv (K4 (C.bl λK5=>C.loop0 (σ:=Nat×Value) (λf0 w0 ⟨k,o⟩ f wz=>f 3=o∧f 8=.int .i64 (k)∧f 2=f0 2∧f 6=f0 6∧f 7=f0 7∧Le w wz∧OwnF Dt.dotF 119 w.heap.size wz o ((l.take k).flatMap λx=>Cn.mdots x.2)∧k<=l.length) (λ⟨k,o⟩=>l.length-k) (0,.slice none 0 0) ?_ ?_)))))))))
 ·
  refine ⟨rfl,rfl,rfl,rfl,rfl,leR,(OwnF.nil _ _ _ _),?_⟩;exact Nat.zero_le _
 rintro ⟨k,o⟩ f_1 w1 ⟨s3_1,s8_1,s2_1,s6_1,s7_1,e_1,r0_1,hk⟩;have z_1:=e_1.size;have r0_1s:=r0_1.sl;have hlk:((l.take k).flatMap λx=>Cn.mdots x.2).length<=k*1000000:=Cn.flat_take (b:=1000000) (λx hx=>(hS x hx).2) hk;refine C.sr λK6=>O.lssI s8_1 s7_1 (K6 (C.sq λK7=>C.condD rfl (λc9=>?_) (λc9=>?_)))
 ·
  have hk2:k<l.length:=by omega
  refine C.skip (K7 (C.sq λK8=>C.bl λK9=>C.sr λK10=>O.idx U52 Z76 rfl s6_1 (hl.L e_1) s8_1 (by omega) (λa10 h10=>O.loadE (E:=itemE) isAgg76 Z76 rfl rfl h10 (λcs11 hcs11=>?_))));obtain ⟨vm11,rfl,hm11⟩:=hcs11;obtain ⟨u,hu⟩:∃u:ItemT,u=l[k]:=⟨_,rfl⟩
  have hSu:=hS u (by rw[hu];exact List.getElem_mem _);refine O.cast (v':=.agg #[str u.1,vm11]) (by rw[hu];rfl) ?_;have hm11:Sl markF.enc w1 F vm11 u.2:=by rw[hu];exact hm11
  refine O.alloc zeroValue76 (λb5 w2 hb5 hz5 e2=>?_);have z2:=e2.size;have h5:=hz5.own;have hl5:=h5.lt;refine O.storeA (vs:=[str u.1,vm11]) Z76 rfl rfl rfl (ones2 hm11.oneC) h5 (leB rfl) (λw3 hs3 e3 z3=>K10 (C.region (O.mv (O.fa U76 rfl Z74 rfl (O.loadO isAgg74 rfl hs3 rfl (O.call call77 (args1 rfl) (qdots_spec _ u.2 _ _ ((hm11.L e2).keepA e3) (by omega)) ?_))))));rintro v_15 w4 ⟨e4,h15⟩;have z4:=e4.size;have h15s:=h15.sl;have hlu:(Cn.mdots u.2).length=u.2.length:=by unfold Cn.mdots;simp
  have t0:=(r0_1.L e2).kM e3 (λk hk h=>by have:=r0_1.bk_ge k hk;(try dsimp only at h);omega);refine O.appF (G:=Dt.dotF) U48 ti119 tz119 ts119 rfl s3_1 rfl (t0.L e4) h15s (by rw[tb119];omega) (by unfold maxLen;omega) (by omega) (λv16 w5 h16 e5=>?_);have z5:=e5.size;have h16s:=h16.sl;refine O.j (O.o (K9 (K8 (C.region (O.ad s8_1 rfl (O.mv (O.o (⟨(k+1,_),⟨rfl,rfl,s2_1,s6_1,s7_1,(Ext.new (Ext.T (Ext.nr (Ext.T e_1 e2) e3) e4) e5 (by intro i hi h;have:=(t0.L e4).bk_ge i h;omega)),(by rw[show (l.take (k+1)).flatMap (λx=>Cn.mdots x.2)=(l.take k).flatMap (λx=>Cn.mdots x.2)++Cn.mdots u.2 from by rw[hu];exact Cn.flatMap_take _ hk2];exact h16),?_⟩,by first|omega|(simp only[];omega)⟩))))))))
  omega
 refine C.exit (K5 (K3 (C.sr λK11=>O.mv (O.call call74 (args1 s3_1) (set_spec _ ((l.take k).flatMap λx=>Cn.mdots x.2) _ _ r0_1s (by omega)) ?_))));rintro v_19 w6 ⟨e6,h19⟩;have z6:=e6.size;refine O.j (K11 (C.ret (Outs.one rfl rfl ?_)));obtain rfl:k=l.length:=by omega
 rw[List.take_length] at h19;exact ⟨(Ext.T e_1 e6),h19.low (by omega)⟩
theorem itemsValid_spec (v0:Value)(l:List ItemT)(F:Nat->Prop)(w:World)(hl:Sl itemE w F v0 l)(hF:∀k,F k->k<w.heap.size)(hn:l.length<=1000000)(hS:∀x∈l,x.1.length<=1000000∧x.2.length<=1000000)(mx:Mx w):
 Ret prog 44 #[v0] w (λv w'=>v=.bool (Cn.itemsValid l)∧Le w w'):=by
 have hle:=hl.le;refine enT [v0] 41 func44 rfl rfl (C.sr λK1=>O.j (K1 (C.sr λK2=>O.j (K2 (C.sq λK3=>C.sr λK4=>O.mv (O.len U52 rfl hl (O.mv (K4 (C.bl λK5=>C.loop0 (σ:=Nat) (λf0 w0 k f wz=>f 3=.int .i64 ((Cn.count (l.take k):Nat))∧f 8=.int .i64 (k)∧f 0=f0 0∧f 6=f0 6∧f 7=f0 7∧Le w wz∧k<=l.length∧(∀i,∀h:i<l.length,i<k->Cn.badI l[i]=false)∧∀i,∀h:i+1<l.length,i+1<k->Op.bytesLess l[i].1 l[i+1].1=true) (λk=>l.length-k) 0 ?_ ?_)))))))))
 ·
  refine ⟨(Eq.trans rfl rfl),rfl,rfl,rfl,rfl,leR,?_⟩;exact ⟨Nat.zero_le _,λi h k=>absurd k (Nat.not_lt_zero _),λi h k=>absurd k (Nat.not_lt_zero _)⟩
 rintro k f_1 w1 ⟨s3_1,s8_1,s0_1,s6_1,s7_1,e_1,⟨hk,hI,hJ⟩⟩;have z_1:=e_1.size;have hck:Cn.count (l.take k)<=k*1000000:=Cn.count_take_le (b:=1000000) (λx hx=>(hS x hx).2) hk;refine C.sr λK6=>O.lssI s8_1 s7_1 (K6 (C.sq λK7=>C.condD rfl (λc9=>?_) (λc9=>?_)))
 ·
  have hk2:k<l.length:=by omega
  refine C.skip (K7 (C.sq λK8=>C.bl λK9=>C.sr λK10=>O.mv (O.idx U52 Z76 rfl s6_1 (hl.L e_1) s8_1 (by omega) (λa11 h11=>O.loadE (E:=itemE) isAgg76 Z76 rfl rfl h11 (λcs12 hcs12=>?_)))));obtain ⟨vm12,rfl,hm12⟩:=hcs12;obtain ⟨u,hu⟩:∃u:ItemT,u=l[k]:=⟨_,rfl⟩
  have hSu:=hS u (by rw[hu];exact List.getElem_mem _);refine O.cast (v':=.agg #[str u.1,vm12]) (by rw[hu];rfl) ?_;have hm12:Sl markF.enc w1 F vm12 u.2:=by rw[hu];exact hm12
  refine O.alloc zeroValue76 (λb5 w2 hb5 hz5 e2=>?_);have z2:=e2.size;have h5:=hz5.own;have hl5:=h5.lt;refine O.j (O.storeA (vs:=[str u.1,vm12]) Z76 rfl rfl rfl (ones2 hm12.oneC) h5 (leB rfl) (λw3 hs3 e3 z3=>K10 (C.sq λK11=>C.sd λK12 w4 e4 z4=>D.t 0 rfl leR (λ_ hw_ _ hN=>O.loadOA isAgg76 Z76 rfl ((hs3.L e4).L hw_) (leB rfl) (O.o hN)) (D.on 1 rfl rfl ?_))));have t0:=Ext.T e_1 e2;have t1:=(hm12.L e2).keepA e3;have t2:=Ext.T (Ext.nr t0 e3) e4;refine O.call call72 (args1 rfl) (badI_spec u vm12 F _ (t1.L e4) hSu.1 (by omega) (mx.L t2)) ?_;rintro v_14 w5 ⟨rfl,e5⟩;have z5:=e5.size;refine O.o ⟨e5,D.mv 2 rfl e5 (D.split (x:=.tmp 15) rfl (λc15=>?_) (λc15=>?_))⟩
  ·
   refine D.tn 3 rfl rfl e5 rfl (noB (isT' rfl c15) rfl) (D.tn 4 rfl rfl e5 rfl (noB (isT' rfl c15) rfl) (D.tn 5 rfl rfl e5 rfl (noB (isT' rfl c15) rfl) (D.tn 6 rfl rfl e5 rfl (noU rfl) (D.tn 7 rfl rfl e5 rfl (noU rfl) (D.tn 8 rfl rfl e5 rfl (noU rfl) (D.tn 9 rfl rfl e5 rfl (noU rfl) (D.tn 10 rfl rfl e5 rfl (noU rfl) (D.tn 11 rfl rfl e5 rfl (noU rfl) (D.tn 12 rfl rfl e5 rfl (noU rfl) (D.tn 13 rfl rfl e5 rfl (noU rfl) (D.tn 14 rfl rfl e5 rfl (noU rfl) (D.tn 15 rfl rfl e5 rfl (noB (isT' rfl c15) rfl) (D.tk 16 rfl rfl rfl rfl e5 pick_form (λ_ hw_ _ hN=>O.pickT (isT' rfl c15) (O.o hN)) (K12 (C.condT rfl (C.sr λK13=>O.j (K13 (C.ret (Outs.one rfl rfl ?_)))))))))))))))))))
   first
   |(refine ⟨congrArg Value.bool ?_,(Ext.T t2 e5)⟩
     have q:l.any Cn.badI=true:=Cn.any_yes hk2 (by rw[<-hu];exact c15);unfold Cn.itemsValid;rw[q]
     rfl)
   |(refine ⟨congrArg Value.bool ?_,(Ext.T t2 e5)⟩
     have q:Cn.names l=false:=Cn.adj_no (j:=k-1) hk2 (by omega) (by omega) (by rw[<-hu];simpa using c29);unfold Cn.itemsValid;rw[q,Bool.false_and,Bool.and_false])
   |(refine ⟨congrArg Value.bool ?_,(Ext.T t2 e5)⟩
     obtain rfl:k=l.length:=by omega
     have q1:l.any Cn.badI=false:=Cn.any_no λi hi=>hI i hi hi
     have q2:Cn.names l=true:=Cn.adj_yes λi hi=>hJ i hi hi
     unfold Cn.itemsValid;rw[q1,q2,List.take_length];exact decide_eq_decide.2 Int.ofNat_inj)
  refine D.ty 3 rfl rfl rfl rfl (isF' rfl c15) e5 ⟨pure _,rfl⟩ (λ_ hw_ _ hN=>O.mv (O.o hN)) (D.ty 4 rfl rfl rfl rfl (isF' rfl c15) e5 ⟨_,rfl⟩ (λ_ hw_ _ hN=>O.gtrI s8_1 rfl (O.o hN)) (D.ty 5 rfl rfl rfl rfl (isF' rfl c15) e5 ⟨pure _,rfl⟩ (λ_ hw_ _ hN=>O.mv (O.o hN)) (D.splitD (x:=.tmp 18) rfl (λc18=>?_) (λc18=>?_))))
  ·
   have x1:((k:Int)-1).toNat=k-1:=by omega
   have hk3:k-1+1=k:=by omega
   refine D.ty 6 rfl rfl rfl rfl (isT rfl c18) e5 ⟨pure _,rfl⟩ (λ_ hw_ _ hN=>O.mv (O.o hN)) (D.ty 7 rfl rfl rfl rfl (isT rfl c18) e5 ⟨pure _,rfl⟩ (λ_ hw_ _ hN=>O.mv (O.o hN)) (D.ty 8 rfl rfl rfl rfl (isT rfl c18) e5 ⟨_,rfl⟩ (λ_ hw_ _ hN=>O.sb s8_1 rfl (O.o hN)) ?_));obtain ⟨a22,h22,hr22⟩:=Sl.at (i:=(k:Int)-1) (P:=prog) U52 Z76 rfl (hl.L t2) (by omega);refine D.ty 9 rfl rfl rfl rfl (isT rfl c18) e5 ⟨_,rfl⟩ (λ_ hw_ _ hN=>O.idxR s0_1 rfl hr22 (O.o hN)) (D.ty 10 rfl rfl rfl rfl (isT rfl c18) e5 ⟨_,rfl⟩ (λ_ hw_ _ hN=>O.ft U76 rfl Z9 rfl (O.o hN)) (D.ty 11 rfl rfl rfl rfl (isT rfl c18) e5 ⟨_,rfl⟩ (λ_ hw_ _ hN=>O.loadName isAgg9 rfl (h22.L hw_) (O.o hN)) (D.ty 12 rfl rfl rfl rfl (isT rfl c18) e5 ⟨_,rfl⟩ (λ_ hw_ _ hN=>O.fa U76 rfl Z9 rfl (O.o hN)) (D.ty 13 rfl rfl rfl rfl (isT rfl c18) e5 ⟨_,rfl⟩ (λ_ hw_ _ hN=>O.loadO isAgg9 rfl ((hs3.L e4).L hw_) rfl (O.o hN)) ?_))));refine D.ty 14 rfl rfl rfl rfl (isT rfl c18) e5 ⟨_,rfl⟩ (λ_ hw_ _ hN=>O.geqS rfl rfl (O.o hN)) (D.ty 15 rfl rfl rfl rfl (isF' rfl c15) e5 pick_form (λ_ hw_ _ hN=>O.pickT (isT rfl c18) (O.o hN)) (D.tk 16 rfl rfl rfl rfl e5 pick_form (λ_ hw_ _ hN=>O.pickF (isF' rfl c15) (O.o hN)) (K12 (C.cond rfl (λc29=>?_) (λc29=>?_)))))
   ·
    try simp only[x1] at c29
    refine C.sr λK14=>O.j (K14 (C.ret (Outs.one rfl rfl ?_)))
    first
    |(refine ⟨congrArg Value.bool ?_,(Ext.T t2 e5)⟩
      have q:l.any Cn.badI=true:=Cn.any_yes hk2 (by rw[<-hu];exact c15);unfold Cn.itemsValid;rw[q]
      rfl)
    |(refine ⟨congrArg Value.bool ?_,(Ext.T t2 e5)⟩
      have q:Cn.names l=false:=Cn.adj_no (j:=k-1) hk2 (by omega) (by omega) (by rw[<-hu];simpa using c29);unfold Cn.itemsValid;rw[q,Bool.false_and,Bool.and_false])
    |(refine ⟨congrArg Value.bool ?_,(Ext.T t2 e5)⟩
      obtain rfl:k=l.length:=by omega
      have q1:l.any Cn.badI=false:=Cn.any_no λi hi=>hI i hi hi
      have q2:Cn.names l=true:=Cn.adj_yes λi hi=>hJ i hi hi
      unfold Cn.itemsValid;rw[q1,q2,List.take_length];exact decide_eq_decide.2 Int.ofNat_inj)
   try simp only[x1] at c29
   refine C.skip (K11 (C.region (O.mv (O.fa U76 rfl Z74 rfl (O.loadO isAgg74 rfl ((hs3.L e4).L e5) rfl (O.len U74 rfl ((t1.L e4).L e5) (O.ad s3_1 rfl (O.j (O.o (K9 (K8 (C.region (O.ad s8_1 rfl (O.mv (O.o (⟨k+1,⟨(Eq.trans rfl (cI (by rw[Cn.count_take hk2,hu];simp))),rfl,s0_1,s6_1,s7_1,(Ext.T t2 e5),?_⟩,by first|omega|(simp only[];omega)⟩))))))))))))))));refine ⟨by omega,λi hi hik=>?_,λi hi hik=>?_⟩
   ·rcases Nat.lt_or_eq_of_le (Nat.le_of_lt_succ hik) with h|rfl
    ·exact hI i hi h
    ·rw [<-hu];exact c15
   ·rcases Nat.lt_or_eq_of_le (Nat.le_of_lt_succ hik) with h|h
    ·exact hJ i hi h
    ·first
     |(exfalso;omega)
     |(obtain rfl:k=i+1:=h.symm
       simp only[Nat.add_sub_cancel] at c29;rw[hu] at c29
       simpa using c29)
  refine D.tn 6 rfl rfl e5 rfl (noB (isF rfl c18) rfl) (D.tn 7 rfl rfl e5 rfl (noB (isF rfl c18) rfl) (D.tn 8 rfl rfl e5 rfl (noB (isF rfl c18) rfl) (D.tn 9 rfl rfl e5 rfl (noB (isF rfl c18) rfl) (D.tn 10 rfl rfl e5 rfl (noB (isF rfl c18) rfl) (D.tn 11 rfl rfl e5 rfl (noB (isF rfl c18) rfl) (D.tn 12 rfl rfl e5 rfl (noB (isF rfl c18) rfl) (D.tn 13 rfl rfl e5 rfl (noB (isF rfl c18) rfl) (D.tn 14 rfl rfl e5 rfl (noB (isF rfl c18) rfl) (D.ty 15 rfl rfl rfl rfl (isF' rfl c15) e5 pick_form (λ_ hw_ _ hN=>O.pickF (isF rfl c18) (O.o hN)) (D.tk 16 rfl rfl rfl rfl e5 pick_form (λ_ hw_ _ hN=>O.pickF (isF' rfl c15) (O.o hN)) (K12 (C.condF rfl (C.skip (K11 ?_))))))))))))));refine C.region (O.mv (O.fa U76 rfl Z74 rfl (O.loadO isAgg74 rfl ((hs3.L e4).L e5) rfl (O.len U74 rfl ((t1.L e4).L e5) (O.ad s3_1 rfl (O.j (O.o (K9 (K8 (C.region (O.ad s8_1 rfl (O.mv (O.o (⟨k+1,⟨(Eq.trans rfl (cI (by rw[Cn.count_take hk2,hu];simp))),rfl,s0_1,s6_1,s7_1,(Ext.T t2 e5),?_⟩,by first|omega|(simp only[];omega)⟩))))))))))))));refine ⟨by omega,λi hi hik=>?_,λi hi hik=>?_⟩
  ·rcases Nat.lt_or_eq_of_le (Nat.le_of_lt_succ hik) with h|rfl
   ·exact hI i hi h
   ·rw [<-hu];exact c15
  ·rcases Nat.lt_or_eq_of_le (Nat.le_of_lt_succ hik) with h|h
   ·exact hJ i hi h
   ·first
    |(exfalso;omega)
    |(obtain rfl:k=i+1:=h.symm
      simp only[Nat.add_sub_cancel] at c29;rw[hu] at c29
      simpa using c29)
 refine C.exit (K5 (K3 (C.sr λK15=>O.mv (O.call call46 (args1 s0_1) (idots_spec _ l _ _ (hl.L e_1) (λk hk=>by have:=hF k hk;omega) hn hS) ?_))));rintro v_37 w6 ⟨e6,h37⟩;have z6:=e6.size;have h37s:=h37.sl;refine O.len U48 rfl h37s (O.mv (O.eqlI rfl s3_1 (O.j (K15 (C.ret (Outs.one rfl rfl ?_))))))
 first
 |(refine ⟨congrArg Value.bool ?_,(Ext.T e_1 e6)⟩
   have q:l.any Cn.badI=true:=Cn.any_yes hk2 (by rw[<-hu];exact c15);unfold Cn.itemsValid;rw[q]
   rfl)
 |(refine ⟨congrArg Value.bool ?_,(Ext.T e_1 e6)⟩
   have q:Cn.names l=false:=Cn.adj_no (j:=k-1) hk2 (by omega) (by omega) (by rw[<-hu];simpa using c29);unfold Cn.itemsValid;rw[q,Bool.false_and,Bool.and_false])
 |(refine ⟨congrArg Value.bool ?_,(Ext.T e_1 e6)⟩
   obtain rfl:k=l.length:=by omega
   have q1:l.any Cn.badI=false:=Cn.any_no λi hi=>hI i hi hi
   have q2:Cn.names l=true:=Cn.adj_yes λi hi=>hJ i hi hi
   unfold Cn.itemsValid;rw[q1,q2,List.take_length];exact decide_eq_decide.2 Int.ofNat_inj)
theorem del_n_spec (vf:Value)(M:Nat->Prop)(p:Dt.Dot->Bool)(w:World)(hp:Pred prog M w vf Dt.dv p):
 Ret prog 73 #[.slice none 0 0,vf] w (λv w'=>v=.slice none 0 0∧Le w w'):=by
 refine enT [.slice none 0 0,vf] 42 func73 rfl rfl (C.sr λK1=>O.j (K1 (C.sr λK2=>O.mv (O.mv (O.call call109 (args2 rfl rfl) (indexD_spec _ _ [] (λ_=>False) M p _ (Sl.nil _ _ _) hp) ?_)))));rintro v_10 w1 ⟨rfl,e1⟩;have z1:=e1.size;refine O.j (K2 (C.sq λK3=>C.sr λK4=>O.mv (O.eqlI rfl rfl (O.cast (v':=.bool true) (cB (by exact decide_eq_true rfl)) (K4 (C.condT rfl (C.sr λK5=>O.mv (O.j (K5 (C.ret (Outs.one rfl rfl ?_)))))))))));exact ⟨rfl,e1⟩
theorem del_a_spec (g cap B Z:Nat)(l:List Dt.Dot)(vf:Value)(p:Dt.Dot->Bool)(w:World)(ho:OwnF Dt.dotF 119 B w (.slice (some ⟨g,0,none⟩) l.length cap) l)(hn:l.length<=1000000000000)(hZ:Z=w.heap.size)(hp:Pred prog (λk=>k=g∨Z<=k) w vf Dt.dv p):
 Ret prog 73 #[.slice (some ⟨g,0,none⟩) l.length cap,vf] w (λv w'=>∃n,v=.slice (some ⟨g,0,none⟩) n cap∧n=(l.filter λx=> !p x).length∧Ext (λk=>k=g) w w'):=by
 have hs0:=ho.sl;have hcap:=ho.le_cap;have hge:=Cn.idx_ge (p:=p) l;refine enT [.slice (some ⟨g,0,none⟩) l.length cap,vf] 42 func73 rfl rfl (C.sr λK1=>O.j (K1 (C.sr λK2=>O.mv (O.mv (O.call call109 (args2 rfl rfl) (indexD_spec _ _ _ _ _ p _ hs0 hp) ?_)))));rintro v_10 w1 ⟨rfl,e1⟩;have z1:=e1.size;refine O.j (K2 (C.sq λK3=>C.sr λK4=>O.mv (O.eqlI rfl rfl (K4 (C.condD rfl (λc12=>?_) (λc12=>?_))))))
 ·
  have hi1:=Cn.filter_none c12;refine C.sr λK5=>O.mv (O.j (K5 (C.ret (Outs.one rfl rfl ?_))))
  first
  |exact ⟨_,rfl,by rw[hi1],(Ext.nw (Ext.L _ _) e1)⟩
  |(refine ⟨_,rfl,?_,(Ext.nw (Ext.L _ _) e1)⟩
    have q1:c.take m=l.filter (λx=> !p x):=by rw[hT,hj3,List.take_length]
    rw[<-q1,List.length_take]
    omega)
 obtain ⟨i,hi⟩:∃i:Nat,Cn.idx p l=(i:Int):=⟨(Cn.idx p l).toNat,by omega⟩
 obtain ⟨⟨hil,hip⟩,hib⟩:=Cn.idx_at hi;obtain ⟨hf1,hf2⟩:=Cn.filter_first hi;refine C.skip (K3 (C.sq λK6=>C.sr λK7=>O.mv (O.ad rfl rfl (O.j (K7 (C.bl λK8=>C.loop0 (σ:=Nat×Nat×List Dt.Dot) (λf0 w0 ⟨j,m,c⟩ f w=>f 6=.int .i64 (j)∧f 5=.int .i64 (m)∧f 0=f0 0∧f 1=f0 1∧f 4=f0 4∧Ext (λk=>k=g∨Z<=k) w0 w∧OwnF Dt.dotF 119 B w (.slice (some ⟨g,0,none⟩) l.length cap) c∧Pred prog (λk=>k=g∨Z<=k) w vf Dt.dv p∧c.length=l.length∧j<=l.length∧m+1<=j∧c.take m=(l.take j).filter (λx=> !p x)∧∀i,∀h1:i<c.length,∀h2:i<l.length,j<=i->c[i]=l[i]) (λ⟨j,m,c⟩=>l.length-j) (i+1,i,l) ?_ ?_))))))
 ·
  refine ⟨(Eq.trans rfl (cI (by rw[hi];rfl))),(Eq.trans rfl (cI hi)),rfl,rfl,rfl,Ext.L _ _,(ho.L e1),(hp.L e1),?_⟩;exact ⟨rfl,by omega,by omega,hf2.symm,λi _ _ _=>rfl⟩
 rintro ⟨j,m,c⟩ f_1 w2 ⟨s6_1,s5_1,s0_1,s1_1,s4_1,e_1,r0_1,r1_1,⟨hcl,hj,hm,hT,hE⟩⟩;have z_1:=e_1.size;have r0_1s:=r0_1.sl;have hp4:=r0_1.sl;refine C.sq λK9=>C.sr λK10=>O.mv (O.mv (O.len U48 s0_1 hp4 (O.lssI s6_1 rfl (K10 (C.condD rfl (λc19=>?_) (λc19=>?_))))))
 ·
  have hj2:j<c.length:=by simp at c19;omega
  have y1:((j:Int)).toNat=j:=by omega
  refine C.skip (K9 (C.sq λK11=>C.bl λK12=>C.sr λK13=>O.mv (O.mv (O.idx U48 Z119 rfl s0_1 hp4 s6_1 (by simp;omega) (λa24 h24=>O.loadG (G:=Dt.dotF) isAgg119 Z119 rfl h24 ?_)))));obtain ⟨u,hu⟩:∃u:Dt.Dot,u=l[j]'(by omega):=⟨_,rfl⟩
  refine O.cast (v':=Dt.dv u) (by subst hu;simp only[y1];rw[hE j hj2 (by omega) (by omega)];rfl) (O.alloc zeroValue119 (λb7 w3 hb7 hz7 e3=>?_));have z3:=e3.size;have h7:=hz7.own;have hl7:=h7.lt;refine O.storeA (vs:=[.int .i64 u.1,.int .i64 u.2]) Z119 rfl rfl rfl (by simp[Value.oneCell']) h7 (leB rfl) (λw4 hs4 e4 z4=>K13 (C.sr λK14=>O.mv (O.loadOA isAgg119 Z119 rfl hs4 (leB rfl) (O.callP (u) ((r1_1.L e3).kM e4 (λk h=>.inr (by (try dsimp only at h);omega))) s1_1 rfl (λw5 e5=>?_)))));have z5:=e5.size;refine O.not rfl (K14 (C.cond rfl (λc29=>?_) (λc29=>?_)))
  ·
   refine C.sr λK15=>O.mv (O.mv (O.loadOA isAgg119 Z119 rfl (hs4.L e5) (leB rfl) (O.idxO U48 Z119 s0_1 s5_1 (by omega) (O.cast (v':=.pointer (some ⟨g,m*Dt.dotF.sz,none⟩)) (by rw[Nat.zero_add,Int.toNat_natCast];rfl) ?_))))
   have ho33:=(((r0_1.L e3).kM e4 (λk hk h=>by have:=r0_1.bk_ge k hk;(try dsimp only at h);omega)).L e5)
   rw[<-hcl] at ho33;refine O.storeG (G:=Dt.dotF) (u) Z119 rfl rfl ho33 (by omega) (λw6 hs6 e6 z6=>?_);rw[hcl] at hs6;refine K15 (C.region (O.mv (O.ad s5_1 rfl (O.cast (v':=.int .i64 ((m+1:Nat):Int)) rfl (O.j (O.o (K12 (K11 (C.region (O.mv (O.ad s6_1 rfl (O.j (O.o (⟨(j+1,_,_),⟨rfl,rfl,s0_1,s1_1,s4_1,(Ext.nw (Ext.nw (Ext.nw (Ext.nw (Ext.nw (Ext.L _ _) e_1) e3) e4) e5) e6),hs6,((((r1_1.L e3).kM e4 (λk h=>.inr (by (try dsimp only at h);omega))).L e5).kM e6 (λk h=>.inl h)),?_⟩,by first|omega|(simp only[];omega)⟩))))))))))))))
   first
   |(refine ⟨by rw[List.length_set];exact hcl,by omega,by omega,?_,λi h1 h2 h3=>?_⟩
     ·rw [List.take_succ_eq_append_getElem (by rw[List.length_set];omega),List.take_set,List.set_eq_of_length_le (by simp;omega),hT,Cn.filter_take p (by omega),List.getElem_set_self,<-hu]
      have c29':p u=false:=by simpa using c29
      rw[c29']
      rfl
     ·rw [List.getElem_set_ne (by omega)]
      exact hE i (by rw[List.length_set] at h1;exact h1) h2 (by omega))
   |(refine ⟨hcl,by omega,by omega,?_,λi h1 h2 h3=>hE i h1 h2 (by omega)⟩
     have c29':p u=true:=by simpa using c29
     rw[hT,Cn.filter_take p (by omega),<-hu,c29',if_pos rfl,List.append_nil])
  refine C.skip (K12 (K11 (C.region (O.mv (O.ad s6_1 rfl (O.j (O.o (⟨(j+1,_,_),⟨rfl,s5_1,s0_1,s1_1,s4_1,(Ext.nw (Ext.nw (Ext.nw (Ext.nw (Ext.L _ _) e_1) e3) e4) e5),(((r0_1.L e3).kM e4 (λk hk h=>by have:=r0_1.bk_ge k hk;(try dsimp only at h);omega)).L e5),(((r1_1.L e3).kM e4 (λk h=>.inr (by (try dsimp only at h);omega))).L e5),?_⟩,by first|omega|(simp only[];omega)⟩))))))))
  first
  |(refine ⟨by rw[List.length_set];exact hcl,by omega,by omega,?_,λi h1 h2 h3=>?_⟩
    ·rw [List.take_succ_eq_append_getElem (by rw[List.length_set];omega),List.take_set,List.set_eq_of_length_le (by simp;omega),hT,Cn.filter_take p (by omega),List.getElem_set_self,<-hu]
     have c29':p u=false:=by simpa using c29
     rw[c29']
     rfl
    ·rw [List.getElem_set_ne (by omega)]
     exact hE i (by rw[List.length_set] at h1;exact h1) h2 (by omega))
  |(refine ⟨hcl,by omega,by omega,?_,λi h1 h2 h3=>hE i h1 h2 (by omega)⟩
    have c29':p u=true:=by simpa using c29
    rw[hT,Cn.filter_take p (by omega),<-hu,c29',if_pos rfl,List.append_nil])
 have hj3:j=l.length:=by simp at c19;omega
 refine C.exit (K8 (K6 (C.sr λK16=>O.mv (O.mv (O.subHi U48 Z119 s0_1 s5_1 (by omega) (by omega) ?_)))));have hkw7:=r0_1;rw[<-hcl] at hkw7;refine O.clearG (G:=Dt.dotF) (zx:=(0,0)) (k:=m) U48 zeroValue119 rfl (by rw[hcl];exact rfl) hkw7 (by omega) (λw7 hc7 e7 z7=>?_);rw[hcl] at hc7;refine K16 (C.sr λK17=>O.mv (O.mv (O.subLo U48 Z119 s0_1 s5_1 (by omega) (by omega) (O.j (K17 (C.ret (Outs.one rfl rfl ?_)))))))
 first
 |exact ⟨_,rfl,by rw[hi1],(Ext.nw (Ext.nw (Ext.nw (Ext.L _ _) e1) e_1) e7)⟩
 |(refine ⟨_,rfl,?_,(Ext.nw (Ext.nw (Ext.nw (Ext.L _ _) e1) e_1) e7)⟩
   have q1:c.take m=l.filter (λx=> !p x):=by rw[hT,hj3,List.take_length]
   rw[<-q1,List.length_take]
   omega)
theorem del_spec (v:Value)(B:Nat)(l:List Dt.Dot)(vf:Value)(p:Dt.Dot->Bool)(w:World)(h:OwnF Dt.dotF 119 B w v l)(hB:B<=w.heap.size)(hn:l.length<=1000000000000)(hp:Pred prog (λk=>B<=k) w vf Dt.dv p):
 Ret prog 73 #[v,vf] w (λr w'=>(∃a n c,r=.slice a n c∧n=(l.filter λx=> !p x).length)∧Ext (λk=>B<=k) w w'):=by
 rcases h.1.2 with ⟨rfl,h0⟩|⟨g,cap,cur,rfl,hg,_⟩
 ·obtain rfl:l=[]:=List.eq_nil_of_length_eq_zero h0
  refine (del_n_spec vf _ p w hp).mono ?_;rintro r w' ⟨rfl,e⟩;exact ⟨⟨_,_,_,rfl,rfl⟩,e.to⟩
 ·refine (del_a_spec g cap B w.heap.size l vf p w h hn rfl (hp.weak λk hk=>?_)).mono ?_
  ·rcases hk with rfl|hk<;>omega
  ·rintro r w' ⟨n,rfl,hn,e⟩
   exact ⟨⟨_,_,_,rfl,hn⟩,e.mono λk _ hk=>by have h1:k=g:=hk;omega⟩
theorem missing_spec (v1 v2:Value)(x:Cn.Ctx)(F:Nat->Prop)(v3:Value)(l:List Dt.Dot)(F2:Nat->Prop)(w:World)(hv:Sl Dt.dotF.enc w F v1 x.1)(hc:Sl Dt.dotF.enc w F v2 x.2)(hl:Sl Dt.dotF.enc w F2 v3 l)(hF:∀k,F k->k<w.heap.size)(hn:l.length<=1000000000000):
 Ret prog 45 #[.agg #[v1,v2],v3] w (λv w'=>(∃a n c,v=.slice a n c∧n=(Cn.missing x l).length)∧Le w w'):=by
 have hsl:=Dt.addAll_length l [];simp only[List.length_nil,Nat.zero_add] at hsl;refine enT [.agg #[v1,v2],v3] 9 func45 rfl rfl (C.sr λK1=>O.box (v:=.agg #[v1,v2]) rfl (λb2 w1 hb2 hz2 e1=>?_));have z1:=e1.size;have h2:=hz2.own;have hl2:=h2.lt;refine O.j (K1 (C.sr λK2=>O.mv (O.call call74 (args1 rfl) (set_spec _ l _ _ (hl.L e1) hn) ?_)));rintro v_6 w2 ⟨e2,h6⟩;have z2:=e2.size;have hl6:=h6.1.1;refine O.makeF (v1:=[]) rfl rfl (O.call call73 (args2 rfl rfl) (del_spec _ _ _ _ (Cn.ctxHas x) _ h6 (by omega) (by unfold Dt.set;omega) (pred_miss b2 v1 v2 x F _ _ (h2.L e2) ((hv.L e1).L e2) ((hc.L e1).L e2) (by omega) (by intro k hk h;have:=hF k hk;(try dsimp only at h);omega))) ?_);rintro v_8 w3 ⟨⟨av8,nv8,cv8,rfl,hnv8⟩,e3⟩;have z3:=e3.size;refine O.j (K2 (C.ret (Outs.one rfl rfl ?_)));exact ⟨⟨_,_,_,rfl,hnv8⟩,(Ext.new (Ext.T e1 e2) e3 (by intro i hi h;(try dsimp only at h);omega))⟩
theorem cartValid_spec (va1 va2 va3:Value)(a:Cn.Cart)(F:Nat->Prop)(w:World)(hav:Sl Dt.dotF.enc w F va1 a.1.1)(hac:Sl Dt.dotF.enc w F va2 a.1.2)(hai:Sl itemE w F va3 a.2)(hF:∀k,F k->k<w.heap.size)(hn:a.2.length<=1000000)(hS:∀x∈a.2,x.1.length<=1000000∧x.2.length<=1000000)(mx:Mx w):
 Ret prog 24 #[.agg #[va1,va2,va3]] w (λv w'=>v=.bool (Cn.valid a)∧Le w w'):=by
 have hdl:=Cn.dotsOf_len (l:=a.2) λx hx=>(hS x hx).2
 refine enT [.agg #[va1,va2,va3]] 21 func24 rfl rfl (C.sr λK1=>O.box (v:=.agg #[va1,va2,va3]) rfl (λb1 w1 hb1 hz1 e1=>?_));have z1:=e1.size;have h1:=hz1.own;have hl1:=h1.lt;refine O.j (K1 (C.sd λK2 w2 e2 z2=>D.t 0 rfl leR (λ_ _ _ hN=>O.fa U54 rfl Z51 rfl (O.o hN)) (D.t 1 rfl leR (λ_ hw_ _ hN=>O.loadOA isAgg51 Z51 rfl ((h1.L e2).L hw_) (leB rfl) (O.o hN)) (D.on 2 rfl rfl (O.call call43 (args1 rfl) (isCompact_spec va1 va2 a.1 F _ ((hav.L e1).L e2) ((hac.L e1).L e2)) ?_)))));rintro v_5 w3 ⟨rfl,e3⟩;have z3:=e3.size;refine O.o ⟨e3,D.mv 3 rfl e3 (D.split (x:=.tmp 6) rfl (λc6=>?_) (λc6=>?_))⟩
 ·
  refine D.ty 4 rfl rfl rfl rfl (isT' rfl c6) e3 ⟨_,rfl⟩ (λ_ hw_ _ hN=>O.fa U54 rfl Z52 rfl (O.o hN)) (D.ty 5 rfl rfl rfl rfl (isT' rfl c6) e3 ⟨_,rfl⟩ (λ_ hw_ _ hN=>O.loadO isAgg52 rfl ((h1.L e2).L hw_) rfl (O.o hN)) (D.oneYes (i:=6) rfl rfl (isT' rfl c6) (by kernel_rfl) ?_));have t0:=((hai.L e1).L e2).L e3;refine O.call call44 (args1 rfl) (itemsValid_spec va3 a.2 F _ t0 (by intro k hk;have:=hF k hk;omega) hn hS (((mx.L e1).L e2).L e3)) ?_;rintro v_9 w4 ⟨rfl,e4⟩;have z4:=e4.size;refine O.o ⟨(Ext.T e3 e4),D.tk 7 rfl rfl rfl rfl (Ext.T e3 e4) pick_form (λ_ hw_ _ hN=>O.pickT (isT' rfl c6) (O.o hN)) (D.mv 8 rfl (Ext.T e3 e4) (D.split (x:=.tmp 11) rfl (λc11=>?_) (λc11=>?_)))⟩
  ·
   refine D.ty 9 rfl rfl rfl rfl (isT' rfl c11) (Ext.T e3 e4) ⟨_,rfl⟩ (λ_ hw_ _ hN=>O.fa U54 rfl Z51 rfl (O.o hN)) (D.ty 10 rfl rfl rfl rfl (isT' rfl c11) (Ext.T e3 e4) ⟨_,rfl⟩ (λ_ hw_ _ hN=>O.loadOA isAgg51 Z51 rfl ((h1.L e2).L hw_) (leB rfl) (O.o hN)) (D.ty 11 rfl rfl rfl rfl (isT' rfl c11) (Ext.T e3 e4) ⟨_,rfl⟩ (λ_ hw_ _ hN=>O.fa U54 rfl Z52 rfl (O.o hN)) (D.ty 12 rfl rfl rfl rfl (isT' rfl c11) (Ext.T e3 e4) ⟨_,rfl⟩ (λ_ hw_ _ hN=>O.loadO isAgg52 rfl ((h1.L e2).L hw_) rfl (O.o hN)) (D.oneYes (i:=13) rfl rfl (isT' rfl c11) (by kernel_rfl) ?_))));refine O.call call46 (args1 rfl) (idots_spec va3 a.2 F _ (t0.L e4) (by intro k hk;have:=hF k hk;omega) hn hS) ?_;rintro v_16 w5 ⟨e5,h16⟩;have z5:=e5.size;have t1:=Ext.T (Ext.T e3 e4) e5;refine O.o ⟨t1,?_⟩;have h16s:=h16.sl;refine D.oneYes (i:=14) rfl rfl (isT' rfl c11) (by kernel_rfl) (O.call call45 (args2 rfl rfl) (missing_spec va1 va2 a.1 F _ (Cn.dotsOf a.2) _ _ (((((hav.L e1).L e2).L e3).L e4).L e5) (((((hac.L e1).L e2).L e3).L e4).L e5) h16s (by intro k hk;have:=hF k hk;omega) (by omega)) ?_);rintro v_17 w6 ⟨⟨av17,nv17,cv17,rfl,hnv17⟩,e6⟩;have z6:=e6.size;refine O.o ⟨(Ext.T t1 e6),D.ty 15 rfl rfl rfl rfl (isT' rfl c11) (Ext.T t1 e6) len_form (λ_ hw_ _ hN=>O.lenL U48 rfl (O.o hN)) (D.ty 16 rfl rfl rfl rfl (isT' rfl c11) (Ext.T t1 e6) ⟨_,rfl⟩ (λ_ hw_ _ hN=>O.eqlI rfl rfl (O.o hN)) (D.tk 17 rfl rfl rfl rfl (Ext.T t1 e6) pick_form (λ_ hw_ _ hN=>O.pickT (isT' rfl c11) (O.o hN)) (D.as 18 rfl (Ext.T t1 e6) (K2 (C.ret (Outs.one rfl rfl (⟨congrArg Value.bool ?_,(Ext.T (Ext.T (Ext.T (Ext.T (Ext.T e1 e2) e3) e4) e5) e6)⟩)))))))⟩;unfold Cn.valid
   first
   |(rw[c6];rfl)
   |(rw[c6,c11];rfl)
   |(rw[c6,c11,<-hnv17];exact decide_eq_decide.2 Int.ofNat_eq_zero)
  refine D.tn 9 rfl rfl (Ext.T e3 e4) rfl (noB (isF' rfl c11) rfl) (D.tn 10 rfl rfl (Ext.T e3 e4) rfl (noB (isF' rfl c11) rfl) (D.tn 11 rfl rfl (Ext.T e3 e4) rfl (noB (isF' rfl c11) rfl) (D.tn 12 rfl rfl (Ext.T e3 e4) rfl (noB (isF' rfl c11) rfl) (D.tn 13 rfl rfl (Ext.T e3 e4) rfl (noB (isF' rfl c11) rfl) (D.tn 14 rfl rfl (Ext.T e3 e4) rfl (noB (isF' rfl c11) rfl) (D.tn 15 rfl rfl (Ext.T e3 e4) rfl (noB (isF' rfl c11) rfl) (D.tn 16 rfl rfl (Ext.T e3 e4) rfl (noB (isF' rfl c11) rfl) (D.tk 17 rfl rfl rfl rfl (Ext.T e3 e4) pick_form (λ_ hw_ _ hN=>O.pickF (isF' rfl c11) (O.o hN)) (D.as 18 rfl (Ext.T e3 e4) (K2 (C.ret ?_)))))))))));refine Outs.one rfl rfl (⟨congrArg Value.bool ?_,(Ext.T (Ext.T (Ext.T e1 e2) e3) e4)⟩);unfold Cn.valid
  first
  |(rw[c6];rfl)
  |(rw[c6,c11];rfl)
  |(rw[c6,c11,<-hnv17];exact decide_eq_decide.2 Int.ofNat_eq_zero)
 refine D.tn 4 rfl rfl e3 rfl (noB (isF' rfl c6) rfl) (D.tn 5 rfl rfl e3 rfl (noB (isF' rfl c6) rfl) (D.tn 6 rfl rfl e3 rfl (noB (isF' rfl c6) rfl) (D.tk 7 rfl rfl rfl rfl e3 pick_form (λ_ hw_ _ hN=>O.pickF (isF' rfl c6) (O.o hN)) (D.mv 8 rfl e3 (D.tn 9 rfl rfl e3 rfl (noB rfl rfl) (D.tn 10 rfl rfl e3 rfl (noB rfl rfl) (D.tn 11 rfl rfl e3 rfl (noB rfl rfl) (D.tn 12 rfl rfl e3 rfl (noB rfl rfl) (D.tn 13 rfl rfl e3 rfl (noB rfl rfl) (D.tn 14 rfl rfl e3 rfl (noB rfl rfl) (D.tn 15 rfl rfl e3 rfl (noB rfl rfl) (D.tn 16 rfl rfl e3 rfl (noB rfl rfl) (D.tk 17 rfl rfl rfl rfl e3 pick_form (λ_ hw_ _ hN=>O.pickF rfl (O.o hN)) (D.as 18 rfl e3 (K2 (C.ret ?_))))))))))))))));refine Outs.one rfl rfl (⟨congrArg Value.bool ?_,(Ext.T (Ext.T e1 e2) e3)⟩);unfold Cn.valid
 first
 |(rw[c6];rfl)
 |(rw[c6,c11];rfl)
 |(rw[c6,c11,<-hnv17];exact decide_eq_decide.2 Int.ofNat_eq_zero)
theorem inf5:∃ie,prog.info? 5=some ie∧ie.size=1∧ie.bytes=1∧ie.zero=some (.int .u8 0):=by
 have h:(prog.info? 5).isSome=true:=by kernel_rfl
 exact ⟨(prog.info? 5).get h,(Option.some_get h).symm,by kernel_rfl,by kernel_rfl,by kernel_rfl⟩
theorem inf63:∃ie,prog.info? 63=some ie∧ie.size=1∧ie.bytes=24∧ie.zero=some (.slice none 0 0):=by
 have h:(prog.info? 63).isSome=true:=by kernel_rfl
 exact ⟨(prog.info? 63).get h,(Option.some_get h).symm,by kernel_rfl,by kernel_rfl,by kernel_rfl⟩
theorem number_spec (n:BitVec 64)(w:World):
 Ret prog 164 #[.int .u64 ((n).toNat:Int)] w (λv w'=>Le w w'∧OwnF byteF 5 w.heap.size w' v (Cn.num n.toNat)):=by
 obtain ⟨ie5,ti5,ts5,tb5,tz5⟩:=inf5;refine enT [.int .u64 ((n).toNat:Int)] 19 func164 rfl rfl (C.sr λK1=>O.j (K1 (C.sr λK2=>O.j (K2 (C.sq λK3=>C.bl λK4=>C.loop0 (σ:=BitVec 64×Value×List UInt8) (λf0 w0 ⟨m,o,xs⟩ f wz=>f 0=.int .u64 ((m).toNat:Int)∧f 3=o∧f 2=f0 2∧Le w wz∧OwnF byteF 5 w.heap.size wz o (xs)∧xs++Cn.num m.toNat=Cn.num n.toNat) (λ⟨m,o,xs⟩=>m.toNat) (n,.slice none 0 0,[]) ?_ ?_)))))
 ·
  refine ⟨rfl,rfl,rfl,leR,(OwnF.nil _ _ _ _),?_⟩
  rfl
 rintro ⟨m,o,xs⟩ f_1 w1 ⟨s0_1,s3_1,s2_1,e_1,r0_1,hI⟩;have z_1:=e_1.size;have r0_1s:=r0_1.sl;have hxl:xs.length<=10:=by
  have h1:=Cn.num_u n;rw[<-hI,List.length_append] at h1
  omega
 refine C.sq λK5=>C.sr λK6=>O.mv (O.geqU (m:=64) (b:=128#64) s0_1 rfl (K6 (C.condD rfl (λc5=>?_) (λc5=>?_))))
 ·
  have hs5:¬m.toNat<128:=by simpa[BitVec.le_def,BitVec.lt_def] using c5
  refine C.skip (K5 (C.sq λK7=>C.bl λK8=>C.region (O.mv (O.mv (O.convUU (m:=64) (m':=8) U26 U5 rfl rfl s0_1 (O.orU (m:=8) (b:=128#8) rfl rfl rfl rfl (O.lit1 U63 ti5 ts5 tz5 rfl rfl (λb12 w2 hb12 hz12 e2=>?_))))))));have z2:=e2.size;have h12:=hz12.own;have hl12:=h12.lt;refine O.appF (G:=byteF) U63 ti5 tz5 ts5 rfl s3_1 rfl (r0_1.L e2) (Sl.one (G:=byteF) (x:=UInt8.ofBitVec (m.setWidth 8|||128#8)) h12 rfl rfl) (by rw[tb5];simp;omega) (by unfold maxLen;simp;omega) (by omega) (λv13 w3 h13 e3=>?_);have z3:=e3.size;have h13s:=h13.sl;refine O.j (O.o (K8 (K7 (C.region (O.mv (O.shrU (m:=64) (c:=7) rfl rfl s0_1 rfl (O.j (O.o (⟨(m>>>7,_,_),⟨rfl,rfl,s2_1,(Ext.new (Ext.T e_1 e2) e3 (by intro i hi h;have:=(r0_1.L e2).bk_ge i h;omega)),h13,?_⟩,by show (m>>>7).toNat<m.toNat;rw[BitVec.toNat_ushiftRight,Nat.shiftRight_eq_div_pow];omega⟩)))))))));rw[<-hI,Cn.num_step hs5,List.append_assoc]
  rfl
 have hs5:m.toNat<128:=by simpa[BitVec.le_def,BitVec.lt_def] using c5
 refine C.exit (K4 (K3 (C.sr λK9=>O.mv (O.mv (O.convUU (m:=64) (m':=8) U26 U5 rfl rfl s0_1 (O.lit1 U63 ti5 ts5 tz5 rfl rfl (λb17 w4 hb17 hz17 e4=>?_)))))));have z4:=e4.size;have h17:=hz17.own;have hl17:=h17.lt;refine O.appF (G:=byteF) U63 ti5 tz5 ts5 rfl s3_1 rfl (r0_1.L e4) (Sl.one (G:=byteF) (x:=UInt8.ofBitVec (m.setWidth 8)) h17 rfl rfl) (by rw[tb5];simp;omega) (by unfold maxLen;simp;omega) (by omega) (λv18 w5 h18 e5=>?_);have z5:=e5.size;have h18s:=h18.sl;refine O.j (K9 (C.ret (Outs.one rfl rfl ?_)));exact ⟨(Ext.new (Ext.T e_1 e4) e5 (by intro i hi h;have:=(r0_1.L e4).bk_ge i h;omega)),h18.lst (by rw[<-hI,Cn.num_last hs5])⟩
theorem grow_spec (m:Nat)(w:World)(hm:m<=139000000000000):
 Ret prog 204 #[.slice none 0 0,.int .i64 ((m:Int))] w (λv w'=>Le w w'∧OwnF byteF 5 w.heap.size w' v ([])):=by
 obtain ⟨ie5,ti5,ts5,tb5,tz5⟩:=inf5;refine enT [.slice none 0 0,.int .i64 ((m:Int))] 27 func204 rfl rfl (C.sr λK1=>O.j (K1 (C.sq λK2=>C.sr λK3=>O.mv (O.lssI rfl rfl (O.cast (v':=.bool false) (cB (by exact dF (by omega))) (K3 (C.condF rfl (C.skip (K2 (C.sq λK4=>C.sr λK5=>O.mv (O.mv (O.capL U63 rfl (O.mv (O.lenL U63 rfl (O.sb rfl rfl (O.sb rfl rfl (O.cast (v':=.int .i64 (m:Int)) (cI (by omega)) (O.j (K5 (C.sr λK6=>O.mv (O.gtrI rfl rfl (K6 (C.condD rfl (λc16=>?_) (λc16=>?_))))))))))))))))))))))))
 ·
  have hm0:0<m:=by omega
  refine C.region (O.mv (O.mv (O.capL U63 rfl (O.subNil U63 Z5 rfl rfl (O.mv (O.appZ (G:=byteF) (zx:=(0:UInt8)) (m:=m) U63 U3 ti5 tz5 ts5 rfl rfl rfl (by omega) (by rw[tb5];omega) (by unfold maxLen;omega) (Nat.le_refl _) (λb22 cap22 w1 hb22 hcap22 h22 e1=>?_)))))));have z1:=e1.size;have h22s:=h22.sl;refine O.mv (O.lenL U63 rfl (O.subLo U63 Z5 rfl rfl (by omega) (by omega) (O.j (O.o (K4 (C.sr λK7=>O.mv (O.j (K7 (C.ret (Outs.one rfl rfl ?_))))))))))
  first
  |(have hf:=h22
    have hq:(List.replicate m (0:UInt8)).length=m:=by simp
    rw[show Value.slice (some ⟨b22,0,none⟩) m cap22=Value.slice (some ⟨b22,0,none⟩) (List.replicate m (0:UInt8)).length cap22 from by rw[hq]] at hf;exact ⟨e1,((hf.first (k:=0) (Nat.zero_le _)).low (by omega)).lst rfl⟩)
  |exact ⟨e1,OwnF.nil _ _ _ _⟩
 refine C.skip (K4 (C.sr λK8=>O.mv (O.j (K8 (C.ret (Outs.one rfl rfl ?_))))))
 first
 |(have hf:={app:22}
   have hq:(List.replicate m (0:UInt8)).length=m:=by simp
   rw[show Value.slice (some ⟨b22,0,none⟩) m cap22=Value.slice (some ⟨b22,0,none⟩) (List.replicate m (0:UInt8)).length cap22 from by rw[hq]] at hf;exact ⟨leR,((hf.first (k:=0) (Nat.zero_le _)).low (by omega)).lst rfl⟩)
 |exact ⟨leR,OwnF.nil _ _ _ _⟩
theorem concat_spec (v0:Value)(ps:List (List UInt8))(F:Nat->Prop)(w:World)(hl:Sl (sliE byteE) w F v0 ps)(hn:ps.flatten.length<=139000000000000):
 Ret prog 162 #[v0] w (λv w'=>Le w w'∧OwnF byteF 5 w.heap.size w' v (ps.flatten)):=by
 have hle:=hl.le;obtain ⟨ie5,ti5,ts5,tb5,tz5⟩:=inf5;refine enT [v0] 36 func162 rfl rfl (C.sr λK1=>O.j (K1 (C.sr λK2=>O.j (K2 (C.sq λK3=>C.sr λK4=>O.mv (O.len U211 rfl hl (O.mv (K4 (C.bl λK5=>C.loop0 (σ:=Nat) (λf0 w0 k f wz=>f 3=.int .i64 (((ps.take k).flatten.length:Nat))∧f 11=.int .i64 (k)∧f 0=f0 0∧f 2=f0 2∧f 9=f0 9∧f 10=f0 10∧Le w wz∧k<=ps.length) (λk=>ps.length-k) 0 ?_ ?_)))))))))
 ·
  refine ⟨rfl,rfl,rfl,rfl,rfl,rfl,leR,?_⟩;exact Nat.zero_le _
 rintro k f_1 w1 ⟨s3_1,s11_1,s0_1,s2_1,s9_1,s10_1,e_1,hk⟩;have z_1:=e_1.size;refine C.sr λK6=>O.lssI s11_1 s10_1 (K6 (C.sq λK7=>C.condD rfl (λc12=>?_) (λc12=>?_)))
 ·
  have hk2:k<ps.length:=by omega
  have hfk:=Cn.flatten_take_le ps (k+1);refine C.skip (K7 (C.sq λK8=>C.bl λK9=>C.sr λK10=>O.idx U211 Z63 rfl s9_1 (hl.L e_1) s11_1 (by omega) (λa13 h13=>O.loadSl isAgg63 rfl h13 (λv14 h14=>O.j (K10 (C.sr λK11=>O.mv (O.mv (O.len U63 rfl h14 (O.addI s3_1 rfl (by have h9:=Cn.flatten_take hk2;have h8:(ps.take (k+1)).flatten.length=(ps.take k).flatten.length+ps[k].length:=(by rw[h9,List.length_append]);simp only[Int.toNat_natCast];unfold InI;omega) ?_)))))))));refine O.cast (v':=.int .i64 (((ps.take (k+1)).flatten.length:Nat):Int)) (cI (by rw[Cn.flatten_take hk2,List.length_append,Int.natCast_add];rfl)) (O.j (K11 (C.sr λK12=>O.mv (O.lssI rfl rfl (O.cast (v':=.bool false) (cB (by exact dF (by omega))) (K12 (C.condF rfl (C.skip (K9 (K8 (C.region (O.ad s11_1 rfl (O.mv (O.o (⟨k+1,⟨rfl,rfl,s0_1,s2_1,s9_1,s10_1,e_1,?_⟩,by first|omega|(simp only[];omega)⟩)))))))))))))))
  omega
 have hfk:=Cn.flatten_take_le ps k;refine C.exit (K5 (K3 (C.sr λK13=>O.mv (O.call call204 (args2 rfl s3_1) (grow_spec _ _ (by omega)) ?_))));rintro v_24 w2 ⟨e2,h24⟩;have z2:=e2.size;have h24s:=h24.sl;refine O.j (K13 (C.sq λK14=>C.sr λK15=>O.mv (O.len U211 s0_1 ((hl.L e_1).L e2) (O.mv (K15 (C.bl λK16=>C.loop0 (σ:=Nat×Value) (λf0 w0 ⟨k,o⟩ f wz=>f 6=o∧f 27=.int .i64 (k)∧f 2=f0 2∧f 25=f0 25∧f 26=f0 26∧Le w wz∧OwnF byteF 5 w.heap.size wz o ((ps.take k).flatten)∧k<=ps.length) (λ⟨k,o⟩=>ps.length-k) (0,v_24) ?_ ?_))))))
 ·
  refine ⟨rfl,rfl,rfl,rfl,rfl,(Ext.T e_1 e2),(h24.low (by omega)),?_⟩;exact Nat.zero_le _
 rintro ⟨k,o⟩ f_2 w3 ⟨s6_2,s27_2,s2_2,s25_2,s26_2,e_2,r0_2,hk⟩;have z_2:=e_2.size;have r0_2s:=r0_2.sl;refine C.sr λK17=>O.lssI s27_2 s26_2 (K17 (C.sq λK18=>C.condD rfl (λc28=>?_) (λc28=>?_)))
 ·
  have hk2:k<ps.length:=by omega
  have hfk:=Cn.flatten_take_le ps (k+1);rw[Cn.flatten_take hk2,List.length_append] at hfk;refine C.skip (K18 (C.sq λK19=>C.bl λK20=>C.sr λK21=>O.idx U211 Z63 rfl (Eq.trans s25_2 s0_1) (hl.L e_2) s27_2 (by omega) (λa29 h29=>O.loadSl isAgg63 rfl h29 (λv30 h30=>O.j (K21 (C.region (O.mv (O.mv (O.appF (G:=byteF) U63 ti5 tz5 ts5 rfl s6_2 rfl r0_2 h30 (by rw[tb5];simp only[Int.toNat_natCast];omega) (by unfold maxLen;simp only[Int.toNat_natCast];omega) (by omega) (λv33 w4 h33 e4=>?_))))))))));have z4:=e4.size;have h33s:=h33.sl;refine O.j (O.o (K20 (K19 (C.region (O.ad s27_2 rfl (O.mv (O.o (⟨(k+1,_),⟨rfl,rfl,s2_2,s25_2,s26_2,(Ext.new e_2 e4 (by intro i hi h;have:=r0_2.bk_ge i h;omega)),(h33.lst (Cn.flatten_take hk2).symm),?_⟩,by first|omega|(simp only[];omega)⟩))))))))
  omega
 refine C.exit (K16 (K14 (C.sr λK22=>O.mv (O.j (K22 (C.ret (Outs.one rfl s6_2 ?_)))))));obtain rfl:k=ps.length:=by omega
 rw[List.take_length] at r0_2;exact ⟨e_2,r0_2⟩
theorem inf26:∃ie,prog.info? 26=some ie∧ie.size=1∧ie.bytes=8∧ie.zero=some (.int .u64 0):=by
 have h:(prog.info? 26).isSome=true:=by kernel_rfl
 exact ⟨(prog.info? 26).get h,(Option.some_get h).symm,by kernel_rfl,by kernel_rfl,by kernel_rfl⟩
theorem inf47:∃ie,prog.info? 47=some ie∧ie.size=2∧ie.bytes=24∧ie.zero=some (.agg #[.string ⟨#[]⟩,.int .u64 0]):=by
 have h:(prog.info? 47).isSome=true:=by kernel_rfl
 exact ⟨(prog.info? 47).get h,(Option.some_get h).symm,by kernel_rfl,by kernel_rfl,by kernel_rfl⟩
end Go.Proofs.YtlgjaminfabchaaGreatDoor
end
section
namespace Go.Proofs
open Go.Shelf
def Tryz.lays169_ren:Go.Shelf.Ren:=⟨λ|169=>82|n=>n,λ|70=>137|9=>9|0=>0|72=>139|37=>63|127=>180|3=>3|5=>5|n=>n,λ|n=>n⟩
theorem Tryz.lays169:Go.Proofs.Lays.n169 Tryz.prog Tryz.lays169_ren:={
 mixed:=by kernel_rfl
 f169:=Tryz.func82.trans (congrArg some (by kernel_rfl))
 t0:=Tryz.underlying0
 a0:=Tryz.isAgg0
 z0:=Tryz.sizeOf0
 v0:=Tryz.zeroValue0
 t3:=U3
 a3:=Tryz.isAgg3
 z3:=Z3
 v3:=Tryz.zeroValue3
 t9:=U9
 a9:=Tryz.isAgg9
 z9:=Z9
 v9:=Tryz.zeroValue9
 t37:=U63
 a37:=Tryz.isAgg63
 z37:=Z63
 v37:=Tryz.zeroValue63
 t70:=Tryz.underlying137
 a70:=Tryz.isAgg137
 z70:=Tryz.sizeOf137
 v70:=Tryz.zeroValue137
 t72:=Tryz.underlying139
 a72:=Tryz.isAgg139
 z72:=Tryz.sizeOf139
 v72:=Tryz.zeroValue139
 t127:=Tryz.underlying180
 a127:=Tryz.isAgg180
 z127:=Tryz.sizeOf180
 v127:=Tryz.zeroValue180}
theorem Tryz.Builder_Extra_169:Builder.Extra Tryz.prog Tryz.lays169_ren:={
 sizeBuilder:=by kernel_rfl
 liesBuilder:=by kernel_rfl
 t5:=U5
 a5:=Tryz.isAgg5
 z5:=Z5
 v5:=Tryz.zeroValue5
 infoByte:=by kernel_rfl
 cellsByte:=by kernel_rfl
 sizeByte:=by kernel_rfl
 neB5:=by decide}
def Tryz.lays167_ren:Go.Shelf.Ren:=⟨λ|167=>81|169=>82|240=>125|276=>165|n=>n,λ|31=>45|9=>9|3=>3|4=>4|0=>0|20=>20|72=>139|70=>137|37=>63|75=>141|127=>180|164=>215|5=>5|80=>143|n=>n,λ|n=>n⟩
theorem Tryz.lays167:Go.Proofs.Lays.n167 Tryz.prog Tryz.lays167_ren:={
 mixed:=by kernel_rfl
 f167:=Tryz.func81.trans (congrArg some (by kernel_rfl))
 f240:=Tryz.func125.trans (congrArg some (by kernel_rfl))
 f276:=Tryz.func165.trans (congrArg some (by kernel_rfl))
 t0:=Tryz.underlying0
 a0:=Tryz.isAgg0
 z0:=Tryz.sizeOf0
 v0:=Tryz.zeroValue0
 t4:=Tryz.underlying4
 a4:=Tryz.isAgg4
 z4:=Tryz.sizeOf4
 v4:=Tryz.zeroValue4
 t5:=U5
 a5:=Tryz.isAgg5
 z5:=Z5
 v5:=Tryz.zeroValue5
 t9:=U9
 a9:=Tryz.isAgg9
 z9:=Z9
 v9:=Tryz.zeroValue9
 t20:=Tryz.underlying20
 a20:=Tryz.isAgg20
 z20:=Tryz.sizeOf20
 v20:=Tryz.zeroValue20
 t37:=U63
 a37:=Tryz.isAgg63
 z37:=Z63
 v37:=Tryz.zeroValue63
 t70:=Tryz.underlying137
 a70:=Tryz.isAgg137
 z70:=Tryz.sizeOf137
 v70:=Tryz.zeroValue137
 t72:=Tryz.underlying139
 a72:=Tryz.isAgg139
 z72:=Tryz.sizeOf139
 v72:=Tryz.zeroValue139
 t75:=Tryz.underlying141
 a75:=Tryz.isAgg141
 z75:=Tryz.sizeOf141
 v75:=Tryz.zeroValue141
 t164:=Tryz.underlying215
 a164:=Tryz.isAgg215
 z164:=Tryz.sizeOf215
 v164:=Tryz.zeroValue215}
theorem Tryz.Builder_Extra_167:Builder.Extra Tryz.prog Tryz.lays167_ren:={
 sizeBuilder:=by kernel_rfl
 liesBuilder:=by kernel_rfl
 t5:=U5
 a5:=Tryz.isAgg5
 z5:=Z5
 v5:=Tryz.zeroValue5
 infoByte:=by kernel_rfl
 cellsByte:=by kernel_rfl
 sizeByte:=by kernel_rfl
 neB5:=by decide}
open Go.RowKit in
theorem Tryz.Builder_WriteByte (B b:Nat)(bs:List Value)(c:Int)(w:World)(h:Lib.IsBuilder 139 5 B b bs w)(hlen:bs.length+1<=140737488355328)(hBw:B<=w.heap.size):
 Calls Tryz.prog 81 #[.pointer (some ⟨b,0,none⟩),.int .u8 c] w λe w'=>e=.returned .nilIface∧(Lib.BuilderAt 139 5 B b (.pointer (some ⟨b,0,none⟩)) (bs++[.int .u8 c]) w'∧Below B w w'):=Any.Builder_WriteByte Tryz.lays167 Tryz.Builder_Extra_167 B b bs c w h hlen hBw
open Go.RowKit in
theorem Tryz.Builder_String_any (B b:Nat)(l:List UInt8)(w:World)(h:Lib.IsBuilder 139 5 B b (Lib.byteCells l) w)(hBw:B<=w.heap.size):
 Calls Tryz.prog 82 #[.pointer (some ⟨b,0,none⟩)] w λe w'=>e=.returned (.string ⟨l.toArray⟩)∧Below B w w':=Any.Builder_String_any Tryz.lays169 Tryz.Builder_Extra_169 B b l w h hBw
end Go.Proofs
end
section
namespace Go.Proofs.YtlgjaminfabchaaGreatDoor
open Go.Pn Go.RowKit Go.Proofs _root_.Go.Proofs.Tryz
attribute [local irreducible] O C D
def Bu (w:World)(B b:Nat)(xs:List UInt8):Prop:=Lib.IsBuilder 139 5 B b (Lib.byteCells xs) w∧B<=w.heap.size
theorem Bu.of {w:World}{B b:Nat}(h:Own0 w b 139 [.pointer none,.slice none 0 0])(hB:B<=b):Bu w B b []:=
 ⟨.inl ⟨hB,_,h,World.ownsRow_nil _ _ _ _,by simp[Value.ownBlock]⟩,by have:=h.lt;omega⟩
theorem ext_below {B:Nat}{w w':World}(h:Below B w w'):Ext (λk=>B<=k) w w':=⟨h.os,h.tape,h.output,h.size,λk _ hk=>h.block k (by omega)⟩
theorem wbyte_spec (B b:Nat)(xs:List UInt8)(c:UInt8)(w:World)(h:Bu w B b xs)(hx:xs.length<=140737488355327):
 Ret prog 81 #[.pointer (some ⟨b,0,none⟩),.int .u8 (c.toNat:Int)] w (λv w'=>v=.nilIface∧Bu w' B b (xs++[c])∧Ext (λk=>B<=k) w w'):=by
 refine Ret.of (Tryz.Builder_WriteByte B b _ (c.toNat:Int) w h.1 (by simp[Lib.byteCells];omega) h.2) ?_;rintro e w' ⟨rfl,h1,h2⟩;refine ⟨_,rfl,rfl,⟨.inr ?_,Nat.le_trans h.2 h2.size⟩,ext_below h2⟩;have e9:Lib.byteCells (xs++[c])=Lib.byteCells xs++[.int .u8 (c.toNat:Int)]:=by simp[Lib.byteCells]
 rw[e9];exact h1
theorem bstr_spec (B b:Nat)(xs:List UInt8)(w:World)(h:Bu w B b xs):
 Ret prog 82 #[.pointer (some ⟨b,0,none⟩)] w (λv w'=>v=str xs∧Ext (λk=>B<=k) w w'):=by
 refine Ret.of (Tryz.Builder_String_any B b xs w h.1 h.2) ?_;rintro e w' ⟨rfl,h2⟩;exact ⟨_,rfl,rfl,ext_below h2⟩
theorem dsum_spec (v0:Value)(l:List (BitVec 64))(F:Nat->Prop)(w:World)(hl:Sl u64F.enc w F v0 l)(hn:l.length<=100000)(hg:Row u64E w (λk=>k=0) 0 0 [Dg.off,Dg.prime]):
 Ret prog 49 #[v0] w (λv w'=>v=.int .u64 ((Dg.sum l).toNat:Int)∧Le w w'):=by
 have hle:=hl.le;refine enT [v0] 25 func49 rfl rfl (C.sr λK1=>O.j (K1 (C.sr λK2=>O.alloc zeroValue139 (λb3 w1 hb3 hz3 e1=>?_))));have z1:=e1.size;have hl3:=hz3.own.lt;have hbu0:=Bu.of hz3 hb3;refine K2 (C.sq λK3=>C.sr λK4=>O.mv (O.len U101 rfl (hl.L e1) (O.mv (K4 (C.bl λK5=>C.loop0 (σ:=Nat) (λf0 w0 k f wz=>f 9=.int .i64 ((k:Int))∧f 2=f0 2∧f 3=f0 3∧f 7=f0 7∧f 8=f0 8∧Le w wz∧Bu wz w.heap.size b3 ((l.take k).flatMap Dg.be8)∧k<=l.length) (λk=>l.length-k) 0 ?_ ?_)))))
 ·
  refine ⟨rfl,rfl,rfl,rfl,rfl,e1,hbu0,?_⟩;exact Nat.zero_le _
 rintro k f_1 w2 ⟨s9_1,s2_1,s3_1,s7_1,s8_1,e_1,r0_1,hk⟩;have z_1:=e_1.size;refine C.sr λK6=>O.lssI s9_1 s8_1 (K6 (C.sq λK7=>C.condD rfl (λc10=>?_) (λc10=>?_)))
 ·
  have hk2:k<l.length:=by omega
  have sp1_:∃q,q=l[k]:=⟨_,rfl⟩
  obtain ⟨x,hx9⟩:=sp1_;refine C.skip (K7 (C.sq λK8=>C.bl λK9=>C.sr λK10=>O.idx U101 Z26 rfl s7_1 (hl.L e_1) s9_1 (by omega) (λa11 h11=>O.loadU64 isAgg26 rfl h11 (O.cast (v':=.int .u64 (x.toNat:Int)) (by rw[hx9];rfl) (O.j (K10 (C.sr λK11=>O.j (K11 (C.bl λK12=>C.loop0 (σ:=Nat) (λf0 w0 j f wz=>f 6=.int .i64 ((56-8*(j:Int)))∧f 2=f0 2∧f 3=f0 3∧f 5=f0 5∧f 7=f0 7∧f 8=f0 8∧f 9=f0 9∧Le w wz∧Bu wz w.heap.size b3 ((l.take k).flatMap Dg.be8++(Dg.be8 x).take j)∧j<=8) (λj=>8-j) 0 ?_ ?_)))))))))
  ·
   refine ⟨rfl,rfl,rfl,rfl,rfl,rfl,rfl,e_1,(by rw[List.take_zero,List.append_nil];exact r0_1),?_⟩;exact Nat.zero_le _
  rintro j f_2 w3 ⟨s6_2,s2_2,s3_2,s5_2,s7_2,s8_2,s9_2,e_2,r0_2,hj⟩;have z_2:=e_2.size;refine C.sq λK13=>C.sr λK14=>O.mv (O.geqI s6_2 rfl (K14 (C.condD rfl (λc14=>?_) (λc14=>?_))))
  ·
   have hj2:j<8:=by omega
   refine C.skip (K13 (C.sq λK15=>C.bl λK16=>C.region (O.mv (O.mv (O.cast (v':=.int .i64 ((56-8*j:Nat):Int)) (Eq.trans s6_2 (cI (by omega))) (O.shrU (m:=64) rfl rfl s5_2 rfl (O.convUU (m:=64) (m':=8) U26 U5 rfl rfl rfl (O.call call81 (args2 (Eq.trans s3_2 s3_1) rfl) (wbyte_spec w.heap.size b3 _ (UInt8.ofBitVec ((x>>>(56-8*j)).setWidth 8)) _ r0_2 (by rw[List.length_append,Dg.be8_flat_len,List.length_take,List.length_take];have:=Dg.be8_len x;omega)) ?_))))))));rintro v_21 w4 ⟨rfl,hbuv21,e4⟩;have z4:=e4.size;refine O.o (K16 (K15 (C.region (O.mv (O.sb s6_2 rfl (O.j (O.o (⟨j+1,⟨(Eq.trans rfl (cI (by omega))),s2_2,s3_2,s5_2,s7_2,s8_2,s9_2,(Ext.new e_2 e4 (by intro i hi h;(try dsimp only at h);omega)),(by rw[Dg.be8_take x hj2,<-List.append_assoc];exact hbuv21),?_⟩,by first|omega|(simp only[];omega)⟩))))))))
   omega
  refine C.exit (K12 (K9 (K8 (C.region (O.ad (Eq.trans s9_2 s9_1) rfl (O.mv (O.o (⟨k+1,⟨rfl,(Eq.trans s2_2 s2_1),(Eq.trans s3_2 s3_1),(Eq.trans s7_2 s7_1),(Eq.trans s8_2 s8_1),e_2,(by rw[Dg.be8_flat_take l hk2,<-hx9,show Dg.be8 x=(Dg.be8 x).take j from (List.take_of_length_le (by rw[Dg.be8_len];omega)).symm];exact r0_2),?_⟩,by first|omega|(simp only[];omega)⟩))))))))
  omega
 refine C.exit (K5 (K3 (C.sr λK17=>O.call call82 (args1 s3_1) (bstr_spec w.heap.size b3 _ _ r0_1) ?_)));rintro v_23 w5 ⟨rfl,e5⟩;have z5:=e5.size;have t0:=Ext.new e_1 e5 (by intro i hi h;(try dsimp only at h);omega);refine O.call call11 (args1 rfl) (hash_spec _ _ (by rw[Dg.be8_flat_len];unfold maxLen;rw[List.length_take];omega) (hg.L t0)) ?_;rintro v_24 w6 ⟨rfl,e6⟩;have z6:=e6.size;refine O.j (K17 (C.ret (Outs.one rfl rfl ?_)));have hk2:k=l.length:=by omega
 exact ⟨by rw[hk2,List.take_length];rfl,(Ext.T t0 e6)⟩
theorem cloneL_spec (v0:Value)(l:List (Dg.Leaf))(F:Nat->Prop)(w:World)(hl:Sl leafF.enc w F v0 l)(hn:l.length<=1000000000000):
 Ret prog 48 #[v0] w (λv w'=>Le w w'∧OwnF leafF 47 w.heap.size w' v l):=by
 have hle:=hl.le;obtain ⟨ie47,ti47,ts47,tb47,tz47⟩:=inf47;refine enT [v0] 8 func48 rfl rfl (C.sr λK1=>O.j (K1 (C.sq λK2=>C.sr λK3=>O.mv (O.eqlNilS U28 rfl hl (K3 (C.cond rfl (λc4=>?_) (λc4=>?_)))))))
 ·
  refine C.sr λK4=>O.j (K4 (C.ret (Outs.one rfl rfl ?_)))
  first
  |(obtain rfl:=isNilS_nil hl c4
    exact ⟨leR,OwnF.nil _ _ _ _⟩)
  |exact ⟨leR,{app:7}⟩
 refine C.skip (K2 (C.sr λK5=>O.lit0 U28 ti47 (λb5 w1 hb5 hz5 e1=>?_)));have z1:=e1.size;have hl5:=hz5.own.lt;have h1005:OwnF leafF 47 w.heap.size w1 _ []:=OwnF.lit0 hz5 hb5;refine O.mv (O.appF (G:=leafF) U28 ti47 tz47 ts47 rfl rfl rfl h1005 (hl.L e1) (by rw[tb47];simp;omega) (by unfold maxLen;simp;omega) (by omega) (λv7 w2 h7 e2=>?_));have z2:=e2.size;have h7s:=h7.sl;refine O.j (K5 (C.ret (Outs.one rfl rfl ?_)))
 first
 |(obtain rfl:=isNilS_nil hl c4
   exact ⟨(Ext.new e1 e2 (by intro i hi h;have:=h1005.bk_ge i h;omega)),OwnF.nil _ _ _ _⟩)
 |exact ⟨(Ext.new e1 e2 (by intro i hi h;have:=h1005.bk_ge i h;omega)),h7⟩
theorem dgrown_spec (v0:Value)(l:List Dg.Leaf)(F:Nat->Prop)(w:World)(hl:Sl leafF.enc w F v0 l)(hn:l.length<=100000)(hk0:∀x∈l,x.1.length<=1000000)(hg:Row u64E w (λk=>k=0) 0 0 [Dg.off,Dg.prime]):
 Ret prog 31 #[v0] w (λv w'=>∃vl,v=.agg (dgC vl (Dg.bks l) (Dg.sum (Dg.bks l))).toArray∧Sl leafF.enc w' (λj=>w.heap.size<=j∧j<w'.heap.size) vl l∧Le w w'):=by
 have hle:=hl.le;have hbl:=Dg.bks_len l;obtain ⟨ie26,ti26,ts26,tb26,tz26⟩:=inf26;obtain ⟨ie47,ti47,ts47,tb47,tz47⟩:=inf47;refine enT [v0] 48 func31 rfl rfl (C.sr λK1=>O.alloc zeroValue31 (λb2 w1 hb2 hz2 e1=>?_));have z1:=e1.size;have h2:=hz2.own;have hl2:=h2.lt;replace h2:Own w1 b2 31 (dgC (.slice none 0 0) (List.replicate 16 0#64) 0#64):=h2;refine K1 (C.sr λK2=>O.mv (O.call call48 (args1 rfl) (cloneL_spec v0 l F _ (hl.L e1) (by omega)) ?_));rintro v_11 w2 ⟨e2,h11⟩;have z2:=e2.size;have sp1_:∃n,n=w2.heap.size:=⟨_,rfl⟩
 obtain ⟨BA,hBA⟩:=sp1_;have hl9:Sl leafF.enc w2 (λj=>b2<j∧j<BA) v_11 l:=h11.sl.weak (λj hj=>by have q:=h11.bk_ge j hj;exact ⟨by omega,by omega⟩);have sp2_:=hl9.val;obtain ⟨a9,c9,hv9,_⟩:=sp2_;rw[hv9] at hl9;have hv9o:((.slice a9 l.length c9):Value).oneCell'=true:=rfl;refine O.cast (v':=(.slice a9 l.length c9)) hv9 (O.build (cells:=#[(.slice a9 l.length c9),.int .u64 0,.int .u64 0,.int .u64 0,.int .u64 0,.int .u64 0,.int .u64 0,.int .u64 0,.int .u64 0,.int .u64 0,.int .u64 0,.int .u64 0,.int .u64 0,.int .u64 0,.int .u64 0,.int .u64 0,.int .u64 0,.int .u64 0]) rfl (by kernel_rfl) (O.alloc zeroValue31 (λb3 w3 hb3 hz3 e3=>?_)));have z3:=e3.size;have h3:=hz3.own;have hl3:=h3.lt;refine O.storeA (vs:=[(.slice a9 l.length c9),.int .u64 0,.int .u64 0,.int .u64 0,.int .u64 0,.int .u64 0,.int .u64 0,.int .u64 0,.int .u64 0,.int .u64 0,.int .u64 0,.int .u64 0,.int .u64 0,.int .u64 0,.int .u64 0,.int .u64 0,.int .u64 0,.int .u64 0]) Z31 rfl rfl rfl (dgC_ones (bs:=List.replicate 16 0#64) (r:=0#64) hv9o) h3 (leB rfl) (λw4 hs4 e4 z4=>?_);replace hs4:Own w4 b3 31 (dgC (.slice a9 l.length c9) (Dg.bksP l 0) 0#64):=hs4;refine K2 (C.sr λK3=>O.alloc zeroValue102 (λb4 w5 hb4 hz4 e5=>?_));have z5:=e5.size;have h4:=hz4.own;have hl4:=h4.lt;replace h4:Own w5 b4 102 (List.replicate 16 (.slice none 0 0)):=h4;refine K3 (C.sq λK4=>C.sr λK5=>O.mv ?_);have t0:=Ext.T (Ext.T e1 e2) e3;have t1:=Ext.T (Ext.nr t0 e4) e5;refine O.len U28 rfl (hl.L t1) (O.mv (K5 (C.bl λK6=>C.loop0 (σ:=Nat×List Value) (λf0 w0 ⟨i,ps⟩ f wz=>f 15=.int .i64 ((i:Int))∧f 2=f0 2∧f 3=f0 3∧f 4=f0 4∧f 13=f0 13∧f 14=f0 14∧Le w wz∧Own wz b2 31 (dgC (.slice none 0 0) (List.replicate 16 0#64) 0#64)∧Own wz b3 31 (dgC (.slice a9 l.length c9) (Dg.bksP l 0) 0#64)∧Sl leafF.enc wz (λj=>b2<j∧j<BA) (.slice a9 l.length c9) l∧Parts 26 102 (b4+1) b4 wz ps (Dg.parts (l.take i))∧i<=l.length) (λ⟨i,ps⟩=>l.length-i) (0,List.replicate 16 (.slice none 0 0)) ?_ ?_)))
 ·
  refine ⟨rfl,rfl,rfl,rfl,rfl,rfl,t1,((((h2.L e2).L e3).kO e4).L e5),(hs4.L e5),(((hl9.L e3).kM e4 (by intro k9 hk9 h;(try dsimp only at hk9);(try dsimp only at h);omega)).L e5),(by rw[List.take_zero,Dg.parts_nil];exact Parts.zero h4),?_⟩;exact Nat.zero_le _
 rintro ⟨i,ps⟩ f_1 w6 ⟨s15_1,s2_1,s3_1,s4_1,s13_1,s14_1,e_1,r0_1,r1_1,r2_1,r3_1,hi⟩;have z_1:=e_1.size;refine C.sr λK7=>O.lssI s15_1 s14_1 (K7 (C.sq λK8=>C.condD rfl (λc16=>?_) (λc16=>?_)))
 ·
  have hi2:i<l.length:=by omega
  have hb4l:=(r3_1).own.lt;have hplt:∀i9,∀hi9:i9<ps.length,∀k9,bk (ps[i9]) k9->b4<k9∧k9<w6.heap.size:=λi9 hi9 k9 hk9=>by
   have q:=((r3_1).each i9 hi9 (by rw[<-(r3_1).len];exact hi9)).bk_ge k9 hk9;exact ⟨by omega,q.2⟩
  have sp3_:∃q,q=l[i]:=⟨_,rfl⟩
  obtain ⟨x,hx9⟩:=sp3_;have hxm:x.1.length<=maxLen:=by have:=hk0 x (by rw[hx9];exact List.getElem_mem _);unfold maxLen;omega
  have sp4_:∃q,q=Dg.bucket x.1:=⟨_,rfl⟩
  obtain ⟨k,hk9⟩:=sp4_;have hk16:k<16:=by rw[hk9];exact Dg.bucket_lt _
  have hpll:=(r3_1).len;rw[Dg.parts_len] at hpll;have hkp:k<ps.length:=by omega
  have hkl:k<(Dg.parts (l.take i)).length:=by rw[Dg.parts_len];omega
  have hpln:((Dg.parts (l.take i))[k]).length<=l.length:=by rw[Dg.parts_at];have q:=Dg.part_len (l.take i) k;rw[List.length_take] at q;omega
  refine C.skip (K8 (C.sq λK9=>C.bl λK10=>C.sr λK11=>O.idx U28 Z47 rfl s13_1 (hl.L e_1) s15_1 (by omega) (λa17 h17=>O.loadG (G:=leafF) isAgg47 Z47 rfl h17 (O.cast (v':=.agg #[str x.1,.int .u64 (x.2.toNat:Int)]) (by rw[hx9];rfl) (O.alloc zeroValue47 (λb6 w7 hb6 hz6 e7=>?_))))));have z7:=e7.size;have h6:=hz6.own;have hl6:=h6.lt;refine O.storeA (vs:=[str x.1,.int .u64 (x.2.toNat:Int)]) Z47 rfl rfl rfl (ones2 rfl) h6 (leB rfl) (λw8 hs8 e8 z8=>K11 (C.sr λK12=>O.fa U47 rfl Z9 rfl (O.loadO isAgg9 rfl hs8 rfl ?_)));have t2:=Ext.T e_1 e7;refine O.call call10 (args1 rfl) (bucket_spec x.1 _ hxm (hg.L (Ext.nr t2 e8))) ?_;rintro v_21 w9 ⟨rfl,e9⟩;have z9:=e9.size;have t3:=(r3_1.L e7).kO e8 (λi9 hi9 k9 hk9 h=>by have q:=hplt i9 hi9 k9 hk9;(try dsimp only at h);omega);have ho4:=((t3.L e9)).own;have hb46:=ho4.lt;refine O.cast (v':=.int .i64 (k:Int)) (by rw[hk9]) (O.j (K12 (C.drawM (λj=>j=b4∨bk (ps[k]'hkp) j) (by kernel_rfl) λw10 e10=>?_)));have z10:=e10.size;refine DM.take (i:=0) rfl rfl rfl rfl (by kernel_rfl) (Ext.L _ _) ⟨pure _,rfl⟩ (λ_ hw_ _ hN=>O.mv (O.o hN)) (DM.take (i:=1) rfl rfl rfl rfl (by kernel_rfl) (Ext.L _ _) ⟨pure _,rfl⟩ (λ_ hw_ _ hN=>O.mv (O.o hN)) (DM.take (i:=2) rfl rfl rfl rfl (by kernel_rfl) (Ext.L _ _) ⟨_,rfl⟩ (λ_ hw_ _ hN=>O.idxA U102 Z101 s4_1 rfl (by omega) (O.o hN)) (DM.take (i:=4) rfl rfl rfl rfl (by kernel_rfl) (Ext.L _ _) ⟨_,rfl⟩ (λ_ hw_ _ hN=>O.fa U47 rfl Z26 rfl (O.o hN)) ?_)));refine DM.take (i:=5) rfl rfl rfl rfl (by kernel_rfl) (Ext.L _ _) ⟨_,rfl⟩ (λ_ hw_ _ hN=>O.loadO isAgg26 rfl (((hs8.L e9).L e10).kM hw_ (λh9=>h9.elim (λq=>by omega) (λq=>by have q2:=hplt k hkp _ q;omega))) rfl (O.o hN)) (DM.many [3,6] (by kernel_rfl) (by decide) ⟨?_,?_,trivial⟩)
  ·
   refine DM.stepU rfl rfl (O.loadO isAgg101 rfl (ho4.L e10) (by simp only[Int.toNat_natCast,Nat.zero_add,Nat.mul_one];exact List.getElem?_eq_getElem hkp) ?_);refine O.o ⟨(Ext.L _ _),?_⟩;have hp25:=(((t3.L e9).L e10)).each k hkp hkl;refine DM.one (i:=6) rfl rfl (by kernel_rfl) (O.lit1 U101 ti26 ts26 tz26 rfl rfl (λb28 w11 hb28 hz28 e11=>?_));have z11:=e11.size;have h28:=hz28.own;have hl28:=h28.lt;refine O.o ⟨(Ext.new (Ext.L _ _) e11 (by intro i9 _ h9;first|exact h9.elim|exact .inl h9|exact .inr h9)),DM.one (i:=7) rfl rfl (by kernel_rfl) (O.appW (G:=u64F) U101 ti26 tz26 ts26 rfl rfl rfl (hp25.L e11) (Sl.one (G:=u64F) (x:=x.2) h28 rfl rfl) (by rw[tb26];simp only[List.length_cons,List.length_nil];omega) (by unfold maxLen;simp only[List.length_cons,List.length_nil];omega) (by omega) (λv29 w12 h29 e12 hw29=>?_))⟩;have z12:=e12.size;have h29s:=h29.sl;refine O.o ⟨(Ext.new (Ext.new (Ext.L _ _) e11 (by intro i9 _ h9;first|exact h9.elim|exact .inl h9|exact .inr h9)) e12 (by intro i9 _ h9;first|exact h9.elim|exact .inl h9|exact .inr h9)),?_⟩;have hq29:=(((t3.L e9).L e10).L e11)
   have eq29:=e12;refine DM.take (i:=8) rfl rfl rfl rfl (by kernel_rfl) (Ext.new (Ext.new (Ext.L _ _) e11 (by intro i9 _ h9;first|exact h9.elim|exact .inl h9|exact .inr h9)) e12 (by intro i9 _ h9;first|exact h9.elim|exact .inl h9|exact .inr h9)) ⟨_,rfl⟩ (λ_ hw_ _ hN=>O.idxA U102 Z101 s4_1 rfl (by omega) (O.o hN)) (DM.one (i:=9) rfl rfl (by kernel_rfl) (O.store Z101 rfl rfl h29s.oneC (((ho4.L e10).L e11).kM e12 (λh=>by have q:=hplt k hkp _ h;omega)) (by simp only[Int.toNat_natCast];omega) (λw13 hs13 e13 z13=>?_)))
   (try simp only[Int.toNat_natCast] at hs13);(try simp only[Nat.zero_add] at hs13);(try simp only[Nat.mul_one] at hs13)
   have hpt9:=hq29.put hkp h29 eq29 hw29 hs13 e13;refine O.o ⟨(Ext.new (Ext.new (Ext.new (Ext.L _ _) e11 (by intro i9 _ h9;first|exact h9.elim|exact .inl h9|exact .inr h9)) e12 (by intro i9 _ h9;first|exact h9.elim|exact .inl h9|exact .inr h9)) e13 (by intro i9 _ h9;first|exact h9.elim|exact .inl h9|exact .inr h9)),DM.done (by kernel_rfl) (K10 (K9 (C.region (O.ad s15_1 rfl (O.mv (O.o ?_))))))⟩;refine ⟨(i+1,_),⟨rfl,s2_1,s3_1,s4_1,s13_1,s14_1,(Ext.new (Ext.new (Ext.T (Ext.T (Ext.T (Ext.nr t2 e8) e9) e10) e11) e12 (by intro i9 hi9 h;have q:=hplt k hkp _ h;omega)) e13 (by intro i9 hi9 h;(try dsimp only at h);omega)),(((((((r0_1.L e7).kO e8).L e9).L e10).L e11).kM e12 (λh=>by have q:=hplt k hkp _ h;omega)).kO e13),(((((((r1_1.L e7).kO e8).L e9).L e10).L e11).kM e12 (λh=>by have q:=hplt k hkp _ h;omega)).kO e13),(((((((r2_1.L e7).keepA e8).L e9).L e10).L e11).kM e12 (λj9 hj9 h=>by have q:=hplt k hkp _ h;(try dsimp only at hj9);omega)).keepA e13),(by rw[<-Dg.parts_take l hi2 (k:=k) (by rw[<-hx9];exact hk9) hkl,<-hx9];exact hpt9),?_⟩,by first|omega|(simp only[];omega)⟩
   omega
  refine DM.stepU rfl rfl (O.lit1 U101 ti26 ts26 tz26 rfl rfl (λb28 w14 hb28 hz28 e14=>?_));have z14:=e14.size;have h28:=hz28.own;have hl28:=h28.lt;refine O.o ⟨(Ext.new (Ext.L _ _) e14 (by intro i9 _ h9;first|exact h9.elim|exact .inl h9|exact .inr h9)),DM.one (i:=3) rfl rfl (by kernel_rfl) (O.loadO isAgg101 rfl ((ho4.L e10).L e14) (by simp only[Int.toNat_natCast,Nat.zero_add,Nat.mul_one];exact List.getElem?_eq_getElem hkp) ?_)⟩;refine O.o ⟨(Ext.new (Ext.L _ _) e14 (by intro i9 _ h9;first|exact h9.elim|exact .inl h9|exact .inr h9)),?_⟩;have t4:=((t3.L e9).L e10).L e14;have hp25:=(t4).each k hkp hkl;refine DM.one (i:=7) rfl rfl (by kernel_rfl) (O.appW (G:=u64F) U101 ti26 tz26 ts26 rfl rfl rfl hp25 (Sl.one (G:=u64F) (x:=x.2) h28 rfl rfl) (by rw[tb26];simp only[List.length_cons,List.length_nil];omega) (by unfold maxLen;simp only[List.length_cons,List.length_nil];omega) (by omega) (λv29 w15 h29 e15 hw29=>?_));have z15:=e15.size;have h29s:=h29.sl;refine O.o ⟨(Ext.new (Ext.new (Ext.L _ _) e14 (by intro i9 _ h9;first|exact h9.elim|exact .inl h9|exact .inr h9)) e15 (by intro i9 _ h9;first|exact h9.elim|exact .inl h9|exact .inr h9)),?_⟩;have hq29:=t4;have eq29:=e15;refine DM.take (i:=8) rfl rfl rfl rfl (by kernel_rfl) (Ext.new (Ext.new (Ext.L _ _) e14 (by intro i9 _ h9;first|exact h9.elim|exact .inl h9|exact .inr h9)) e15 (by intro i9 _ h9;first|exact h9.elim|exact .inl h9|exact .inr h9)) ⟨_,rfl⟩ (λ_ hw_ _ hN=>O.idxA U102 Z101 s4_1 rfl (by omega) (O.o hN)) (DM.one (i:=9) rfl rfl (by kernel_rfl) (O.store Z101 rfl rfl h29s.oneC (((ho4.L e10).L e14).kM e15 (λh=>by have q:=hplt k hkp _ h;omega)) (by simp only[Int.toNat_natCast];omega) (λw16 hs16 e16 z16=>?_)))
  (try simp only[Int.toNat_natCast] at hs16);(try simp only[Nat.zero_add] at hs16);(try simp only[Nat.mul_one] at hs16)
  have hpt9:=hq29.put hkp h29 eq29 hw29 hs16 e16;refine O.o ⟨(Ext.new (Ext.new (Ext.new (Ext.L _ _) e14 (by intro i9 _ h9;first|exact h9.elim|exact .inl h9|exact .inr h9)) e15 (by intro i9 _ h9;first|exact h9.elim|exact .inl h9|exact .inr h9)) e16 (by intro i9 _ h9;first|exact h9.elim|exact .inl h9|exact .inr h9)),DM.done (by kernel_rfl) (K10 (K9 (C.region (O.ad s15_1 rfl (O.mv (O.o ?_))))))⟩;refine ⟨(i+1,_),⟨rfl,s2_1,s3_1,s4_1,s13_1,s14_1,(Ext.new (Ext.new (Ext.T (Ext.T (Ext.T (Ext.nr t2 e8) e9) e10) e14) e15 (by intro i9 hi9 h;have q:=hplt k hkp _ h;omega)) e16 (by intro i9 hi9 h;(try dsimp only at h);omega)),(((((((r0_1.L e7).kO e8).L e9).L e10).L e14).kM e15 (λh=>by have q:=hplt k hkp _ h;omega)).kO e16),(((((((r1_1.L e7).kO e8).L e9).L e10).L e14).kM e15 (λh=>by have q:=hplt k hkp _ h;omega)).kO e16),(((((((r2_1.L e7).keepA e8).L e9).L e10).L e14).kM e15 (λj9 hj9 h=>by have q:=hplt k hkp _ h;(try dsimp only at hj9);omega)).keepA e16),(by rw[<-Dg.parts_take l hi2 (k:=k) (by rw[<-hx9];exact hk9) hkl,<-hx9];exact hpt9),?_⟩,by first|omega|(simp only[];omega)⟩
  omega
 obtain rfl:i=l.length:=by omega
 have hpt2:=r3_1;rw[List.take_length] at hpt2;have hplt2:∀i9,∀hi9:i9<ps.length,∀k9,bk (ps[i9]) k9->b4<k9:=λi9 hi9 k9 hk9=>by
  have q:=(hpt2.each i9 hi9 (by rw[<-hpt2.len];exact hi9)).bk_ge k9 hk9
  omega
 have hpll:=hpt2.len;rw[Dg.parts_len] at hpll;have ho4:=hpt2.own;refine C.exit (K6 (K4 (C.sq λK13=>C.sr λK14=>O.loadOA isAgg102 sizeOf102 s4_1 ho4 (by omega) (O.cast (v':=.agg ps.toArray) (by rw[List.drop_zero,List.take_of_length_le (by omega)]) (O.mv (K14 (C.bl λK15=>C.loop0 (σ:=Nat) (λf0 w0 k f wz=>f 33=.int .i64 ((k:Int))∧f 2=f0 2∧f 3=f0 3∧f 32=f0 32∧Le w wz∧Own wz b2 31 (dgC (.slice none 0 0) (List.replicate 16 0#64) 0#64)∧Own wz b3 31 (dgC (.slice a9 l.length c9) (Dg.bksP l k) 0#64)∧Sl leafF.enc wz (λj=>b2<j∧j<BA) (.slice a9 l.length c9) l∧Parts 26 102 (b4+1) b4 wz ps (Dg.parts l)∧k<=16) (λk=>16-k) 0 ?_ ?_)))))))
 ·
  refine ⟨rfl,rfl,rfl,rfl,e_1,r0_1,r1_1,r2_1,hpt2,?_⟩;exact Nat.zero_le _
 rintro k f_2 w17 ⟨s33_2,s2_2,s3_2,s32_2,e_2,r0_2,r1_2,r2_2,r3_2,hk⟩;have z_2:=e_2.size;refine C.sr λK16=>O.lssI s33_2 rfl (K16 (C.sq λK17=>C.condD rfl (λc34=>?_) (λc34=>?_)))
 ·
  have hk2:k<16:=by omega
  refine C.skip (K17 (C.sq λK18=>C.bl λK19=>C.sr λK20=>O.mv (O.indexA U102 isAgg101 Z101 s32_2 s33_2 (by omega) (by rw[Int.toNat_natCast];exact List.getElem?_eq_getElem (by omega)) ?_)));have hs36:Sl u64F.enc w17 (bk (ps[k]'(by omega))) (ps[k]'(by omega)) (Dg.part l k):=by
   have q:=((r3_2).each k (by omega) (by rw[Dg.parts_len];omega)).sl;rw[Dg.parts_at] at q;exact q
  refine O.j (O.j (K20 (C.region (O.mv (O.mv (O.call call49 (args1 rfl) (dsum_spec _ (Dg.part l k) _ _ hs36 (by have:=Dg.part_len l k;omega) (hg.L e_2)) ?_))))));rintro v_39 w18 ⟨rfl,e18⟩;have z18:=e18.size;refine O.fa U31 rfl Z29 (Eq.trans s3_2 s3_1) (O.cast (v':=.pointer (some ⟨b3,1,none⟩)) rfl (O.idxA U29 Z26 rfl s33_2 (by omega) (O.store Z26 rfl rfl rfl (r1_2.L e18) (by rw[dgC_len,Dg.bksP_len l (by omega)];simp only[Int.toNat_natCast];omega) (λw19 hs19 e19 z19=>?_))))
  (try simp only[Int.toNat_natCast] at hs19);(try simp only[Nat.zero_add] at hs19);(try simp only[Nat.mul_one] at hs19)
  replace hs19:Own w19 b3 31 (dgC (.slice a9 l.length c9) (Dg.bksP l (k+1)) 0#64):=by
   have q:=hs19;rw[<-Dg.bksP_set l hk2,<-dgC_set (by rw[Dg.bksP_len l (by omega)];omega)];exact q
  refine O.o (K19 (K18 (C.region (O.ad s33_2 rfl (O.mv (O.o (⟨k+1,⟨rfl,s2_2,s3_2,s32_2,(Ext.nr (Ext.T e_2 e18) e19),((r0_2.L e18).kO e19),hs19,((r2_2.L e18).keepA e19),((r3_2.L e18).kO e19 (λi9 hi9 k9 hk9 h=>by have q:=hplt2 i9 hi9 k9 hk9;(try dsimp only at h);omega)),?_⟩,by first|omega|(simp only[];omega)⟩)))))))
  omega
 obtain rfl:k=16:=by omega
 refine C.exit (K15 (K13 (C.sr λK21=>O.fa U31 rfl Z29 (Eq.trans s3_2 s3_1) (O.cast (v':=.pointer (some ⟨b3,1,none⟩)) rfl (O.subA U29 Z26 rfl (.inl ⟨rfl,rfl⟩) (.inl ⟨rfl,rfl⟩) (by decide) ?_)))));have ho3:Own w17 b3 31 (dgC (.slice a9 l.length c9) (Dg.bks l) 0#64):=by
  have q:=r1_2;rw[Dg.bksP_all] at q;exact q
 have hs44:Sl u64F.enc w17 (λj=>j=b3) (.slice (some ⟨b3,1,none⟩) (Dg.bks l).length (Dg.bks l).length) (Dg.bks l):=ho3.slA.resolve_right (by rw[hbl];unfold maxLen;omega);refine O.cast (v':=.slice (some ⟨b3,1,none⟩) (Dg.bks l).length (Dg.bks l).length) (by rw[hbl];rfl) (O.call call49 (args1 rfl) (dsum_spec _ (Dg.bks l) _ _ hs44 (by omega) (hg.L e_2)) ?_);rintro v_45 w20 ⟨rfl,e20⟩;have z20:=e20.size;refine O.fa U31 rfl Z26 (Eq.trans s3_2 s3_1) (O.cast (v':=.pointer (some ⟨b3,17,none⟩)) rfl (O.store Z26 rfl rfl rfl (ho3.L e20) (by rw[dgC_len,hbl];decide) (λw21 hs21 e21 z21=>?_)))
 (try simp only[Int.toNat_natCast] at hs21);(try simp only[Nat.zero_add] at hs21);(try simp only[Nat.mul_one] at hs21)
 replace hs21:Own w21 b3 31 (dgC (.slice a9 l.length c9) (Dg.bks l) (Dg.sum (Dg.bks l))):=by
  rw[<-dgC_setr (Dg.bks_len l) (Dg.sum (Dg.bks l))];exact hs21
 refine K21 (C.sr λK22=>O.loadOA isAgg31 Z31 (Eq.trans s3_2 s3_1) hs21 (by rw[dgC_len,Dg.bks_len];decide) (O.cast (v':=.agg (dgC (.slice a9 l.length c9) (Dg.bks l) (Dg.sum (Dg.bks l))).toArray) (by rw[List.drop_zero,List.take_of_length_le (by rw[dgC_len];omega)]) (O.storeA (vs:=dgC (.slice a9 l.length c9) (Dg.bks l) (Dg.sum (Dg.bks l))) Z31 rfl (Eq.trans s2_2 s2_1) rfl (dgC_ones hv9o) ((r0_2.L e20).kO e21) (leB rfl) (λw22 hs22 e22 z22=>?_))));replace hs22:Own w22 b2 31 (dgC (.slice a9 l.length c9) (Dg.bks l) (Dg.sum (Dg.bks l))):=by
  have q:=hs22;rw[show (dgC (.slice none 0 0) (List.replicate 16 0#64) 0#64).drop (0+18)=[] from rfl,List.append_nil] at q;exact q
 refine K22 (C.ret (Outs.cellA rfl isAgg31 Z31 (Eq.trans s2_2 s2_1) hs22 (by rw[dgC_len,Dg.bks_len]) ?_));have hb39:=((hs21.kO e22)).lt;exact ⟨.slice a9 l.length c9,rfl,(((r2_2.L e20).keepA e21).keepA e22).weak (λj hj=>⟨by omega,by omega⟩),(Ext.nr (Ext.nr (Ext.T e_2 e20) e21) e22)⟩
end Go.Proofs.YtlgjaminfabchaaGreatDoor
end
section
namespace Go.Proofs
open Go.Shelf
def Tryz.lays119_ren:Go.Shelf.Ren:=⟨λ|119=>127|n=>n,λ|21=>21|4=>4|n=>n,λ|n=>n⟩
theorem Tryz.lays119:Go.Proofs.Lays.n119 Tryz.prog Tryz.lays119_ren:={
 mixed:=by kernel_rfl
 f119:=Tryz.func127.trans (congrArg some (by kernel_rfl))
 t4:=Tryz.underlying4
 a4:=Tryz.isAgg4
 z4:=Tryz.sizeOf4
 v4:=Tryz.zeroValue4
 t21:=Tryz.underlying21
 a21:=Tryz.isAgg21
 z21:=Tryz.sizeOf21
 v21:=Tryz.zeroValue21}
theorem Tryz.utf8_ValidRune (r:Int)(w:World):
 Calls Tryz.prog 127 #[.int .i32 r] w λe w'=>e=.returned (.bool (Lib.validRune r))∧w'=w:=Any.utf8_ValidRune Tryz.lays119 r w
def Tryz.lays137_ren:Go.Shelf.Ren:=⟨λ|137=>126|217=>166|266=>205|n=>n,λ|9=>9|5=>5|3=>3|n=>n,λ|n=>n⟩
theorem Tryz.lays137:Go.Proofs.Lays.n137 Tryz.prog Tryz.lays137_ren:={
 mixed:=by kernel_rfl
 f137:=Tryz.func126.trans (congrArg some (by kernel_rfl))
 f217:=Tryz.func166.trans (congrArg some (by kernel_rfl))
 f266:=Tryz.func205.trans (congrArg some (by kernel_rfl))
 t3:=U3
 a3:=Tryz.isAgg3
 z3:=Z3
 v3:=Tryz.zeroValue3
 t5:=U5
 a5:=Tryz.isAgg5
 z5:=Z5
 v5:=Tryz.zeroValue5
 t9:=U9
 a9:=Tryz.isAgg9
 z9:=Z9
 v9:=Tryz.zeroValue9}
open Go.RowKit in
theorem Tryz.strings_IndexByte (s:ByteArray)(c:Int)(w:World):
 Calls Tryz.prog 126 #[.string s,.int .u8 c] w λe w'=>e=.returned (.int .i64 (Lib.indexByte s.data.toList c.toNat.toUInt8))∧w'=w:=Any.strings_IndexByte Tryz.lays137 s c w
end Go.Proofs
end
section
namespace Go.Proofs.YtlgjaminfabchaaGreatDoor
open Go.Pn Go.RowKit Go.Proofs _root_.Go.Proofs.Tryz
attribute [local irreducible] O C D
theorem two_ne (c:Nat):(95:UInt8).toBitVec≠(UInt8.ofNat (128+c%64)).toBitVec:=λh=>by
 have h:=congrArg BitVec.toNat h;have e:(UInt8.ofNat (128+c%64)).toBitVec.toNat=(128+c%64)%256:=rfl;rw[e] at h;have e2:(95:UInt8).toBitVec.toNat=95:=rfl;rw[e2] at h
 omega
theorem two_idx (c:Nat):Lib.indexByte [46,47] (UInt8.ofNat (128+c%64))= -1:=by
 have e:∀n:UInt8,n.toNat<128->(n==UInt8.ofNat (128+c%64))=false:=λn hn=>by
  have:n≠UInt8.ofNat (128+c%64):=λh=>by
   rw[h] at hn;have e:(UInt8.ofNat (128+c%64)).toNat=(128+c%64)%256:=rfl
   omega
  simpa using this
 unfold Lib.indexByte Lib.indexByte Lib.indexByte;rw[e 46 (by decide),e 47 (by decide)]
 rfl
theorem indexByte_spec (s:List UInt8)(c:BitVec 8)(w:World):Ret prog 126 #[str s,.int .u8 (c.toNat:Int)] w (λv w'=>v=.int .i64 (Lib.indexByte s ⟨c⟩)∧w'=w):=by
 refine Ret.of (Tryz.strings_IndexByte ⟨s.toArray⟩ (c.toNat:Int) w) ?_;rintro e w' ⟨rfl,rfl⟩;refine ⟨_,rfl,?_,rfl⟩;have e:((c.toNat:Int)).toNat.toUInt8=(⟨c⟩:UInt8):=by
  rw[Int.toNat_natCast];exact UInt8.toNat_inj.1 (by show c.toNat%256=c.toNat;have:=c.isLt;omega)
 rw[e]
theorem validRune_spec (r:Int)(w:World):Ret prog 127 #[.int .i32 r] w (λv w'=>v=.bool (Lib.validRune r)∧w'=w):=by
 refine Ret.of (Tryz.utf8_ValidRune r w) ?_;rintro e w' ⟨rfl,rfl⟩;exact ⟨_,rfl,rfl,rfl⟩
theorem irune_spec (c:Nat)(w:World)(h1:128<=c)(h2:c<256):
 Ret prog 83 #[str ([45,95,46,47]),.int .i32 ((c:Int))] w (λv w'=>v=.int .i64 (-1)∧Le w w'):=by
 have hlast:(two c)[1]! =UInt8.ofNat (128+c%64):=rfl;refine enT [str ([45,95,46,47]),.int .i32 ((c:Int))] 187 func83 rfl rfl (C.sr λK1=>O.j (K1 (C.bl λK2=>C.sr λK3=>O.mv (O.leqK rfl rfl (O.cast (v':=.bool true) (cB (by exact dT (by omega))) (O.mv (O.yes rfl rfl (O.mv (O.yes rfl rfl (O.lssK rfl rfl (O.cast (v':=.bool false) (cB (by exact dF (by omega))) (O.pickT rfl (O.j (K3 (C.condF rfl (C.sr λK4=>O.mv (O.eqlK rfl rfl (O.cast (v':=.bool false) (cB (by exact dF (by omega))) (O.j (K4 (C.condF rfl (C.sr λK5=>O.mv (O.call call127 (args1 rfl) (validRune_spec _ _) ?_)))))))))))))))))))))));rintro v_185 w1 ⟨rfl,hw_⟩;replace hw_:=hw_.symm;subst hw_;refine O.cast (v':=.bool true) (cB (by unfold Lib.validRune;exact dT (by omega))) (O.not rfl (O.cast (v':=.bool false) rfl (O.j (K5 (C.condF rfl (C.scope (C.sr λK6=>O.mv (O.convKS (l:=two c) underlying21 U9 rfl (encode_two h1 h2) (O.j (K6 (C.sr λK7=>O.mv (O.lenS U9 rfl (O.cast (v':=.int .i64 2) rfl (O.sb rfl rfl (O.cast (v':=.int .i64 (1)) rfl (O.j (K7 (C.sr λK8=>O.mv (O.j (K8 (C.sr λK9=>O.j (K9 (C.sq λK10=>C.bl λK11=>?_)))))))))))))))))))))));refine C.loop0 (σ:=Nat) (λf0 w0 q f w=>f 9=.int .i64 (1)∧f 0=f0 0∧f 1=f0 1∧f 7=f0 7∧f 8=f0 8∧Le w0 w) (λq=>q) 0 ?_ ?_
 ·
  exact ⟨rfl,rfl,rfl,rfl,rfl,Le.refl _⟩
 rintro q f_1 w1 ⟨s9_1,s0_1,s1_1,s7_1,s8_1,e_1⟩;have z_1:=e_1.size;refine C.sq λK12=>C.sr λK13=>O.mv (O.mv (O.lenS U9 s0_1 (O.lssI s9_1 rfl (O.cast (v':=.bool true) (cB (by exact dT (by decide))) (K13 (C.condT rfl (C.skip (K12 (C.bl λK14=>C.scope (C.sq λK15=>C.sd λK16 w2 e2 z2=>D.mv 0 rfl leR (D.mv 1 rfl leR (D.t 2 rfl leR (λ_ _ _ hN=>O.indexS U9 s0_1 s9_1 ⟨by decide,by decide⟩ (O.o hN)) (D.mv 3 rfl leR (D.mv 4 rfl leR (D.t 5 rfl leR (λ_ _ _ hN=>O.indexS U9 s7_1 s8_1 ⟨by decide,(by decide:(1:Int)<2)⟩ (O.o hN)) ?_)))))))))))))))
 refine D.t 6 rfl leR (λ_ _ _ hN=>O.neqU (m:=8) rfl rfl (O.o hN)) (D.cast (v':=.bool true) (cB (by exact dT (two_ne c))) (K16 (C.condT rfl (C.sd λK17 w3 e3 z3=>D.mv 0 rfl leR (D.mv 1 rfl leR (D.t 2 rfl leR (λ_ _ _ hN=>O.ad s9_1 rfl (O.cast (v':=.int .i64 (2)) rfl (O.o hN))) (D.t 3 rfl leR (λ_ _ _ hN=>O.subS U9 s0_1 (.inr ⟨_,_,rfl,rfl⟩) (.inl ⟨rfl,rfl⟩) (by simp) (O.o hN)) (D.mv 4 rfl leR (D.mv 5 rfl leR (D.t 6 rfl leR (λ_ _ _ hN=>O.indexS U9 s7_1 s8_1 ⟨by decide,(by decide:(1:Int)<2)⟩ (O.o hN)) ?_))))))))));refine D.on 7 rfl rfl (O.call call126 (args2 rfl rfl) (indexByte_spec _ _ _) ?_);rintro v_41 w4 ⟨rfl,hw_⟩;replace hw_:=hw_.symm;subst hw_;refine O.o ⟨leR,D.cast (v':=.int .i64 (-1)) (cI (two_idx c)) (D.as 8 rfl leR (K17 (C.sq λK18=>C.sr λK19=>O.mv (O.lssI rfl rfl (O.cast (v':=.bool true) (cB (by exact dT (by omega))) (K19 (C.condT rfl (C.sr λK20=>O.j (K20 (C.ret (Outs.one rfl rfl ?_)))))))))))⟩;exact ⟨rfl,(Ext.T (Ext.T e_1 e2) e3)⟩
theorem cruneH_spec (c:Nat)(w:World)(h1:128<=c)(h2:c<256):
 Ret prog 50 #[str ([45,95,46,47]),.int .i32 ((c:Int))] w (λv w'=>v=.bool (false)∧Le w w'):=by
 refine enT [str ([45,95,46,47]),.int .i32 ((c:Int))] 9 func50 rfl rfl (C.sr λK1=>O.j (K1 (C.sr λK2=>O.mv (O.mv (O.call call83 (args2 rfl rfl) (irune_spec c _ h1 h2) ?_)))));rintro v_7 w1 ⟨rfl,e1⟩;have z1:=e1.size;refine O.geqI rfl rfl (O.cast (v':=.bool false) (cB (by exact dF (by omega))) (O.j (K2 (C.ret (Outs.one rfl rfl ?_)))));exact ⟨rfl,e1⟩
theorem crune_spec (c:BitVec 8)(w:World):Ret prog 50 #[str [45,95,46,47],.int .i32 (c.toNat:Int)] w (λv w'=>v=.bool (Bt.sepB ⟨c⟩)∧Le w w'):=by
 have hc:=c.isLt
 by_cases h:c.toNat<128
 ·refine Ret.of (Tryz.strings_ContainsRune_ascii ⟨#[45,95,46,47]⟩ (c.toNat:Int) w (by omega) (by omega)) ?_
  rintro e w' ⟨rfl,rfl⟩;refine ⟨_,rfl,congrArg Value.bool ?_,Le.refl _⟩;have e:((c.toNat:Int)).toNat.toUInt8=(⟨c⟩:UInt8):=by
   rw[Int.toNat_natCast];exact UInt8.toNat_inj.1 (by show c.toNat%256=c.toNat;omega)
  rw[e];exact Bt.index_sep _
 ·refine (cruneH_spec c.toNat w (by omega) (by omega)).mono ?_
  rintro v w' ⟨rfl,e⟩;exact ⟨cB (Bt.sep_hi (c:=⟨c⟩) (by show 128<=c.toNat;omega)).symm,e⟩
theorem okKey_spec (s:List UInt8)(w:World)(hl:s.length<=1000000):
 Ret prog 32 #[str (s)] w (λv w'=>v=.bool (Bt.okKey s)∧Le w w'):=by
 refine enT [str (s)] 41 func32 rfl rfl (C.sr λK1=>O.j (K1 (C.sq λK2=>C.sr λK3=>O.mv (O.strB U9 U63 U5 rfl (by unfold maxLen;omega) (λb6 cap6 w1 hb6 hc6 h6 hs6 e1=>?_)))));have z1:=e1.size;refine O.len U63 rfl hs6 (O.mv (K3 (C.bl λK4=>C.loop0 (σ:=Nat) (λf0 w0 k f w=>f 8=.int .i64 (k)∧f 0=f0 0∧f 6=f0 6∧f 7=f0 7∧Le w0 w∧k<=s.length∧∀i,∀h:i<s.length,i<k->Bt.keyB s[i]=true) (λk=>s.length-k) 0 ?_ ?_)))
 ·
  refine ⟨rfl,rfl,rfl,rfl,Le.refl _,?_⟩;exact ⟨Nat.zero_le _,λi h k=>absurd k (Nat.not_lt_zero _)⟩
 rintro k f_1 w2 ⟨s8_1,s0_1,s6_1,s7_1,e_1,⟨hk,hI⟩⟩;have z_1:=e_1.size;refine C.sr λK5=>O.lssI s8_1 s7_1 (K5 (C.sq λK6=>C.condD rfl (λc9=>?_) (λc9=>?_)))
 ·
  have hk2:k<s.length:=by omega
  refine C.skip (K6 (C.sq λK7=>C.bl λK8=>C.sr λK9=>O.idx U63 Z5 rfl s6_1 (hs6.L e_1) s8_1 (by omega) (λa10 h10=>O.loadB isAgg5 rfl h10 ?_)));have sp1_:∃y:UInt8,y=s[k]:=⟨_,rfl⟩
  obtain ⟨y,hy⟩:=sp1_;refine O.cast (v':=.int .u8 (y.toBitVec.toNat:Int)) (by rw[hy];rfl) (O.j (K9 (C.sr λK10=>O.mv (O.lssU (m:=8) (b:=97#8) rfl rfl (O.mv (O.cut 3 (λf f'=>f' 17=.bool (decide (y.toBitVec<97#8∨122#8<y.toBitVec))∧f' 0=f 0∧f' 4=f 4∧f' 6=f 6∧f' 7=f 7∧f' 8=f 8) ?_ ?_))))))
  ·
   refine O.splitD (x:=.tmp 14) rfl (λc14=>?_) (λc14=>?_)
   ·
    refine O.no rfl (noB (isT rfl c14) rfl) (O.no rfl (noB (isT rfl c14) rfl) (O.pickT (isT rfl c14) (O.o (⟨⟨?_,rfl,rfl,rfl,rfl,rfl⟩,rfl⟩))));exact dJ rfl
   refine O.yes rfl (isF rfl c14) (O.mv (O.yes rfl (isF rfl c14) (O.gtrU (m:=8) (b:=122#8) rfl rfl (O.pickF (isF rfl c14) (O.o (⟨⟨?_,rfl,rfl,rfl,rfl,rfl⟩,rfl⟩))))));exact dJ rfl
  rintro f_2 ⟨s17_2,s0_2,s4_2,s6_2,s7_2,s8_2⟩;refine O.mv (O.cut 7 (λf f'=>f' 25=.bool (decide (Bt.oddB y))∧f' 0=f 0∧f' 4=f 4∧f' 6=f 6∧f' 7=f 7∧f' 8=f 8) ?_ ?_)
  ·
   refine O.splitD (x:=.tmp 18) s17_2 (λc18=>?_) (λc18=>?_)
   ·
    refine O.yes rfl (isT s17_2 c18) (O.mv (O.yes rfl (isT s17_2 c18) (O.lssU (m:=8) (b:=48#8) s4_2 rfl (O.yes rfl (isT s17_2 c18) (O.mv (O.splitD (x:=.tmp 21) rfl (λc21=>?_) (λc21=>?_)))))))
    ·
     refine O.no rfl (noB (isT rfl c21) rfl) (O.no rfl (noB (isT rfl c21) rfl) (O.yes rfl (isT s17_2 c18) (O.pickT (isT rfl c21) (O.pickT (isT s17_2 c18) (O.o (⟨⟨?_,rfl,rfl,rfl,rfl,rfl⟩,rfl⟩))))))
     first
     |exact rfl
     |(refine Eq.trans rfl (congrArg Value.bool ?_);unfold Bt.oddB;first|simp[c18,c21]|simp[c18])
    refine O.yes rfl (isF rfl c21) (O.mv (O.yes rfl (isF rfl c21) (O.gtrU (m:=8) (b:=57#8) s4_2 rfl (O.yes rfl (isT s17_2 c18) (O.pickF (isF rfl c21) (O.pickT (isT s17_2 c18) (O.o (⟨⟨?_,rfl,rfl,rfl,rfl,rfl⟩,rfl⟩))))))))
    first
    |exact rfl
    |(refine Eq.trans rfl (congrArg Value.bool ?_);unfold Bt.oddB;first|simp[c18,c21]|simp[c18])
   refine O.no rfl (noB (isF s17_2 c18) rfl) (O.no rfl (noB (isF s17_2 c18) rfl) (O.no rfl (noB (isF s17_2 c18) rfl) (O.no rfl (noU rfl) (O.no rfl (noU rfl) (O.no rfl (noB (isF s17_2 c18) rfl) (O.pickF (isF s17_2 c18) (O.o (⟨⟨?_,rfl,rfl,rfl,rfl,rfl⟩,rfl⟩))))))))
   first
   |exact rfl
   |(refine Eq.trans rfl (congrArg Value.bool ?_);unfold Bt.oddB;first|simp[c18,c21]|simp[c18])
  rintro f_3 ⟨s25_3,s0_3,s4_3,s6_3,s7_3,s8_3⟩;refine O.mv (O.splitD (x:=.tmp 26) s25_3 (λc26=>?_) (λc26=>?_))
  ·
   refine O.yes rfl (isT s25_3 c26) (O.mv (O.yes rfl (isT s25_3 c26) (O.convBK U5 underlying21 (Eq.trans s4_3 s4_2) (O.yes rfl (isT s25_3 c26) (O.call call50 (args2 rfl rfl) (crune_spec y.toBitVec _) ?_)))));rintro v_29 w3 ⟨rfl,e3⟩;have z3:=e3.size;refine O.yes rfl (isT s25_3 c26) (O.not rfl (O.pickT (isT s25_3 c26) (K10 (C.cond rfl (λc31=>?_) (λc31=>?_)))))
   ·
    refine C.sr λK11=>O.j (K11 (C.ret (Outs.one rfl rfl ?_)))
    first
    |exact ⟨cB (Bt.okKey_no hk2 (by rw[<-hy];exact Bt.keyB_no c26 (by simpa using c31))).symm,(Ext.T (Ext.T e1 e_1) e3)⟩
    |(refine ⟨congrArg Value.bool ?_,(Ext.T (Ext.T e1 e_1) e3)⟩
      unfold Bt.okKey;rw[hall,Bool.true_and];exact decide_eq_decide.2 (by omega))
   refine C.skip (K8 (K7 (C.region (O.ad (Eq.trans s8_3 (Eq.trans s8_2 s8_1)) rfl (O.mv (O.o (⟨k+1,⟨rfl,(Eq.trans s0_3 (Eq.trans s0_2 s0_1)),(Eq.trans s6_3 (Eq.trans s6_2 s6_1)),(Eq.trans s7_3 (Eq.trans s7_2 s7_1)),(Ext.T e_1 e3),?_⟩,by first|omega|(simp only[];omega)⟩)))))));refine ⟨by omega,λi hi hik=>?_⟩;rcases Nat.lt_or_eq_of_le (Nat.le_of_lt_succ hik) with h|rfl
   ·exact hI i hi h
   ·rw [<-hy]
    first
    |exact Bt.keyB_of c26
    |exact Bt.keyB_sep (by simpa using c31)
  refine O.no rfl (noB (isF s25_3 c26) rfl) (O.no rfl (noB (isF s25_3 c26) rfl) (O.no rfl (noB (isF s25_3 c26) rfl) (O.no rfl (noB (isF s25_3 c26) rfl) (O.pickF (isF s25_3 c26) (K10 (C.condF rfl (C.skip (K8 (K7 (C.region (O.ad (Eq.trans s8_3 (Eq.trans s8_2 s8_1)) rfl (O.mv (O.o (⟨k+1,⟨rfl,(Eq.trans s0_3 (Eq.trans s0_2 s0_1)),(Eq.trans s6_3 (Eq.trans s6_2 s6_1)),(Eq.trans s7_3 (Eq.trans s7_2 s7_1)),e_1,?_⟩,by first|omega|(simp only[];omega)⟩))))))))))))));refine ⟨by omega,λi hi hik=>?_⟩;rcases Nat.lt_or_eq_of_le (Nat.le_of_lt_succ hik) with h|rfl
  ·exact hI i hi h
  ·rw [<-hy]
   first
   |exact Bt.keyB_of c26
   |exact Bt.keyB_sep (by simpa using c31)
 have hall:s.all Bt.keyB=true:=Cn.all_yes λi hi=>hI i hi (by omega)
 refine C.exit (K4 (K2 (C.sr λK12=>O.mv (O.lenS U9 s0_1 (O.geqI rfl rfl (O.mv (O.cut 4 (λf f'=>f' 40=.bool (decide ((s.length:Int)≥1∧(s.length:Int)<=64))) ?_ ?_)))))))
 ·
  refine O.splitD (x:=.tmp 36) rfl (λc36=>?_) (λc36=>?_)
  ·
   refine O.yes rfl (isT rfl c36) (O.mv (O.yes rfl (isT rfl c36) (O.lenS U9 s0_1 (O.yes rfl (isT rfl c36) (O.leqI rfl rfl (O.pickT (isT rfl c36) (O.o (⟨?_,rfl⟩))))))));exact dJ rfl
  refine O.no rfl (noB (isF rfl c36) rfl) (O.no rfl (noB (isF rfl c36) rfl) (O.no rfl (noB (isF rfl c36) rfl) (O.pickF (isF rfl c36) (O.o (⟨?_,rfl⟩)))));exact dJ rfl
 intro f_4 s40_4;refine O.j (K12 (C.ret (Outs.one rfl s40_4 ?_)))
 first
 |exact ⟨cB (Bt.okKey_no hk2 (by rw[<-hy];exact Bt.keyB_no c26 (by simpa using c31))).symm,(Ext.T e1 e_1)⟩
 |(refine ⟨congrArg Value.bool ?_,(Ext.T e1 e_1)⟩
   unfold Bt.okKey;rw[hall,Bool.true_and];exact decide_eq_decide.2 (by omega))
theorem dvalid_spec (d:Dg.Dig)(vd:Value)(F:Nat->Prop)(w:World)(hd:Sl leafF.enc w F vd d.ls)(hdb:d.bs.length=16)(hnd:d.ls.length<=100000)(hkd:∀x∈d.ls,x.1.length<=1000000)(hg:Row u64E w (λk=>k=0) 0 0 [Dg.off,Dg.prime]):
 Ret prog 17 #[.agg (dgC vd d.bs d.rt).toArray] w (λv w'=>v=.bool (Dg.valid d)∧Le w w'):=by
 have hdl:=hd.le;have hbl:=Dg.bks_len d.ls;obtain ⟨ie26,ti26,ts26,tb26,tz26⟩:=inf26;refine enT [.agg (dgC vd d.bs d.rt).toArray] 54 func17 rfl rfl (C.sr λK1=>O.box (v:=.agg (dgC vd d.bs d.rt).toArray) rfl (λb1 w1 hb1 hz1 e1=>?_));have z1:=e1.size;have h1:=hz1.own;have hl1:=h1.lt;replace h1:Own w1 b1 31 (dgC vd d.bs d.rt):=h1;refine O.j (K1 (C.sq λK2=>C.sr λK3=>O.fa U31 rfl Z28 rfl (O.loadO isAgg28 rfl h1 rfl (O.len U28 rfl (hd.L e1) (O.gtrI rfl rfl (K3 (C.condD rfl (λc9=>?_) (λc9=>?_))))))))
 ·
  refine C.sr λK4=>O.j (K4 (C.ret (Outs.one rfl rfl ?_)))
  exact ⟨cB (Dg.valid_long (by omega)).symm,e1⟩
 refine C.skip (K2 (C.sq λK5=>C.sr λK6=>O.fa U31 rfl Z28 rfl (O.loadO isAgg28 rfl h1 rfl (O.len U28 rfl (hd.L e1) (O.mv (K6 (C.bl λK7=>C.loop0 (σ:=Nat) (λf0 w0 k f wz=>f 13=.int .i64 ((k:Int))∧f 1=f0 1∧f 11=f0 11∧f 12=f0 12∧Le w wz∧Own wz b1 31 (dgC vd d.bs d.rt)∧k<=d.ls.length∧(∀i,∀h:i<d.ls.length,i<k->Bt.okKey d.ls[i].1=true)∧(∀i,∀h:i+1<d.ls.length,i+1<k->Op.bytesLess d.ls[i].1 d.ls[i+1].1=true)) (λk=>d.ls.length-k) 0 ?_ ?_)))))))
 ·
  refine ⟨rfl,rfl,rfl,rfl,e1,h1,?_⟩;exact ⟨Nat.zero_le _,λi h k=>absurd k (Nat.not_lt_zero _),λi h k=>absurd k (Nat.not_lt_zero _)⟩
 rintro k f_1 w2 ⟨s13_1,s1_1,s11_1,s12_1,e_1,r0_1,⟨hk,hI,hJ⟩⟩;have z_1:=e_1.size;refine C.sr λK8=>O.lssI s13_1 s12_1 (K8 (C.sq λK9=>C.condD rfl (λc14=>?_) (λc14=>?_)))
 ·
  have hb1l:=(r0_1).lt;have hk2:k<d.ls.length:=by omega
  have sp3_:∃q,q=d.ls[k]:=⟨_,rfl⟩
  obtain ⟨x,hx9⟩:=sp3_;have hxk:=hkd x (by rw[hx9];exact List.getElem_mem _);refine C.skip (K9 (C.sq λK10=>C.bl λK11=>C.sr λK12=>O.mv (O.idx U28 Z47 rfl s11_1 (hd.L e_1) s13_1 (by omega) (λa16 h16=>O.loadG (G:=leafF) isAgg47 Z47 rfl h16 (O.cast (v':=.agg #[str x.1,.int .u64 (x.2.toNat:Int)]) (by rw[hx9];rfl) (O.alloc zeroValue47 (λb4 w3 hb4 hz4 e3=>?_)))))));have z3:=e3.size;have h4:=hz4.own;have hl4:=h4.lt;refine O.j (O.storeA (vs:=[str x.1,.int .u64 (x.2.toNat:Int)]) Z47 rfl rfl rfl (ones2 rfl) h4 (leB rfl) (λw4 hs4 e4 z4=>K12 (C.sd λK13 w5 e5 z5=>D.t 0 rfl leR (λ_ _ _ hN=>O.fa U47 rfl Z9 rfl (O.o hN)) (D.t 1 rfl leR (λ_ hw_ _ hN=>O.loadO isAgg9 rfl ((hs4.L e5).L hw_) rfl (O.o hN)) (D.on 2 rfl rfl (O.call call32 (args1 rfl) (okKey_spec x.1 _ hxk) ?_))))));rintro v_20 w6 ⟨rfl,e6⟩;have z6:=e6.size;refine O.o ⟨e6,D.t 3 rfl e6 (λ_ _ _ hN=>O.not rfl (O.o hN)) (D.mv 4 rfl e6 (D.split (x:=.tmp 22) rfl (λc22=>?_) (λc22=>?_)))⟩
  ·
   refine D.tn 5 rfl rfl e6 rfl (noB (isT' rfl c22) rfl) (D.tn 6 rfl rfl e6 rfl (noB (isT' rfl c22) rfl) (D.tn 7 rfl rfl e6 rfl (noB (isT' rfl c22) rfl) (D.tn 8 rfl rfl e6 rfl (noU rfl) (D.tn 9 rfl rfl e6 rfl (noU rfl) (D.tn 10 rfl rfl e6 rfl (noU rfl) (D.tn 11 rfl rfl e6 rfl (noU rfl) (D.tn 12 rfl rfl e6 rfl (noU rfl) (D.tn 13 rfl rfl e6 rfl (noU rfl) (D.tn 14 rfl rfl e6 rfl (noU rfl) (D.tn 15 rfl rfl e6 rfl (noU rfl) (D.tn 16 rfl rfl e6 rfl (noU rfl) (D.tn 17 rfl rfl e6 rfl (noU rfl) (D.tn 18 rfl rfl e6 rfl (noB (isT' rfl c22) rfl) (D.tk 19 rfl rfl rfl rfl e6 pick_form (λ_ hw_ _ hN=>O.pickT (isT' rfl c22) (O.o hN)) (K13 (C.condT rfl (C.sr λK14=>?_)))))))))))))))));refine O.j (K14 (C.ret (Outs.one rfl rfl ?_)));exact ⟨cB (Dg.valid_bad (Dg.okLs_no1 hk2 (by rw[<-hx9];simpa using c22))).symm,(Ext.T (Ext.T (Ext.nr (Ext.T e_1 e3) e4) e5) e6)⟩
  refine D.ty 5 rfl rfl rfl rfl (isF' rfl c22) e6 ⟨pure _,rfl⟩ (λ_ hw_ _ hN=>O.mv (O.o hN)) (D.ty 6 rfl rfl rfl rfl (isF' rfl c22) e6 ⟨_,rfl⟩ (λ_ hw_ _ hN=>O.gtrI s13_1 rfl (O.o hN)) (D.ty 7 rfl rfl rfl rfl (isF' rfl c22) e6 ⟨pure _,rfl⟩ (λ_ hw_ _ hN=>O.mv (O.o hN)) (D.splitD (x:=.tmp 25) rfl (λc25=>?_) (λc25=>?_))))
  ·
   refine D.ty 8 rfl rfl rfl rfl (isT rfl c25) e6 ⟨_,rfl⟩ (λ_ hw_ _ hN=>O.fa U31 rfl Z28 s1_1 (O.o hN)) ?_;have t0:=((r0_1.L e3).kO e4).L e5;refine D.ty 9 rfl rfl rfl rfl (isT rfl c25) e6 ⟨_,rfl⟩ (λ_ hw_ _ hN=>O.loadO isAgg28 rfl (t0.L hw_) rfl (O.o hN)) (D.ty 10 rfl rfl rfl rfl (isT rfl c25) e6 ⟨pure _,rfl⟩ (λ_ hw_ _ hN=>O.mv (O.o hN)) (D.ty 11 rfl rfl rfl rfl (isT rfl c25) e6 ⟨_,rfl⟩ (λ_ hw_ _ hN=>O.sb s13_1 rfl (O.o hN)) ?_));have t1:=Ext.T e_1 e3;have t2:=Ext.T (Ext.nr t1 e4) e5;have sp4_:=Sl.at (i:=(k:Int)-1) (P:=prog) U28 Z47 rfl (hd.L t2) (by omega);obtain ⟨a30,h30,hr30⟩:=sp4_;refine D.ty 12 rfl rfl rfl rfl (isT rfl c25) e6 ⟨_,rfl⟩ (λ_ hw_ _ hN=>O.idxR rfl rfl hr30 (O.o hN)) (D.ty 13 rfl rfl rfl rfl (isT rfl c25) e6 ⟨_,rfl⟩ (λ_ hw_ _ hN=>O.ft U47 rfl Z9 rfl (O.o hN)) (D.ty 14 rfl rfl rfl rfl (isT rfl c25) e6 ⟨_,rfl⟩ (λ_ hw_ _ hN=>O.loadAtF (G:=leafF) isAgg9 rfl rfl (h30.L hw_) (O.o hN)) (D.ty 15 rfl rfl rfl rfl (isT rfl c25) e6 ⟨_,rfl⟩ (λ_ hw_ _ hN=>O.fa U47 rfl Z9 rfl (O.o hN)) (D.ty 16 rfl rfl rfl rfl (isT rfl c25) e6 ⟨_,rfl⟩ (λ_ hw_ _ hN=>O.loadO isAgg9 rfl ((hs4.L e5).L hw_) rfl (O.o hN)) ?_))));refine D.ty 17 rfl rfl rfl rfl (isT rfl c25) e6 ⟨_,rfl⟩ (λ_ hw_ _ hN=>O.geqS rfl rfl (O.o hN)) (D.ty 18 rfl rfl rfl rfl (isF' rfl c22) e6 pick_form (λ_ hw_ _ hN=>O.pickT (isT rfl c25) (O.o hN)) (D.tk 19 rfl rfl rfl rfl e6 pick_form (λ_ hw_ _ hN=>O.pickF (isF' rfl c22) (O.o hN)) (K13 (C.cond rfl (λc37=>?_) (λc37=>?_)))))
   ·
    have e9:((k:Int)-1).toNat=k-1:=by omega
    simp only[e9] at c37;refine C.sr λK15=>O.j (K15 (C.ret (Outs.one rfl rfl ?_)))
    exact ⟨cB (Dg.valid_bad (Dg.okLs_no2 (i:=k) (j:=k-1) hk2 (by omega) (by omega) (by simpa[hx9] using c37))).symm,(Ext.T t2 e6)⟩
   have e9:((k:Int)-1).toNat=k-1:=by omega
   simp only[e9] at c37;refine C.skip (K11 (K10 (C.region (O.ad s13_1 rfl (O.mv (O.o (⟨k+1,⟨rfl,s1_1,s11_1,s12_1,(Ext.T t2 e6),(t0.L e6),?_⟩,by first|omega|(simp only[];omega)⟩)))))));refine ⟨by omega,λi hi hik=>?_,λi hi hik=>?_⟩
   ·rcases Nat.lt_or_eq_of_le (Nat.le_of_lt_succ hik) with h|rfl
    ·exact hI i hi h
    ·rw [<-hx9];simpa using c22
   ·rcases Nat.lt_or_eq_of_le (Nat.le_of_lt_succ hik) with h|rfl
    ·exact hJ i hi h
    ·first
     |(exfalso;omega)
     |simpa[hx9] using c37
  refine D.tn 8 rfl rfl e6 rfl (noB (isF rfl c25) rfl) (D.tn 9 rfl rfl e6 rfl (noB (isF rfl c25) rfl) (D.tn 10 rfl rfl e6 rfl (noB (isF rfl c25) rfl) (D.tn 11 rfl rfl e6 rfl (noB (isF rfl c25) rfl) (D.tn 12 rfl rfl e6 rfl (noB (isF rfl c25) rfl) (D.tn 13 rfl rfl e6 rfl (noB (isF rfl c25) rfl) (D.tn 14 rfl rfl e6 rfl (noB (isF rfl c25) rfl) (D.tn 15 rfl rfl e6 rfl (noB (isF rfl c25) rfl) (D.tn 16 rfl rfl e6 rfl (noB (isF rfl c25) rfl) (D.tn 17 rfl rfl e6 rfl (noB (isF rfl c25) rfl) (D.ty 18 rfl rfl rfl rfl (isF' rfl c22) e6 pick_form (λ_ hw_ _ hN=>O.pickF (isF rfl c25) (O.o hN)) ?_))))))))));refine D.tk 19 rfl rfl rfl rfl e6 pick_form (λ_ hw_ _ hN=>O.pickF (isF' rfl c22) (O.o hN)) (K13 (C.condF rfl (C.skip (K11 (K10 (C.region (O.ad s13_1 rfl (O.mv (O.o (⟨k+1,⟨rfl,s1_1,s11_1,s12_1,(Ext.T (Ext.T (Ext.nr (Ext.T e_1 e3) e4) e5) e6),((((r0_1.L e3).kO e4).L e5).L e6),?_⟩,by first|omega|(simp only[];omega)⟩))))))))));refine ⟨by omega,λi hi hik=>?_,λi hi hik=>?_⟩
  ·rcases Nat.lt_or_eq_of_le (Nat.le_of_lt_succ hik) with h|rfl
   ·exact hI i hi h
   ·rw [<-hx9];simpa using c22
  ·rcases Nat.lt_or_eq_of_le (Nat.le_of_lt_succ hik) with h|rfl
   ·exact hJ i hi h
   ·first
    |(exfalso;omega)
    |simpa[hx9] using c37
 have hb1l:=(r0_1).lt;have hok:Dg.okLs d.ls=true:=Dg.okLs_yes (λi h=>hI i h (by omega)) (λi h=>hJ i h (by omega));refine C.exit (K7 (K5 (C.sr λK16=>O.fa U31 rfl Z28 s1_1 (O.loadO isAgg28 rfl r0_1 rfl (O.call call31 (args1 rfl) (dgrown_spec vd d.ls F _ (hd.L e_1) (by omega) hkd (hg.L e_1)) ?_)))));rintro v_41 w7 ⟨uv41,rfl,huv41,e7⟩;have z7:=e7.size;refine O.alloc zeroValue31 (λb5 w8 hb5 hz5 e8=>?_);have z8:=e8.size;have h5:=hz5.own;have hl5:=h5.lt;replace h5:Own w8 b5 31 (dgC (.slice none 0 0) (List.replicate 16 0#64) 0#64):=h5;refine O.storeA (vs:=dgC uv41 (Dg.bks d.ls) (Dg.sum (Dg.bks d.ls))) Z31 rfl rfl rfl (dgC_ones huv41.oneC) h5 (leB rfl) (λw9 hs9 e9 z9=>?_);replace hs9:Own w9 b5 31 (dgC uv41 (Dg.bks d.ls) (Dg.sum (Dg.bks d.ls))):=by
  have q:=hs9;rw[show (dgC (.slice none 0 0) (List.replicate 16 0#64) 0#64).drop (0+18)=[] from rfl,List.append_nil] at q;exact q
 refine K16 (C.sr λK17=>O.fa U31 rfl Z29 rfl (O.cast (v':=.pointer (some ⟨b5,1,none⟩)) rfl (O.loadOA isAgg29 Z29 rfl hs9 (by rw[dgC_len];omega) (O.cast (v':=.agg ((Dg.bks d.ls).map u6).toArray) (by rw[dgC_arr hbl]) (O.fa U31 rfl Z29 s1_1 (O.cast (v':=.pointer (some ⟨b1,1,none⟩)) rfl ?_))))));have t3:=((r0_1.L e7).L e8).kO e9;refine O.loadOA isAgg29 Z29 rfl t3 (by rw[dgC_len];omega) (O.cast (v':=.agg (d.bs.map u6).toArray) (by rw[dgC_arr hdb]) (O.eqlAr (a:=(Dg.bks d.ls)) (b:=d.bs) U29 U26 ti26 (by kernel_rfl) isAgg26 (by kernel_rfl) rfl rfl hbl hdb (O.mv (O.splitD (x:=.tmp 47) rfl (λc47=>?_) (λc47=>?_)))))
 ·
  refine O.yes rfl (isT rfl c47) (O.fa U31 rfl Z26 rfl (O.cast (v':=.pointer (some ⟨b5,17,none⟩)) rfl (O.yes rfl (isT rfl c47) (O.loadO isAgg26 rfl hs9 (dgC_rt hbl) (O.cast (v':=.int .u64 ((Dg.sum (Dg.bks d.ls)).toNat:Int)) rfl (O.yes rfl (isT rfl c47) (O.fa U31 rfl Z26 s1_1 (O.cast (v':=.pointer (some ⟨b1,17,none⟩)) rfl (O.yes rfl (isT rfl c47) (O.loadO isAgg26 rfl t3 (dgC_rt hdb) (O.cast (v':=.int .u64 (d.rt.toNat:Int)) rfl (O.yes rfl (isT rfl c47) (O.eqlU (m:=64) rfl rfl (O.pickT (isT rfl c47) (O.j (K17 (C.ret (Outs.one rfl rfl ?_))))))))))))))))));exact ⟨cB (Dg.valid_end (by omega) hok c47),(Ext.nr (Ext.T (Ext.T e_1 e7) e8) e9)⟩
 refine O.no rfl (noB (isF rfl c47) rfl) (O.no rfl (noB (isF rfl c47) rfl) (O.no rfl (noB (isF rfl c47) rfl) (O.no rfl (noB (isF rfl c47) rfl) (O.no rfl (noB (isF rfl c47) rfl) (O.pickF (isF rfl c47) (O.j (K17 (C.ret (Outs.one rfl rfl ?_)))))))));exact ⟨cB (Dg.valid_no c47).symm,(Ext.nr (Ext.T (Ext.T e_1 e7) e8) e9)⟩
theorem texts_spec (v0:Value)(a:List Dg.Str)(v1:Value)(b:List Dg.Str)(F F2:Nat->Prop)(w:World)(ha:Sl strF.enc w F v0 a)(hb:Sl strF.enc w F2 v1 b):
 Ret prog 35 #[v0,v1] w (λv w'=>v=.bool (decide (a=b))∧Le w w'):=by
 have hale:=ha.le;have hble:=hb.le;refine enT [v0,v1] 26 func35 rfl rfl (C.sr λK1=>O.j (K1 (C.sq λK2=>C.sr λK3=>O.mv (O.len U45 rfl ha (O.mv (O.len U45 rfl hb (O.neqI rfl rfl (K3 (C.condD rfl (λc10=>?_) (λc10=>?_))))))))))
 ·
  refine C.sr λK4=>O.j (K4 (C.ret (Outs.one rfl rfl ?_)))
  exact ⟨cB (dF (λh=>c10 (congrArg (λl:List Dg.Str=>(l.length:Int)) h))).symm,leR⟩
 have hlen:a.length=b.length:=by omega
 refine C.skip (K2 (C.sq λK5=>C.sr λK6=>O.j (K6 (C.bl λK7=>C.loop0 (σ:=Nat) (λf0 w0 k f wz=>f 5=.int .i64 ((k:Int))∧f 0=f0 0∧f 1=f0 1∧Le w wz∧k<=a.length∧a.take k=b.take k) (λk=>a.length-k) 0 ?_ ?_))))
 ·
  refine ⟨rfl,rfl,rfl,leR,?_⟩;exact ⟨Nat.zero_le _,rfl⟩
 rintro k f_1 w1 ⟨s5_1,s0_1,s1_1,e_1,⟨hk,hI⟩⟩;have z_1:=e_1.size;refine C.sq λK8=>C.sr λK9=>O.mv (O.mv (O.len U45 s0_1 (ha.L e_1) (O.lssI s5_1 rfl (K9 (C.condD rfl (λc14=>?_) (λc14=>?_))))))
 ·
  refine C.skip (K8 (C.sq λK10=>C.bl λK11=>C.sd λK12 w2 e2 z2=>D.mv 0 rfl leR (D.mv 1 rfl leR ?_)));have sp1_:=Sl.at (i:=(k:Int)) (P:=prog) U45 Z9 rfl ((ha.L e_1).L e2) (by omega);obtain ⟨a19,h19,hr19⟩:=sp1_;refine D.t 2 rfl leR (λ_ _ _ hN=>O.idxR s0_1 s5_1 hr19 (O.o hN)) (D.t 3 rfl leR (λ_ hw_ _ hN=>O.load1F (G:=strF) isAgg9 rfl rfl rfl (h19.L hw_) (O.o hN)) (D.mv 4 rfl leR (D.mv 5 rfl leR ?_)));have sp2_:=Sl.at (i:=(k:Int)) (P:=prog) U45 Z9 rfl ((hb.L e_1).L e2) (by omega);obtain ⟨a23,h23,hr23⟩:=sp2_;refine D.t 6 rfl leR (λ_ _ _ hN=>O.idxR s1_1 s5_1 hr23 (O.o hN)) (D.t 7 rfl leR (λ_ hw_ _ hN=>O.load1F (G:=strF) isAgg9 rfl rfl rfl (h23.L hw_) (O.o hN)) (D.t 8 rfl leR (λ_ _ _ hN=>O.neqS rfl rfl (O.o hN)) (K12 (C.condD rfl (λc25=>?_) (λc25=>?_)))))
  ·
   refine C.sr λK13=>O.j (K13 (C.ret (Outs.one rfl rfl ?_)))
   exact ⟨cB (dF (λh=>c25 (by simp only[h]))).symm,(Ext.T e_1 e2)⟩
  refine C.skip (K11 (K10 (C.region (O.mv (O.ad s5_1 rfl (O.j (O.o (⟨k+1,⟨rfl,s0_1,s1_1,(Ext.T e_1 e2),?_⟩,by first|omega|(simp only[];omega)⟩))))))));have hka:k<a.length:=by omega
  have hkb:k<b.length:=by omega
  have hq:a[k]=b[k]:=Decidable.of_not_not c25;refine ⟨by omega,?_⟩;rw[List.take_succ_eq_append_getElem hka,List.take_succ_eq_append_getElem hkb,hI,hq]
 refine C.exit (K7 (K5 (C.sr λK14=>O.j (K14 (C.ret (Outs.one rfl rfl ?_))))));have hk2:k=a.length:=by omega
 subst hk2;rw[List.take_length,List.take_of_length_le (by omega)] at hI;exact ⟨cB (decide_eq_true hI).symm,e_1⟩
theorem ints_spec (v0:Value)(a:List Int)(v1:Value)(b:List Int)(F F2:Nat->Prop)(w:World)(ha:Sl Dt.intF.enc w F v0 a)(hb:Sl Dt.intF.enc w F2 v1 b):
 Ret prog 34 #[v0,v1] w (λv w'=>v=.bool (decide (a=b))∧Le w w'):=by
 have hale:=ha.le;have hble:=hb.le;refine enT [v0,v1] 26 func34 rfl rfl (C.sr λK1=>O.j (K1 (C.sq λK2=>C.sr λK3=>O.mv (O.len U44 rfl ha (O.mv (O.len U44 rfl hb (O.neqI rfl rfl (K3 (C.condD rfl (λc10=>?_) (λc10=>?_))))))))))
 ·
  refine C.sr λK4=>O.j (K4 (C.ret (Outs.one rfl rfl ?_)))
  exact ⟨cB (dF (λh=>c10 (congrArg (λl:List Int=>(l.length:Int)) h))).symm,leR⟩
 have hlen:a.length=b.length:=by omega
 refine C.skip (K2 (C.sq λK5=>C.sr λK6=>O.j (K6 (C.bl λK7=>C.loop0 (σ:=Nat) (λf0 w0 k f wz=>f 5=.int .i64 ((k:Int))∧f 0=f0 0∧f 1=f0 1∧Le w wz∧k<=a.length∧a.take k=b.take k) (λk=>a.length-k) 0 ?_ ?_))))
 ·
  refine ⟨rfl,rfl,rfl,leR,?_⟩;exact ⟨Nat.zero_le _,rfl⟩
 rintro k f_1 w1 ⟨s5_1,s0_1,s1_1,e_1,⟨hk,hI⟩⟩;have z_1:=e_1.size;refine C.sq λK8=>C.sr λK9=>O.mv (O.mv (O.len U44 s0_1 (ha.L e_1) (O.lssI s5_1 rfl (K9 (C.condD rfl (λc14=>?_) (λc14=>?_))))))
 ·
  refine C.skip (K8 (C.sq λK10=>C.bl λK11=>C.sd λK12 w2 e2 z2=>D.mv 0 rfl leR (D.mv 1 rfl leR ?_)));have sp3_:=Sl.at (i:=(k:Int)) (P:=prog) U44 Z3 rfl ((ha.L e_1).L e2) (by omega);obtain ⟨a19,h19,hr19⟩:=sp3_;refine D.t 2 rfl leR (λ_ _ _ hN=>O.idxR s0_1 s5_1 hr19 (O.o hN)) (D.t 3 rfl leR (λ_ hw_ _ hN=>O.load1F (G:=Dt.intF) isAgg3 rfl rfl rfl (h19.L hw_) (O.o hN)) (D.mv 4 rfl leR (D.mv 5 rfl leR ?_)));have sp4_:=Sl.at (i:=(k:Int)) (P:=prog) U44 Z3 rfl ((hb.L e_1).L e2) (by omega);obtain ⟨a23,h23,hr23⟩:=sp4_;refine D.t 6 rfl leR (λ_ _ _ hN=>O.idxR s1_1 s5_1 hr23 (O.o hN)) (D.t 7 rfl leR (λ_ hw_ _ hN=>O.load1F (G:=Dt.intF) isAgg3 rfl rfl rfl (h23.L hw_) (O.o hN)) (D.t 8 rfl leR (λ_ _ _ hN=>O.neqI rfl rfl (O.o hN)) (K12 (C.condD rfl (λc25=>?_) (λc25=>?_)))))
  ·
   refine C.sr λK13=>O.j (K13 (C.ret (Outs.one rfl rfl ?_)))
   exact ⟨cB (dF (λh=>c25 (by simp only[h]))).symm,(Ext.T e_1 e2)⟩
  refine C.skip (K11 (K10 (C.region (O.mv (O.ad s5_1 rfl (O.j (O.o (⟨k+1,⟨rfl,s0_1,s1_1,(Ext.T e_1 e2),?_⟩,by first|omega|(simp only[];omega)⟩))))))));have hka:k<a.length:=by omega
  have hkb:k<b.length:=by omega
  have hq:a[k]=b[k]:=Decidable.of_not_not c25;refine ⟨by omega,?_⟩;rw[List.take_succ_eq_append_getElem hka,List.take_succ_eq_append_getElem hkb,hI,hq]
 refine C.exit (K7 (K5 (C.sr λK14=>O.j (K14 (C.ret (Outs.one rfl rfl ?_))))));have hk2:k=a.length:=by omega
 subst hk2;rw[List.take_length,List.take_of_length_le (by omega)] at hI;exact ⟨cB (decide_eq_true hI).symm,e_1⟩
theorem differ_spec (a:Dg.Dig)(va:Value)(F:Nat->Prop)(b:Dg.Dig)(vb:Value)(F2:Nat->Prop)(w:World)(ha:Sl leafF.enc w F va a.ls)(hab:a.bs.length=16)(hb:Sl leafF.enc w F2 vb b.ls)(hbb:b.bs.length=16)(hna:a.ls.length<=100000)(hka:∀x∈a.ls,x.1.length<=1000000)(hnb:b.ls.length<=100000)(hkb:∀x∈b.ls,x.1.length<=1000000)(hg:Row u64E w (λk=>k=0) 0 0 [Dg.off,Dg.prime]):
 Ret prog 26 #[.agg (dgC va a.bs a.rt).toArray,.agg (dgC vb b.bs b.rt).toArray] w (λv w'=>∃u,v=.tuple #[u,.int .i64 (Dg.err a b)]∧OwnF Dt.intF 3 w.heap.size w' u (Dg.differ a b)∧Le w w'):=by
 have hal:=ha.le;have hbl:=hb.le;obtain ⟨ie3,ti3,ts3,tb3,tz3⟩:=inf3;refine enT [.agg (dgC va a.bs a.rt).toArray,.agg (dgC vb b.bs b.rt).toArray] 35 func26 rfl rfl (C.sr λK1=>O.box (v:=.agg (dgC va a.bs a.rt).toArray) rfl (λb2 w1 hb2 hz2 e1=>?_));have z1:=e1.size;have h2:=hz2.own;have hl2:=h2.lt;replace h2:Own w1 b2 31 (dgC va a.bs a.rt):=h2;refine O.box (v:=.agg (dgC vb b.bs b.rt).toArray) rfl (λb3 w2 hb3 hz3 e2=>?_);have z2:=e2.size;have h3:=hz3.own;have hl3:=h3.lt;replace h3:Own w2 b3 31 (dgC vb b.bs b.rt):=h3;refine O.j (O.j (K1 (C.sq λK2=>C.sr λK3=>O.loadOA isAgg31 Z31 rfl (h2.L e2) (by rw[dgC_len];omega) (O.cast (v':=.agg (dgC va a.bs a.rt).toArray) (by rw[List.drop_zero,List.take_of_length_le (by rw[dgC_len];omega)]) (O.call call17 (args1 rfl) (dvalid_spec a va F _ ((ha.L e1).L e2) hab hna hka ((hg.L e1).L e2)) ?_)))));rintro v_10 w3 ⟨rfl,e3⟩;have z3:=e3.size;refine O.not rfl (O.mv (O.split (x:=.tmp 12) rfl (λc12=>?_) (λc12=>?_)))
 ·
  refine O.no rfl (noB (isT' rfl c12) rfl) (O.no rfl (noB (isT' rfl c12) rfl) (O.no rfl (noB (isT' rfl c12) rfl) (O.pickT (isT' rfl c12) (K3 (C.condT rfl (C.sr λK4=>O.j (O.j (K4 (C.ret (Outs.two rfl rfl rfl ?_))))))))));have hv9:Dg.valid a=false:=by simpa using c12
  exact ⟨_,by rw[Dg.err_no1 hv9];rfl,by rw[Dg.differ_no1 hv9];exact OwnF.nil _ _ _ _,(Ext.T (Ext.T e1 e2) e3)⟩
 refine O.yes rfl (isF' rfl c12) (O.loadOA isAgg31 Z31 rfl (h3.L e3) (by rw[dgC_len];omega) (O.cast (v':=.agg (dgC vb b.bs b.rt).toArray) (by rw[List.drop_zero,List.take_of_length_le (by rw[dgC_len];omega)]) (O.yes rfl (isF' rfl c12) (O.call call17 (args1 rfl) (dvalid_spec b vb F2 _ (((hb.L e1).L e2).L e3) hbb hnb hkb (((hg.L e1).L e2).L e3)) ?_))));rintro v_14 w4 ⟨rfl,e4⟩;have z4:=e4.size;refine O.yes rfl (isF' rfl c12) (O.not rfl (O.pickF (isF' rfl c12) (K3 (C.cond rfl (λc16=>?_) (λc16=>?_)))))
 ·
  refine C.sr λK5=>O.j (O.j (K5 (C.ret (Outs.two rfl rfl rfl ?_))))
  have hv9:Dg.valid b=false:=by simpa using c16
  exact ⟨_,by rw[Dg.err_no2 hv9];rfl,by rw[Dg.differ_no2 hv9];exact OwnF.nil _ _ _ _,(Ext.T (Ext.T (Ext.T e1 e2) e3) e4)⟩
 refine C.skip (K2 (C.sr λK6=>O.j (K6 (C.sq λK7=>C.sr λK8=>O.fa U31 rfl Z29 rfl (O.cast (v':=.pointer (some ⟨b2,1,none⟩)) rfl (O.loadOA isAgg29 Z29 rfl (((h2.L e2).L e3).L e4) (by rw[dgC_len];omega) (O.cast (v':=.agg (a.bs.map u6).toArray) (by rw[dgC_arr hab]) (O.mv (K8 (C.bl λK9=>C.loop0 (σ:=Nat×Value) (λf0 w0 ⟨k,o⟩ f wz=>f 6=o∧f 19=.int .i64 ((k:Int))∧f 3=f0 3∧f 4=f0 4∧f 5=f0 5∧f 18=f0 18∧Le w wz∧Own wz b3 31 (dgC vb b.bs b.rt)∧OwnF Dt.intF 3 w.heap.size wz o (Dg.diffP a b k)∧k<=16) (λ⟨k,o⟩=>16-k) (0,.slice none 0 0) ?_ ?_))))))))))
 ·
  refine ⟨rfl,rfl,rfl,rfl,rfl,rfl,(Ext.T (Ext.T (Ext.T e1 e2) e3) e4),((h3.L e3).L e4),(OwnF.nil _ _ _ _),?_⟩;exact Nat.zero_le _
 rintro ⟨k,o⟩ f_1 w5 ⟨s6_1,s19_1,s3_1,s4_1,s5_1,s18_1,e_1,r0_1,r1_1,hk⟩;have z_1:=e_1.size;have r1_1s:=r1_1.sl;refine C.sr λK10=>O.lssI s19_1 rfl (K10 (C.sq λK11=>C.condD rfl (λc20=>?_) (λc20=>?_)))
 ·
  have hk2:k<16:=by omega
  have hdl:=Dg.diffP_len a b k;have sp5_:∃q,q=a.bs[k]:=⟨_,rfl⟩
  obtain ⟨x,hx9⟩:=sp5_;have sp6_:∃q,q=b.bs[k]:=⟨_,rfl⟩
  obtain ⟨y,hy9⟩:=sp6_;refine C.skip (K11 (C.sq λK12=>C.bl λK13=>C.sr λK14=>O.mv (O.indexA U29 isAgg26 Z26 s18_1 s19_1 (by omega) (by rw[Int.toNat_natCast];exact map_u6_at (by omega)) (O.cast (v':=.int .u64 (x.toNat:Int)) (by rw[hx9];rfl) (O.j (O.j (K14 (C.sr λK15=>O.mv (O.mv (O.fa U31 rfl Z29 s3_1 (O.cast (v':=.pointer (some ⟨b3,1,none⟩)) rfl (O.idxA U29 Z26 rfl s19_1 (by omega) (O.loadO isAgg26 rfl r0_1 (by simp only[Int.toNat_natCast,Nat.mul_one];exact dgC_at (by omega)) (O.cast (v':=.int .u64 (y.toNat:Int)) (by rw[hy9];rfl) (O.neqU (m:=64) rfl rfl (K15 ?_))))))))))))))));refine C.condD rfl (λc28=>?_) (λc28=>?_)
  ·
   refine C.region (O.mv (O.mv (O.lit1 U44 ti3 ts3 tz3 s19_1 rfl (λb31 w6 hb31 hz31 e6=>?_))));have z6:=e6.size;have h31:=hz31.own;have hl31:=h31.lt;have hne:∀j,bk o j->j≠b3:=((r1_1.L e6)).ne_own ((r0_1.L e6)) (by decide);refine O.appF (G:=Dt.intF) U44 ti3 tz3 ts3 rfl s6_1 rfl (r1_1.L e6) (Sl.one (G:=Dt.intF) (x:=(k:Int)) h31 rfl rfl) (by rw[tb3];simp only[List.length_cons,List.length_nil];omega) (by unfold maxLen;simp only[List.length_cons,List.length_nil];omega) (by omega) (λv32 w7 h32 e7=>?_);have z7:=e7.size;have h32s:=h32.sl;refine O.j (O.o (K13 (K12 (C.region (O.ad s19_1 rfl (O.mv (O.o (⟨(k+1,_),⟨rfl,rfl,s3_1,s4_1,s5_1,s18_1,(Ext.new (Ext.T e_1 e6) e7 (by intro i hi h;have:=(r1_1.L e6).bk_ge i h;omega)),((r0_1.L e6).kM e7 (λh=>hne _ h rfl)),(h32.lst (by first|exact (Dg.diffP_yes (by omega) (by omega) (by rw[<-hx9,<-hy9];exact c28)).symm|exact (Dg.diffP_no (by omega) (by omega) (by rw[<-hx9,<-hy9];exact Decidable.of_not_not c28)).symm)),?_⟩,by first|omega|(simp only[];omega)⟩))))))))
   omega
  refine C.skip (K13 (K12 (C.region (O.ad s19_1 rfl (O.mv (O.o (⟨(k+1,_),⟨s6_1,rfl,s3_1,s4_1,s5_1,s18_1,e_1,r0_1,(r1_1.lst (by first|exact (Dg.diffP_yes (by omega) (by omega) (by rw[<-hx9,<-hy9];exact c28)).symm|exact (Dg.diffP_no (by omega) (by omega) (by rw[<-hx9,<-hy9];exact Decidable.of_not_not c28)).symm)),?_⟩,by first|omega|(simp only[];omega)⟩)))))))
  omega
 obtain rfl:k=16:=by omega
 refine C.exit (K9 (K7 (C.sr λK16=>O.mv (O.j (O.j (K16 (C.ret (Outs.two rfl s6_1 rfl ?_))))))));have hv1:Dg.valid a=true:=by simpa using c12
 have hv2:Dg.valid b=true:=by simpa using c16
 exact ⟨_,by rw[Dg.err_yes hv1 hv2];rfl,by rw[Dg.differ_yes hv1 hv2];exact r1_1,e_1⟩
theorem isNaNU_spec (x:BitVec 64)(w:World):
 Ret prog 209 #[.int .u64 ((x).toNat:Int)] w (λv w'=>v=.bool false∧w'=w):=by
 refine enT [.int .u64 ((x).toNat:Int)] 6 func209 rfl rfl (C.sr λK1=>O.j (K1 (C.sr λK2=>O.mv (O.mv (O.neqU (m:=64) rfl rfl (O.cast (v':=.bool false) (cB (by exact dF (λh=>h rfl))) (O.j (K2 (C.ret (Outs.one rfl rfl ?_))))))))));exact ⟨rfl,rfl⟩
theorem ucmp_spec (a b:BitVec 64)(w:World):
 Ret prog 176 #[.int .u64 ((a).toNat:Int),.int .u64 ((b).toNat:Int)] w (λv w'=>v=.int .i64 (Jn.ucmp a b)∧w'=w):=by
 refine enT [.int .u64 ((a).toNat:Int),.int .u64 ((b).toNat:Int)] 20 func176 rfl rfl (C.sr λK1=>O.j (K1 (C.sr λK2=>O.mv (O.call call209 (args1 rfl) (isNaNU_spec _ _) ?_))));rintro v_8 w1 ⟨rfl,hw_⟩;replace hw_:=hw_.symm;subst hw_;refine O.j (K2 (C.sr λK3=>O.mv (O.call call209 (args1 rfl) (isNaNU_spec _ _) ?_)));rintro v_10 w1 ⟨rfl,hw_⟩;replace hw_:=hw_.symm;subst hw_;refine O.j (K3 (C.sq λK4=>C.sr λK5=>O.mv (K5 (C.condF rfl (C.skip (K4 (C.sq λK6=>C.sr λK7=>O.mv (K7 (C.condF rfl (C.skip (K6 (C.sq λK8=>C.sr λK9=>O.mv (O.mv (O.lssU (m:=64) rfl rfl (K9 (C.condD rfl (λc16=>?_) (λc16=>?_)))))))))))))))))
 ·
  refine C.sr λK10=>O.j (K10 (C.ret (Outs.one rfl rfl ?_)))
  unfold Jn.ucmp
  first
  |(rw[if_pos (by assumption)];exact ⟨rfl,rfl⟩)
  |(rw[if_neg (by assumption),if_pos (by assumption)];exact ⟨rfl,rfl⟩)
  |(rw[if_neg (by assumption),if_neg (by assumption)];exact ⟨rfl,rfl⟩)
 refine C.skip (K8 (C.sq λK11=>C.sr λK12=>O.mv (O.mv (O.gtrU (m:=64) rfl rfl (K12 (C.condD rfl (λc19=>?_) (λc19=>?_)))))))
 ·
  refine C.sr λK13=>O.j (K13 (C.ret (Outs.one rfl rfl ?_)))
  unfold Jn.ucmp
  first
  |(rw[if_pos (by assumption)];exact ⟨rfl,rfl⟩)
  |(rw[if_neg (by assumption),if_pos (by assumption)];exact ⟨rfl,rfl⟩)
  |(rw[if_neg (by assumption),if_neg (by assumption)];exact ⟨rfl,rfl⟩)
 refine C.skip (K11 (C.sr λK14=>O.j (K14 (C.ret (Outs.one rfl rfl ?_)))));unfold Jn.ucmp
 first
 |(rw[if_pos (by assumption)];exact ⟨rfl,rfl⟩)
 |(rw[if_neg (by assumption),if_pos (by assumption)];exact ⟨rfl,rfl⟩)
 |(rw[if_neg (by assumption),if_neg (by assumption)];exact ⟨rfl,rfl⟩)
theorem isNaNS_spec (x:List UInt8)(w:World):
 Ret prog 84 #[str (x)] w (λv w'=>v=.bool false∧w'=w):=by
 refine enT [str (x)] 6 func84 rfl rfl (C.sr λK1=>O.j (K1 (C.sr λK2=>O.mv (O.mv (O.neqS rfl rfl (O.cast (v':=.bool false) (cB (by exact dF (λh=>h rfl))) (O.j (K2 (C.ret (Outs.one rfl rfl ?_))))))))));exact ⟨rfl,rfl⟩
theorem scmp_spec (a b:List UInt8)(w:World):
 Ret prog 55 #[str (a),str (b)] w (λv w'=>v=.int .i64 (Jn.scmp a b)∧w'=w):=by
 refine enT [str (a),str (b)] 20 func55 rfl rfl (C.sr λK1=>O.j (K1 (C.sr λK2=>O.mv (O.call call84 (args1 rfl) (isNaNS_spec _ _) ?_))));rintro v_8 w1 ⟨rfl,hw_⟩;replace hw_:=hw_.symm;subst hw_;refine O.j (K2 (C.sr λK3=>O.mv (O.call call84 (args1 rfl) (isNaNS_spec _ _) ?_)));rintro v_10 w1 ⟨rfl,hw_⟩;replace hw_:=hw_.symm;subst hw_;refine O.j (K3 (C.sq λK4=>C.sr λK5=>O.mv (K5 (C.condF rfl (C.skip (K4 (C.sq λK6=>C.sr λK7=>O.mv (K7 (C.condF rfl (C.skip (K6 (C.sq λK8=>C.sr λK9=>O.mv (O.mv (O.lssS rfl rfl (K9 (C.cond rfl (λc16=>?_) (λc16=>?_)))))))))))))))))
 ·
  refine C.sr λK10=>O.j (K10 (C.ret (Outs.one rfl rfl ?_)))
  first
  |exact ⟨cI (Jn.scmp_one c16),rfl⟩
  |exact ⟨cI (Jn.scmp_two c16 c19),rfl⟩
  |exact ⟨cI (Jn.scmp_three c16 c19),rfl⟩
 refine C.skip (K8 (C.sq λK11=>C.sr λK12=>O.mv (O.mv (O.gtrS rfl rfl (K12 (C.cond rfl (λc19=>?_) (λc19=>?_)))))))
 ·
  refine C.sr λK13=>O.j (K13 (C.ret (Outs.one rfl rfl ?_)))
  first
  |exact ⟨cI (Jn.scmp_one c16),rfl⟩
  |exact ⟨cI (Jn.scmp_two c16 c19),rfl⟩
  |exact ⟨cI (Jn.scmp_three c16 c19),rfl⟩
 refine C.skip (K11 (C.sr λK14=>O.j (K14 (C.ret (Outs.one rfl rfl ?_)))))
 first
 |exact ⟨cI (Jn.scmp_one c16),rfl⟩
 |exact ⟨cI (Jn.scmp_two c16 c19),rfl⟩
 |exact ⟨cI (Jn.scmp_three c16 c19),rfl⟩
theorem corL_spec (v0:Value)(l:List Int)(F:Nat->Prop)(w:World)(hl:Sl Dt.intE w F v0 l):
 Ret prog 150 #[v0] w (λv w'=>v=.int .i64 (Jn.orL l)∧w'=w):=by
 have hle:=hl.le;refine enT [v0] 18 func150 rfl rfl (C.sr λK1=>O.j (K1 (C.sr λK2=>O.j (K2 (C.sq λK3=>C.sr λK4=>O.mv (O.len U44 rfl hl (O.mv (K4 (C.bl λK5=>C.loop0 (σ:=Nat) (λf0 w0 k f w=>f 8=.int .i64 (k)∧f 3=f0 3∧f 6=f0 6∧f 7=f0 7∧w=w0∧k<=l.length∧∀i,∀h:i<l.length,i<k->l[i]=0) (λk=>l.length-k) 0 ?_ ?_)))))))))
 ·
  refine ⟨rfl,rfl,rfl,rfl,rfl,?_⟩;exact ⟨by omega,λi _ h=>absurd h (by omega)⟩
 rintro k f_1 wx ⟨s8_1,s3_1,s6_1,s7_1,rfl,⟨hk,hI⟩⟩;refine C.sr λK6=>O.lssI s8_1 s7_1 (K6 (C.sq λK7=>C.condD rfl (λc9=>?_) (λc9=>?_)))
 ·
  have hk2:k<l.length:=by omega
  refine C.skip (K7 (C.sq λK8=>C.bl λK9=>C.sr λK10=>O.idx U44 Z3 rfl s6_1 hl s8_1 (by omega) (λa10 h10=>O.load1F (G:=Dt.intF) isAgg3 rfl rfl rfl h10 ?_)));obtain ⟨u,hu⟩:∃u:Int,u=l[k]:=⟨_,rfl⟩
  refine O.cast (v':=.int .i64 u) (by rw[hu];rfl) (O.j (K10 (C.sr λK11=>O.mv (O.mv (O.neqI rfl s3_1 (K11 (C.condD rfl (λc14=>?_) (λc14=>?_))))))))
  ·
   refine C.sr λK12=>O.mv (O.j (K12 (C.ret (Outs.one rfl rfl ?_))))
   first
   |exact ⟨cI (hu.trans (Jn.orL_at hk2 hI (by rw[<-hu];exact c14))),rfl⟩
   |exact ⟨cI (Jn.orL_end (by omega) hI),rfl⟩
  refine C.skip (K9 (K8 (C.region (O.ad s8_1 rfl (O.mv (O.o (⟨k+1,⟨rfl,s3_1,s6_1,s7_1,rfl,?_⟩,by first|omega|(simp only[];omega)⟩)))))));refine ⟨by omega,λi hi2 hik=>?_⟩;rcases Nat.lt_or_eq_of_le (Nat.le_of_lt_succ hik) with h|rfl
  ·exact hI i hi2 h
  ·rw [<-hu];exact Decidable.of_not_not c14
 refine C.exit (K5 (K3 (C.sr λK13=>O.mv (O.j (K13 (C.ret (Outs.one rfl s3_1 ?_)))))))
 first
 |exact ⟨cI (hu.trans (Jn.orL_at hk2 hI (by rw[<-hu];exact c14))),rfl⟩
 |exact ⟨cI (Jn.orL_end (by omega) hI),rfl⟩
theorem mcmp_spec (a b:MarkT)(w:World):
 Ret prog 148 #[mv (a),mv (b)] w (λv w'=>v=.int .i64 (Jn.mcmp a b)∧Le w w'):=by
 obtain ⟨ie3,ti3,ts3,tb3,tz3⟩:=inf3;refine enT [mv (a),mv (b)] 34 func148 rfl rfl (C.sr λK1=>O.box (v:=mv (a)) rfl (λb2 w1 hb2 hz2 e1=>?_));have z1:=e1.size;have h2:=hz2.own;have hl2:=h2.lt;refine O.box (v:=mv (b)) rfl (λb3 w2 hb3 hz3 e2=>?_);have z2:=e2.size;have h3:=hz3.own;have hl3:=h3.lt;refine O.j (K1 (C.sq λK2=>C.sr λK3=>O.loadOA isAgg155 Z155 rfl (h2.L e2) (leB rfl) (O.loadOA isAgg155 Z155 rfl h3 (leB rfl) (O.eqlM (λa b=>run_eq_mark U155 (by decide) (by decide) (by decide) rfl rfl rfl U119 (by decide) (by decide) rfl rfl U3 U3 U3 U26 isAgg3 isAgg3 isAgg119 Z119 isAgg3 isAgg26 (by kernel_rfl) (by kernel_rfl) a b) (by kernel_rfl) rfl rfl (K3 (C.condD rfl (λc7=>?_) (λc7=>?_)))))))
 ·
  refine C.sr λK4=>O.j (K4 (C.ret (Outs.one rfl rfl ?_)))
  first
  |exact ⟨cI (by rw[c7,Jn.mcmp_self]),(Ext.T e1 e2)⟩
  |exact ⟨cI (Jn.mcmp_or a b).symm,(Ext.T e1 e2)⟩
 refine C.skip (K2 (C.sd λK5 w3 e3 z3=>D.t 0 rfl leR (λ_ _ _ hN=>O.fa U155 rfl Z26 rfl (O.o hN)) ?_));have t0:=(h2.L e2).L e3;refine D.t 1 rfl leR (λ_ hw_ _ hN=>O.loadO isAgg26 rfl (t0.L hw_) rfl (O.o hN)) (D.t 2 rfl leR (λ_ _ _ hN=>O.fa U155 rfl Z26 rfl (O.o hN)) (D.t 3 rfl leR (λ_ hw_ _ hN=>O.loadO isAgg26 rfl ((h3.L e3).L hw_) rfl (O.o hN)) (D.t 5 rfl leR (λ_ _ _ hN=>O.fa U155 rfl Z119 rfl (O.o hN)) (D.t 6 rfl leR (λ_ _ _ hN=>O.fa U119 rfl Z3 rfl (O.o hN)) (D.t 7 rfl leR (λ_ hw_ _ hN=>O.loadO isAgg3 rfl (t0.L hw_) rfl (O.o hN)) ?_)))));refine D.t 8 rfl leR (λ_ _ _ hN=>O.fa U155 rfl Z119 rfl (O.o hN)) (D.t 9 rfl leR (λ_ _ _ hN=>O.fa U119 rfl Z3 rfl (O.o hN)) (D.t 10 rfl leR (λ_ hw_ _ hN=>O.loadO isAgg3 rfl ((h3.L e3).L hw_) rfl (O.o hN)) (D.t 12 rfl leR (λ_ _ _ hN=>O.fa U155 rfl Z119 rfl (O.o hN)) (D.t 13 rfl leR (λ_ _ _ hN=>O.fa U119 rfl Z3 rfl (O.o hN)) (D.t 14 rfl leR (λ_ hw_ _ hN=>O.loadO isAgg3 rfl (t0.L hw_) rfl (O.o hN)) ?_)))));refine D.t 15 rfl leR (λ_ _ _ hN=>O.fa U155 rfl Z119 rfl (O.o hN)) (D.t 16 rfl leR (λ_ _ _ hN=>O.fa U119 rfl Z3 rfl (O.o hN)) (D.t 17 rfl leR (λ_ hw_ _ hN=>O.loadO isAgg3 rfl ((h3.L e3).L hw_) rfl (O.o hN)) (D.t 19 rfl leR (λ_ _ _ hN=>O.fa U155 rfl Z3 rfl (O.o hN)) (D.t 20 rfl leR (λ_ hw_ _ hN=>O.loadO isAgg3 rfl (t0.L hw_) rfl (O.o hN)) (D.t 21 rfl leR (λ_ _ _ hN=>O.fa U155 rfl Z3 rfl (O.o hN)) ?_)))));refine D.t 22 rfl leR (λ_ hw_ _ hN=>O.loadO isAgg3 rfl ((h3.L e3).L hw_) rfl (O.o hN)) (D.on 4 rfl rfl (O.call call176 (args2 rfl rfl) (ucmp_spec _ _ _) ?_));rintro v_12 w4 ⟨rfl,hw_⟩;replace hw_:=hw_.symm;subst hw_;refine O.o ⟨leR,D.on 11 rfl rfl (O.call call151 (args2 rfl rfl) (icmp_spec _ _ _) ?_)⟩;rintro v_19 w4 ⟨rfl,hw_⟩;replace hw_:=hw_.symm;subst hw_;refine O.o ⟨leR,D.on 18 rfl rfl (O.call call151 (args2 rfl rfl) (icmp_spec _ _ _) ?_)⟩;rintro v_26 w4 ⟨rfl,hw_⟩;replace hw_:=hw_.symm;subst hw_;refine O.o ⟨leR,D.on 23 rfl rfl (O.call call151 (args2 rfl rfl) (icmp_spec _ _ _) ?_)⟩;rintro v_31 w4 ⟨rfl,hw_⟩;replace hw_:=hw_.symm;subst hw_;refine O.o ⟨leR,D.on 24 rfl rfl (O.litn [.int .i64 (Jn.ucmp a.2.2 b.2.2),.int .i64 (Dt.icmp a.1.1 b.1.1),.int .i64 (Dt.icmp a.1.2 b.1.2),.int .i64 (Dt.icmp a.2.1 b.2.1)] U44 ti3 ts3 tz3 rfl (by decide) (by decide) rfl (by simp[Value.oneCell']) (λb32 w4 hb32 hz32 e4=>?_))⟩;have z4:=e4.size;have h32:=hz32.own;have hl32:=h32.lt;refine O.o ⟨e4,?_⟩;have h1032:Sl Dt.intF.enc w4 (λk=>k=b32) (.slice (some ⟨b32,0,none⟩) 4 4) [Jn.ucmp a.2.2 b.2.2,Dt.icmp a.1.1 b.1.1,Dt.icmp a.1.2 b.1.2,Dt.icmp a.2.1 b.2.1]:=Sl.of_own (G:=Dt.intF) h32 rfl (Nat.le_refl _) (by unfold maxLen;omega) (by simp[Dt.intF]);refine D.on 25 rfl rfl (O.call call150 (args1 rfl) (corL_spec _ _ _ _ h1032) ?_);rintro v_33 w5 ⟨rfl,hw_⟩;replace hw_:=hw_.symm;subst hw_;refine O.o ⟨e4,D.as 26 rfl e4 (K5 (C.ret (Outs.one rfl rfl ?_)))⟩
 first
 |exact ⟨cI (by rw[c7,Jn.mcmp_self]),(Ext.T (Ext.T (Ext.T e1 e2) e3) e4)⟩
 |exact ⟨cI (Jn.mcmp_or a b).symm,(Ext.T (Ext.T (Ext.T e1 e2) e3) e4)⟩
theorem stay1_spec (m:MarkT)(bc:Nat)(z:MarkT)(w:World)(ho:Own w bc 155 [.int .i64 z.1.1,.int .i64 z.1.2,.int .i64 z.2.1,.int .u64 (z.2.2.toNat:Int)]):
 Ret prog 147 #[mv (m),.pointer (some ⟨bc,0,none⟩)] w (λv w'=>v=.bool (Jn.sameD z m)∧Le w w'):=by
 refine enT [mv (m),.pointer (some ⟨bc,0,none⟩)] 9 func147 rfl rfl (C.sr λK1=>O.box (v:=mv (m)) rfl (λb2 w1 hb2 hz2 e1=>?_));have z1:=e1.size;have h2:=hz2.own;have hl2:=h2.lt;refine O.j (K1 (C.sr λK2=>O.fa U155 rfl Z119 rfl (O.loadOA isAgg119 Z119 rfl h2 (leB rfl) (O.fa U155 rfl Z119 rfl (O.loadOA isAgg119 Z119 rfl (ho.L e1) (leB rfl) (O.eqlP U119 (by decide) (by decide) rfl rfl U3 U3 isAgg3 isAgg3 (by kernel_rfl) (by kernel_rfl) rfl rfl (O.j (K2 (C.ret (Outs.one rfl rfl ?_))))))))));exact ⟨cB (decide_eq_decide.2 Iff.rfl),e1⟩
theorem pred_stay (bc:Nat)(z:MarkT)(M:Nat->Prop)(w:World)(ho:Own w bc 155 [.int .i64 z.1.1,.int .i64 z.1.2,.int .i64 z.2.1,.int .u64 (z.2.2.toNat:Int)])(hM:¬M bc):Pred prog M w (.func (.func 147) #[] #[.pointer (some ⟨bc,0,none⟩)]) mv (Jn.sameD z):=⟨147,[.pointer (some ⟨bc,0,none⟩)],rfl,call147,λm w' e=>stay1_spec m bc z w' (ho.kM e hM)⟩
def iv (r:List UInt8×Raw):Value:=.agg #[str r.1,slv r.2]
theorem cloneM_spec (v0:Value)(l:List (MarkT))(F:Nat->Prop)(w:World)(hl:Sl markF.enc w F v0 l)(hn:l.length<=1000000000000):
 Ret prog 99 #[v0] w (λv w'=>Le w w'∧OwnF markF 155 w.heap.size w' v l):=by
 have hle:=hl.le;obtain ⟨ie155,ti155,ts155,tb155,tz155⟩:=inf155;refine enT [v0] 8 func99 rfl rfl (C.sr λK1=>O.j (K1 (C.sq λK2=>C.sr λK3=>O.mv (O.eqlNilS U74 rfl hl (K3 (C.cond rfl (λc4=>?_) (λc4=>?_)))))))
 ·
  refine C.sr λK4=>O.j (K4 (C.ret (Outs.one rfl rfl ?_)))
  first
  |(obtain rfl:=isNilS_nil hl c4
    exact ⟨leR,OwnF.nil _ _ _ _⟩)
  |exact ⟨leR,{app:7}⟩
 refine C.skip (K2 (C.sr λK5=>O.lit0 U74 ti155 (λb5 w1 hb5 hz5 e1=>?_)));have z1:=e1.size;have hl5:=hz5.own.lt;have h1005:OwnF markF 155 w.heap.size w1 _ []:=OwnF.lit0 hz5 hb5;refine O.mv (O.appF (G:=markF) U74 ti155 tz155 ts155 rfl rfl rfl h1005 (hl.L e1) (by rw[tb155];simp;omega) (by unfold maxLen;simp;omega) (by omega) (λv7 w2 h7 e2=>?_));have z2:=e2.size;have h7s:=h7.sl;refine O.j (K5 (C.ret (Outs.one rfl rfl ?_)))
 first
 |(obtain rfl:=isNilS_nil hl c4
   exact ⟨(Ext.new e1 e2 (by intro i hi h;have:=h1005.bk_ge i h;omega)),OwnF.nil _ _ _ _⟩)
 |exact ⟨(Ext.new e1 e2 (by intro i hi h;have:=h1005.bk_ge i h;omega)),h7⟩
theorem cloneT_spec (v0:Value)(l:List (List UInt8×Raw))(F:Nat->Prop)(w:World)(hl:Sl itemF.enc w F v0 l)(hn:l.length<=1000000000000):
 Ret prog 98 #[v0] w (λv w'=>Le w w'∧OwnF itemF 76 w.heap.size w' v l):=by
 have hle:=hl.le;obtain ⟨ie76,ti76,ts76,tb76,tz76⟩:=inf76;refine enT [v0] 8 func98 rfl rfl (C.sr λK1=>O.j (K1 (C.sq λK2=>C.sr λK3=>O.mv (O.eqlNilS U52 rfl hl (K3 (C.cond rfl (λc4=>?_) (λc4=>?_)))))))
 ·
  refine C.sr λK4=>O.j (K4 (C.ret (Outs.one rfl rfl ?_)))
  first
  |(obtain rfl:=isNilS_nil hl c4
    exact ⟨leR,OwnF.nil _ _ _ _⟩)
  |exact ⟨leR,{app:7}⟩
 refine C.skip (K2 (C.sr λK5=>O.lit0 U52 ti76 (λb5 w1 hb5 hz5 e1=>?_)));have z1:=e1.size;have hl5:=hz5.own.lt;have h1005:OwnF itemF 76 w.heap.size w1 _ []:=OwnF.lit0 hz5 hb5;refine O.mv (O.appF (G:=itemF) U52 ti76 tz76 ts76 rfl rfl rfl h1005 (hl.L e1) (by rw[tb76];simp;omega) (by unfold maxLen;simp;omega) (by omega) (λv7 w2 h7 e2=>?_));have z2:=e2.size;have h7s:=h7.sl;refine O.j (K5 (C.ret (Outs.one rfl rfl ?_)))
 first
 |(obtain rfl:=isNilS_nil hl c4
   exact ⟨(Ext.new e1 e2 (by intro i hi h;have:=h1005.bk_ge i h;omega)),OwnF.nil _ _ _ _⟩)
 |exact ⟨(Ext.new e1 e2 (by intro i hi h;have:=h1005.bk_ge i h;omega)),h7⟩
theorem stay_spec (v0:Value)(l:List MarkT)(vo:Value)(o:List MarkT)(v1 v2:Value)(x:Cn.Ctx)(F:Nat->Prop)(w:World)(hl:Sl markF.enc w F v0 l)(hq:Sl markF.enc w F vo o)(hv:Sl Dt.dotF.enc w F v1 x.1)(hc:Sl Dt.dotF.enc w F v2 x.2)(hn:l.length<=1000000):
 Ret prog 91 #[v0,vo,.agg #[v1,v2]] w (λv w'=>Le w w'∧OwnF markF 155 w.heap.size w' v (Jn.stay l o x)):=by
 have hle:=hl.le;have hqe:=hq.le;obtain ⟨ie155,ti155,ts155,tb155,tz155⟩:=inf155;refine enT [v0,vo,.agg #[v1,v2]] 48 func91 rfl rfl (C.sr λK1=>O.box (v:=.agg #[v1,v2]) rfl (λb5 w1 hb5 hz5 e1=>?_));have z1:=e1.size;have h5:=hz5.own;have hl5:=h5.lt;refine O.j (K1 (C.sr λK2=>O.j (K2 (C.sq λK3=>C.sr λK4=>O.mv (O.len U74 rfl (hl.L e1) (O.mv (K4 (C.bl λK5=>C.loop0 (σ:=Nat×Value) (λf0 w0 ⟨k,ov⟩ f wz=>f 7=ov∧f 13=.int .i64 (k)∧f 1=f0 1∧f 5=f0 5∧f 6=f0 6∧f 11=f0 11∧f 12=f0 12∧Le w wz∧Own wz b5 51 [v1,v2]∧OwnF markF 155 (b5+1) wz ov (Jn.stay (l.take k) o x)∧k<=l.length) (λ⟨k,ov⟩=>l.length-k) (0,.slice none 0 0) ?_ ?_))))))))
 ·
  refine ⟨rfl,rfl,rfl,rfl,rfl,rfl,rfl,e1,h5,(OwnF.nil _ _ _ _),?_⟩;exact Nat.zero_le _
 rintro ⟨k,ov⟩ f_1 w2 ⟨s7_1,s13_1,s1_1,s5_1,s6_1,s11_1,s12_1,e_1,r0_1,r1_1,hk⟩;have z_1:=e_1.size;have r1_1s:=r1_1.sl;have hl55:=(r0_1).lt;have hlk:(Jn.stay (l.take k) o x).length<=k:=by have h1:=List.length_filter_le (Jn.keeps o x) (l.take k);unfold Jn.stay;rw[List.length_take] at h1;omega
 refine C.sr λK6=>O.lssI s13_1 s12_1 (K6 (C.sq λK7=>C.condD rfl (λc14=>?_) (λc14=>?_)))
 ·
  have hk2:k<l.length:=by omega
  refine C.skip (K7 (C.sq λK8=>C.bl λK9=>C.sr λK10=>O.idx U74 Z155 rfl s11_1 (hl.L e_1) s13_1 (by omega) (λa15 h15=>O.loadG (G:=markF) isAgg155 Z155 rfl h15 ?_)));obtain ⟨u,hu⟩:∃u:MarkT,u=l[k]:=⟨_,rfl⟩
  refine O.cast (v':=mv u) (by rw[hu];rfl) (O.alloc zeroValue155 (λb9 w3 hb9 hz9 e3=>?_));have z3:=e3.size;have h9:=hz9.own;have hl9:=h9.lt;refine O.storeA (vs:=[.int .i64 u.1.1,.int .i64 u.1.2,.int .i64 u.2.1,.int .u64 (u.2.2.toNat:Int)]) Z155 rfl rfl rfl (by simp[Value.oneCell']) h9 (leB rfl) (λw4 hs4 e4 z4=>K10 (C.sr λK11=>O.mv (O.makeF (v1:=[]) rfl rfl ?_)));have t0:=Ext.T e_1 e3;refine O.call call146 (args2 s1_1 rfl) (indexM_spec _ _ _ _ (λ_=>False) _ _ (hq.L (Ext.nr t0 e4)) (pred_stay b9 u _ _ hs4 not_false)) ?_;rintro v_19 w5 ⟨rfl,e5⟩;have z5:=e5.size;refine O.j (K11 (C.sd λK12 w6 e6 z6=>D.mv 0 rfl leR (D.t 1 rfl leR (λ_ _ _ hN=>O.lssI rfl rfl (O.o hN)) (D.mv 2 rfl leR (D.splitD (x:=.tmp 22) rfl (λc22=>?_) (λc22=>?_))))))
  ·
   have t1:=((r0_1.L e3).kO e4).L e5;refine D.ty 3 rfl rfl rfl rfl (isT rfl c22) leR ⟨_,rfl⟩ (λ_ hw_ _ hN=>O.loadOA isAgg51 Z51 s5_1 ((t1.L e6).L hw_) (leB rfl) (O.o hN)) (D.ty 4 rfl rfl rfl rfl (isT rfl c22) leR ⟨_,rfl⟩ (λ_ hw_ _ hN=>O.fa U155 rfl Z119 rfl (O.o hN)) (D.ty 5 rfl rfl rfl rfl (isT rfl c22) leR ⟨_,rfl⟩ (λ_ hw_ _ hN=>O.loadOA isAgg119 Z119 rfl (((hs4.L e5).L e6).L hw_) (leB rfl) (O.o hN)) (D.oneYes (i:=6) rfl rfl (isT rfl c22) (by kernel_rfl) ?_)));have t2:=Ext.T (Ext.nr t0 e4) e5;refine O.call call76 (args2 rfl rfl) (ctxHas_spec v1 v2 x F u.1 _ (hv.L (Ext.T t2 e6)) (hc.L (Ext.T t2 e6))) ?_;rintro v_26 w7 ⟨rfl,e7⟩;have z7:=e7.size;refine O.o ⟨e7,D.ty 7 rfl rfl rfl rfl (isT rfl c22) e7 ⟨_,rfl⟩ (λ_ hw_ _ hN=>O.not rfl (O.o hN)) (D.tk 8 rfl rfl rfl rfl e7 pick_form (λ_ hw_ _ hN=>O.pickT (isT rfl c22) (O.o hN)) (D.mv 9 rfl e7 (D.split (x:=.tmp 29) rfl (λc29=>?_) (λc29=>?_))))⟩
   ·
    refine D.tn 10 rfl rfl e7 rfl (noB (isT' rfl c29) rfl) (D.tn 11 rfl rfl e7 rfl (noB (isT' rfl c29) rfl) (D.tn 12 rfl rfl e7 rfl (noB (isT' rfl c29) rfl) (D.tn 13 rfl rfl e7 rfl (noU rfl) (D.tn 14 rfl rfl e7 rfl (noU rfl) (D.tn 15 rfl rfl e7 rfl (noU rfl) (D.tn 16 rfl rfl e7 rfl (noU rfl) (D.tn 17 rfl rfl e7 rfl (noU rfl) (D.tn 18 rfl rfl e7 rfl (noU rfl) (D.tn 19 rfl rfl e7 rfl (noU rfl) (D.tn 20 rfl rfl e7 rfl (noB (isT' rfl c29) rfl) (D.tk 21 rfl rfl rfl rfl e7 pick_form (λ_ hw_ _ hN=>O.pickT (isT' rfl c29) (O.o hN)) (K12 (C.condT rfl (C.region (O.mv (O.loadOA isAgg155 Z155 rfl (((hs4.L e5).L e6).L e7) (leB rfl) ?_))))))))))))))));refine O.litG (G:=markF) [u] U74 ti155 ts155 tz155 rfl (by decide) (by decide) rfl (λb44 w8 hb44 hz44 e8=>?_);have z8:=e8.size;have h44:=hz44.own;have hq44:=Sl.litG (n:=1) h44 rfl (by unfold maxLen;omega);have t3:=(r1_1.L e3).kM e4 (λk hk h=>by have:=r1_1.bk_ge k hk;(try dsimp only at h);omega);have t4:=(t3.L e5).L e6;have t5:=(t4.L e7).L e8;refine O.appF (G:=markF) U74 ti155 tz155 ts155 rfl s7_1 rfl t5 hq44 (by rw[tb155];simp;omega) (by unfold maxLen;simp;omega) (by omega) (λv45 w9 h45 e9=>?_);have z9:=e9.size;have h45s:=h45.sl;refine O.j (O.o (K9 (K8 (C.region (O.ad s13_1 rfl (O.mv (O.o ?_)))))));refine ⟨(k+1,_),⟨rfl,rfl,s1_1,s5_1,s6_1,s11_1,s12_1,(Ext.new (Ext.T (Ext.T (Ext.T t2 e6) e7) e8) e9 (by intro i hi h;have:=t5.bk_ge i h;omega)),((((t1.L e6).L e7).L e8).kM e9 (by intro h;have:=t5.bk_ge _ h;omega)),(by
 unfold Jn.stay;rw[Jn.filter_take2 _ hk2,<-hu]
 first
 |(rw[Jn.keeps_no c22,c29,if_pos rfl];exact h45)
 |(rw[Jn.keeps_no c22,c29,if_neg Bool.false_ne_true,List.append_nil];exact h45)
 |(rw[hkp,decide_eq_true c41,if_pos rfl];exact h45)
 |(rw[hkp,decide_eq_false c41,if_neg Bool.false_ne_true,List.append_nil];exact h45)),?_⟩,by first|omega|(simp only[];omega)⟩
    omega
   refine D.ty 10 rfl rfl rfl rfl (isF' rfl c29) e7 ⟨pure _,rfl⟩ (λ_ hw_ _ hN=>O.mv (O.o hN)) (D.ty 11 rfl rfl rfl rfl (isF' rfl c29) e7 ⟨_,rfl⟩ (λ_ hw_ _ hN=>O.geqI rfl rfl (O.o hN)) (D.ty 12 rfl rfl rfl rfl (isF' rfl c29) e7 ⟨pure _,rfl⟩ (λ_ hw_ _ hN=>O.mv (O.o hN)) (D.splitD (x:=.tmp 32) rfl (λc32=>?_) (λc32=>?_))))
   ·
    exfalso;omega
   refine D.tn 13 rfl rfl e7 rfl (noB (isF rfl c32) rfl) (D.tn 14 rfl rfl e7 rfl (noB (isF rfl c32) rfl) (D.tn 15 rfl rfl e7 rfl (noB (isF rfl c32) rfl) (D.tn 16 rfl rfl e7 rfl (noB (isF rfl c32) rfl) (D.tn 17 rfl rfl e7 rfl (noB (isF rfl c32) rfl) (D.tn 18 rfl rfl e7 rfl (noB (isF rfl c32) rfl) (D.tn 19 rfl rfl e7 rfl (noB (isF rfl c32) rfl) (D.ty 20 rfl rfl rfl rfl (isF' rfl c29) e7 pick_form (λ_ hw_ _ hN=>O.pickF (isF rfl c32) (O.o hN)) (D.tk 21 rfl rfl rfl rfl e7 pick_form (λ_ hw_ _ hN=>O.pickF (isF' rfl c29) (O.o hN)) (K12 (C.condF rfl (C.skip (K9 (K8 (C.region (O.ad s13_1 rfl (O.mv (O.o ?_)))))))))))))))));refine ⟨(k+1,_),⟨s7_1,rfl,s1_1,s5_1,s6_1,s11_1,s12_1,(Ext.T (Ext.T (Ext.T (Ext.nr (Ext.T e_1 e3) e4) e5) e6) e7),(((((r0_1.L e3).kO e4).L e5).L e6).L e7),(by
 unfold Jn.stay;rw[Jn.filter_take2 _ hk2,<-hu]
 first
 |(rw[Jn.keeps_no c22,c29,if_pos rfl];exact (((((r1_1.L e3).kM e4 (λk hk h=>by have:=r1_1.bk_ge k hk;(try dsimp only at h);omega)).L e5).L e6).L e7))
 |(rw[Jn.keeps_no c22,c29,if_neg Bool.false_ne_true,List.append_nil];exact (((((r1_1.L e3).kM e4 (λk hk h=>by have:=r1_1.bk_ge k hk;(try dsimp only at h);omega)).L e5).L e6).L e7))
 |(rw[hkp,decide_eq_true c41,if_pos rfl];exact (((((r1_1.L e3).kM e4 (λk hk h=>by have:=r1_1.bk_ge k hk;(try dsimp only at h);omega)).L e5).L e6).L e7))
 |(rw[hkp,decide_eq_false c41,if_neg Bool.false_ne_true,List.append_nil];exact (((((r1_1.L e3).kM e4 (λk hk h=>by have:=r1_1.bk_ge k hk;(try dsimp only at h);omega)).L e5).L e6).L e7))),?_⟩,by first|omega|(simp only[];omega)⟩
   omega
  obtain ⟨hjo,hkp⟩:=Jn.keeps_yes2 (x:=x) (m:=u) (o:=o) c22;refine D.tn 3 rfl rfl leR rfl (noB (isF rfl c22) rfl) (D.tn 4 rfl rfl leR rfl (noB (isF rfl c22) rfl) (D.tn 5 rfl rfl leR rfl (noB (isF rfl c22) rfl) (D.tn 6 rfl rfl leR rfl (noB (isF rfl c22) rfl) (D.tn 7 rfl rfl leR rfl (noB (isF rfl c22) rfl) (D.tk 8 rfl rfl rfl rfl leR pick_form (λ_ hw_ _ hN=>O.pickF (isF rfl c22) (O.o hN)) (D.mv 9 rfl leR (D.ty 10 rfl rfl rfl rfl rfl leR ⟨pure _,rfl⟩ (λ_ hw_ _ hN=>O.mv (O.o hN)) (D.ty 11 rfl rfl rfl rfl rfl leR ⟨_,rfl⟩ (λ_ hw_ _ hN=>O.geqI rfl rfl (O.o hN)) ?_))))))));refine D.ty 12 rfl rfl rfl rfl rfl leR ⟨pure _,rfl⟩ (λ_ hw_ _ hN=>O.mv (O.o hN)) (D.splitD (x:=.tmp 32) rfl (λc32=>?_) (λc32=>?_))
  ·
   refine D.ty 13 rfl rfl rfl rfl (isT rfl c32) leR ⟨_,rfl⟩ (λ_ hw_ _ hN=>O.loadOA isAgg155 Z155 rfl (((hs4.L e5).L e6).L hw_) (leB rfl) (O.o hN)) (D.ty 14 rfl rfl rfl rfl (isT rfl c32) leR ⟨pure _,rfl⟩ (λ_ hw_ _ hN=>O.mv (O.o hN)) (D.ty 15 rfl rfl rfl rfl (isT rfl c32) leR ⟨pure _,rfl⟩ (λ_ hw_ _ hN=>O.mv (O.o hN)) ?_));have t6:=Ext.nr (Ext.T e_1 e3) e4;have t7:=Ext.T (Ext.T t6 e5) e6;obtain ⟨a36,h36,hr36⟩:=Sl.at (i:=Cn.idx (Jn.sameD u) o) (P:=prog) U74 Z155 rfl (hq.L t7) (by omega);refine D.ty 16 rfl rfl rfl rfl (isT rfl c32) leR ⟨_,rfl⟩ (λ_ hw_ _ hN=>O.idxR s1_1 rfl hr36 (O.o hN)) (D.ty 17 rfl rfl rfl rfl (isT rfl c32) leR ⟨_,rfl⟩ (λ_ hw_ _ hN=>O.loadG (G:=markF) isAgg155 Z155 rfl (h36.L hw_) (O.o hN)) (D.oneYes (i:=18) rfl rfl (isT rfl c32) (by kernel_rfl) (O.call call148 (args2 rfl rfl) (mcmp_spec u _ _) ?_)));rintro v_38 w10 ⟨rfl,e10⟩;have z10:=e10.size;refine O.o ⟨e10,D.ty 19 rfl rfl rfl rfl (isT rfl c32) e10 ⟨_,rfl⟩ (λ_ hw_ _ hN=>O.geqI rfl rfl (O.o hN)) (D.ty 20 rfl rfl rfl rfl rfl e10 pick_form (λ_ hw_ _ hN=>O.pickT (isT rfl c32) (O.o hN)) (D.tk 21 rfl rfl rfl rfl e10 pick_form (λ_ hw_ _ hN=>O.pickF rfl (O.o hN)) (K12 (C.condD rfl (λc41=>?_) (λc41=>?_)))))⟩
   ·
    refine C.region (O.mv (O.loadOA isAgg155 Z155 rfl (((hs4.L e5).L e6).L e10) (leB rfl) (O.litG (G:=markF) [u] U74 ti155 ts155 tz155 rfl (by decide) (by decide) rfl (λb44 w11 hb44 hz44 e11=>?_))));have z11:=e11.size;have h44:=hz44.own;have hq44:=Sl.litG (n:=1) h44 rfl (by unfold maxLen;omega);have t8:=(r1_1.L e3).kM e4 (λk hk h=>by have:=r1_1.bk_ge k hk;(try dsimp only at h);omega);have t9:=(t8.L e5).L e6;have t10:=(t9.L e10).L e11;refine O.appF (G:=markF) U74 ti155 tz155 ts155 rfl s7_1 rfl t10 hq44 (by rw[tb155];simp;omega) (by unfold maxLen;simp;omega) (by omega) (λv45 w12 h45 e12=>?_);have z12:=e12.size;have h45s:=h45.sl;refine O.j (O.o (K9 (K8 (C.region (O.ad s13_1 rfl (O.mv (O.o ?_)))))));refine ⟨(k+1,_),⟨rfl,rfl,s1_1,s5_1,s6_1,s11_1,s12_1,(Ext.new (Ext.T (Ext.T t7 e10) e11) e12 (by intro i hi h;have:=t10.bk_ge i h;omega)),(((((((r0_1.L e3).kO e4).L e5).L e6).L e10).L e11).kM e12 (by intro h;have:=t10.bk_ge _ h;omega)),(by
 unfold Jn.stay;rw[Jn.filter_take2 _ hk2,<-hu]
 first
 |(rw[Jn.keeps_no c22,c29,if_pos rfl];exact h45)
 |(rw[Jn.keeps_no c22,c29,if_neg Bool.false_ne_true,List.append_nil];exact h45)
 |(rw[hkp,decide_eq_true c41,if_pos rfl];exact h45)
 |(rw[hkp,decide_eq_false c41,if_neg Bool.false_ne_true,List.append_nil];exact h45)),?_⟩,by first|omega|(simp only[];omega)⟩
    omega
   refine C.skip (K9 (K8 (C.region (O.ad s13_1 rfl (O.mv (O.o ?_))))));refine ⟨(k+1,_),⟨s7_1,rfl,s1_1,s5_1,s6_1,s11_1,s12_1,(Ext.T (Ext.T (Ext.T (Ext.nr (Ext.T e_1 e3) e4) e5) e6) e10),(((((r0_1.L e3).kO e4).L e5).L e6).L e10),(by
 unfold Jn.stay;rw[Jn.filter_take2 _ hk2,<-hu]
 first
 |(rw[Jn.keeps_no c22,c29,if_pos rfl];exact (((((r1_1.L e3).kM e4 (λk hk h=>by have:=r1_1.bk_ge k hk;(try dsimp only at h);omega)).L e5).L e6).L e10))
 |(rw[Jn.keeps_no c22,c29,if_neg Bool.false_ne_true,List.append_nil];exact (((((r1_1.L e3).kM e4 (λk hk h=>by have:=r1_1.bk_ge k hk;(try dsimp only at h);omega)).L e5).L e6).L e10))
 |(rw[hkp,decide_eq_true c41,if_pos rfl];exact (((((r1_1.L e3).kM e4 (λk hk h=>by have:=r1_1.bk_ge k hk;(try dsimp only at h);omega)).L e5).L e6).L e10))
 |(rw[hkp,decide_eq_false c41,if_neg Bool.false_ne_true,List.append_nil];exact (((((r1_1.L e3).kM e4 (λk hk h=>by have:=r1_1.bk_ge k hk;(try dsimp only at h);omega)).L e5).L e6).L e10))),?_⟩,by first|omega|(simp only[];omega)⟩
   omega
  exfalso;omega
 refine C.exit (K5 (K3 (C.sr λK13=>O.mv (O.j (K13 (C.ret (Outs.one rfl s7_1 ?_)))))));obtain rfl:k=l.length:=by omega
 rw[List.take_length] at r1_1;exact ⟨e_1,(r1_1).low (by omega)⟩
theorem index1_spec (r:List UInt8×Raw)(bc:Nat)(s:List UInt8)(w:World)(ho:Own w bc 9 [str s]):
 Ret prog 208 #[.agg #[str r.1,slv r.2],.pointer (some ⟨bc,0,none⟩)] w (λv w'=>v=.bool (Jn.nameIs s r)∧Le w w'):=by
 refine enT [.agg #[str r.1,slv r.2],.pointer (some ⟨bc,0,none⟩)] 8 func208 rfl rfl (C.sr λK1=>O.box (v:=.agg #[str r.1,slv r.2]) rfl (λb2 w1 hb2 hz2 e1=>?_));have z1:=e1.size;have h2:=hz2.own;have hl2:=h2.lt;refine O.j (K1 (C.sr λK2=>O.fa U76 rfl Z9 rfl (O.loadO isAgg9 rfl h2 rfl (O.loadO isAgg9 rfl (ho.L e1) rfl (O.eqlS rfl rfl (O.j (K2 (C.ret (Outs.one rfl rfl ?_)))))))));exact ⟨cB (decide_eq_decide.2 Iff.rfl),e1⟩
theorem pred_index (bc:Nat)(s:List UInt8)(M:Nat->Prop)(w:World)(ho:Own w bc 9 [str s])(hM:¬M bc):Pred prog M w (.func (.func 208) #[] #[.pointer (some ⟨bc,0,none⟩)]) iv (Jn.nameIs s):=⟨208,[.pointer (some ⟨bc,0,none⟩)],rfl,call208,λr w' e=>index1_spec r bc s w' (ho.kM e hM)⟩
theorem indexI_spec (v0 vf:Value)(l:List (List UInt8×Raw))(F M:Nat->Prop)(p:(List UInt8×Raw)->Bool)(w:World)(hl:Sl itemF.enc w F v0 l)(hp:Pred prog M w vf iv p):
 Ret prog 207 #[v0,vf] w (λv w'=>v=.int .i64 (Cn.idx p l)∧Le w w'):=by
 have hle:=hl.le;refine enT [v0,vf] 19 func207 rfl rfl (C.sr λK1=>O.j (K1 (C.sq λK2=>C.sr λK3=>O.mv (O.len U52 rfl hl (O.mv (K3 (C.bl λK4=>C.loop0 (σ:=Nat) (λf0 w0 k f wz=>f 8=.int .i64 (k)∧f 0=f0 0∧f 1=f0 1∧f 7=f0 7∧Le w wz∧k<=l.length∧∀i,∀h:i<l.length,i<k->p l[i]=false) (λk=>l.length-k) 0 ?_ ?_)))))))
 ·
  refine ⟨rfl,rfl,rfl,rfl,leR,?_⟩;exact ⟨Nat.zero_le _,λi h k=>absurd k (Nat.not_lt_zero _)⟩
 rintro k f_1 w1 ⟨s8_1,s0_1,s1_1,s7_1,e_1,⟨hk,hI⟩⟩;have z_1:=e_1.size;refine C.sr λK5=>O.lssI s8_1 s7_1 (K5 (C.sq λK6=>C.condD rfl (λc9=>?_) (λc9=>?_)))
 ·
  have hk2:k<l.length:=by omega
  refine C.skip (K6 (C.sq λK7=>C.bl λK8=>C.sr λK9=>O.mv (O.j (K9 (C.sr λK10=>O.mv (O.mv (O.mv (O.idx U52 Z76 rfl s0_1 (hl.L e_1) s8_1 (by omega) (λa14 h14=>O.loadG (G:=itemF) isAgg76 Z76 rfl h14 (O.callP (_) (hp.L e_1) s1_1 rfl (λw2 e2=>?_)))))))))));have z2:=e2.size;refine K10 (C.cond rfl (λc16=>?_) (λc16=>?_))
  ·
   simp only[Int.toNat_natCast] at c16;refine C.sr λK11=>O.mv (O.j (K11 (C.ret (Outs.one rfl s8_1 ?_))))
   first
   |exact ⟨cI (Cn.idx_yes hk2 c16 hI).symm,(Ext.T e_1 e2)⟩
   |exact ⟨cI (Cn.idx_no λi hi=>hI i hi (by omega)).symm,(Ext.T e_1 e2)⟩
  simp only[Int.toNat_natCast] at c16;refine C.skip (K8 (K7 (C.region (O.ad s8_1 rfl (O.mv (O.o (⟨k+1,⟨rfl,s0_1,s1_1,s7_1,(Ext.T e_1 e2),?_⟩,by first|omega|(simp only[];omega)⟩)))))));refine ⟨by omega,λi hi hik=>?_⟩;rcases Nat.lt_or_eq_of_le (Nat.le_of_lt_succ hik) with h|rfl
  ·exact hI i hi h
  ·exact c16
 refine C.exit (K4 (K2 (C.sr λK12=>O.j (K12 (C.ret (Outs.one rfl rfl ?_))))))
 first
 |exact ⟨cI (Cn.idx_yes hk2 c16 hI).symm,e_1⟩
 |exact ⟨cI (Cn.idx_no λi hi=>hI i hi (by omega)).symm,e_1⟩
theorem iindex_spec (v0:Value)(l:List (List UInt8×Raw))(s:List UInt8)(F:Nat->Prop)(w:World)(hl:Sl itemF.enc w F v0 l):
 Ret prog 175 #[v0,str (s)] w (λv w'=>v=.int .i64 (Cn.idx (Jn.nameIs s) l)∧Le w w'):=by
 refine enT [v0,str (s)] 8 func175 rfl rfl (C.sr λK1=>O.box (v:=str (s)) rfl (λb3 w1 hb3 hz3 e1=>?_));have z1:=e1.size;have h3:=hz3.own;have hl3:=h3.lt;refine O.j (K1 (C.sr λK2=>O.mv (O.makeF (v1:=[]) rfl rfl (O.call call207 (args2 rfl rfl) (indexI_spec _ _ _ _ (λ_=>False) _ _ (hl.L e1) (pred_index b3 s _ _ h3 not_false)) ?_))));rintro v_7 w2 ⟨rfl,e2⟩;have z2:=e2.size;refine O.j (K2 (C.ret (Outs.one rfl rfl ?_)));exact ⟨rfl,(Ext.T e1 e2)⟩
theorem icopy_spec (v0:Value)(l:List ItemT)(raw:List (List UInt8×Raw))(F:Nat->Prop)(w:World)(hl:Sl itemF.enc w F v0 raw)(hit:Items w F raw l)(hn:l.length<=1000000)(hS:∀x∈l,x.2.length<=1000000):
 Ret prog 65 #[v0] w (λv w'=>Le w w'∧SlI 76 155 w' (λj=>w.heap.size<=j∧j<w'.heap.size) v l):=by
 have hle:=hl.le;have hrl:=hit.1;refine enT [v0] 24 func65 rfl rfl (C.sr λK1=>O.j (K1 (C.sr λK2=>O.mv (O.call call98 (args1 rfl) (cloneT_spec _ raw _ _ hl (by omega)) ?_))));rintro v_7 w1 ⟨e1,h7⟩;have z1:=e1.size;obtain ⟨n7,hn7⟩:∃n,n=w1.heap.size:=⟨_,rfl⟩
 have hb7:∀j,bk v_7 j->w.heap.size<=j∧j<n7:=λj hj=>by have:=h7.bk_ge j hj;omega
 have hk07:ItemsK 155 w1 (λj=>n7<=j∧j<w1.heap.size) 0 raw l:=((hit.L e1)).k0;have h7s:=h7.sl;refine O.j (K2 (C.sq λK3=>C.sr λK4=>O.mv (O.len U52 rfl (hl.L e1) (O.mv (K4 (C.bl λK5=>C.loop0 (σ:=Nat×List (List UInt8×Raw)) (λf0 w0 ⟨k,cur⟩ f wz=>f 10=.int .i64 (k)∧f 2=f0 2∧f 3=f0 3∧f 8=f0 8∧f 9=f0 9∧Le w wz∧OwnF itemF 76 w.heap.size wz v_7 cur∧ItemsK 155 wz (λj=>n7<=j∧j<wz.heap.size) k cur l∧k<=l.length∧n7<=wz.heap.size) (λ⟨k,cur⟩=>l.length-k) (0,raw) ?_ ?_))))))
 ·
  refine ⟨rfl,rfl,rfl,rfl,rfl,e1,h7,hk07,?_⟩;exact ⟨Nat.zero_le _,by omega⟩
 rintro ⟨k,cur⟩ f_1 w2 ⟨s10_1,s2_1,s3_1,s8_1,s9_1,e_1,r0_1,r1_1,⟨hk,hnz⟩⟩;have z_1:=e_1.size;have r0_1s:=r0_1.sl;have hcl:=(r1_1).1;refine C.sr λK6=>O.lssI s10_1 s9_1 (K6 (C.sq λK7=>C.condD rfl (λc11=>?_) (λc11=>?_)))
 ·
  have hk2:k<raw.length:=by omega
  have hk3:k<l.length:=by omega
  refine C.skip (K7 (C.sq λK8=>C.bl λK9=>C.sr λK10=>O.mv (O.idx U52 Z76 rfl s8_1 (hl.L e_1) s10_1 (by omega) (λa13 h13=>O.loadG (G:=itemF) isAgg76 Z76 rfl h13 ?_))));obtain ⟨u,hu⟩:∃u:List UInt8×Raw,u=raw[k]:=⟨_,rfl⟩
  refine O.cast (v':=.agg #[str u.1,slv u.2]) (by rw[hu];rfl) (O.alloc zeroValue76 (λb5 w3 hb5 hz5 e3=>?_));have z3:=e3.size;have h5:=hz5.own;have hl5:=h5.lt;refine O.j (O.storeA (vs:=[str u.1,slv u.2]) Z76 rfl rfl rfl (ones2 rfl) h5 (leB rfl) (λw4 hs4 e4 z4=>K10 (C.region (O.mv (O.mv (O.fa U76 rfl Z74 rfl (O.loadO isAgg74 rfl hs4 rfl ?_)))))));have t0:=Ext.nr (Ext.T e_1 e3) e4;have hm18:Sl markF.enc w4 F (slv u.2) l[k].2:=by rw[hu];exact (((hit.L t0)).2 k hk2 hk3).2
  refine O.call call99 (args1 rfl) (cloneM_spec (slv u.2) (l[k].2) F _ hm18 (by have:=hS _ (List.getElem_mem hk3);omega)) ?_;rintro v_19 w5 ⟨e5,h19⟩;have z5:=e5.size;have h19b:=h19.bk_ge;have h19s:=h19.sl;obtain ⟨s19,rfl⟩:=h19s.slv;have t1:=(r0_1.L e3).kM e4 (λk hk h=>by have:=r0_1.bk_ge k hk;(try dsimp only at h);omega);obtain ⟨g20,cap20,hv20⟩:=OwnF.ptr (t1.L e5) (by omega);have ho20:=(t1.L e5)
  rw[hv20] at ho20;refine O.idxO U52 Z76 (Eq.trans s3_1 hv20) s10_1 (by omega) (O.fa U76 rfl Z74 rfl (O.storeC (G:=itemF) (i:=k) (off:=1) ((cur[k].1,s19)) (by simp[itemF]) Z74 rfl rfl rfl ho20 (by omega) (by decide) rfl (λw6 hs6 e6 z6=>?_)));rw[<-hv20] at hs6;refine O.o (K9 (K8 (C.region (O.ad s10_1 rfl (O.mv (O.o (⟨(k+1,_),⟨rfl,s2_1,s3_1,s8_1,s9_1,(Ext.new (Ext.T t0 e5) e6 (by intro i hi h;have h0:i=g20:=h;have q1:=ho20.bk_ge g20 rfl;omega)),hs6,((((((r1_1.L e3).keepA e4).L e5).kM e6 (by intro j hj h;have h0:j=g20:=h;have q1:=hb7 g20 (by rw[hv20];rfl);(try dsimp only at hj);omega))).weakA).set (by omega) hk3 (((h19.kM e6 (by intro j hj h;have h0:j=g20:=h;have q1:=hb7 g20 (by rw[hv20];rfl);have q2:=h19b j hj;omega))).fre λj hj=>by have q2:=h19b j hj;(try dsimp only);omega),?_⟩,by first|omega|(simp only[];omega)⟩)))))));exact ⟨by omega,by omega⟩
 refine C.exit (K5 (K3 (C.sr λK11=>O.mv (O.j (K11 (C.ret (Outs.one rfl s3_1 ?_)))))));exact ⟨e_1,cur,(r0_1).fre (λj hj=>by have q1:=(r0_1).bk_ge j hj;(try dsimp only);omega),((r1_1).all (by omega)).weakA⟩
end Go.Proofs.YtlgjaminfabchaaGreatDoor
end
