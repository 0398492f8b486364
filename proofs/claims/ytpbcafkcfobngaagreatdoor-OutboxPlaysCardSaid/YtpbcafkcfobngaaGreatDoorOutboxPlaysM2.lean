/-
 The walks of the reference: order of bytes, small carts, carts compared and copied. Conditions: slices as they lie in memory.
-/
import Derived.Test.YtpbcafkcfobngaaGreatDoorRows
import Derived.Shelf.SlLaysF
import Derived.Shelf.SlLaysF0
import Derived.Ground.SlsfProg
import Derived.Test.YtpbcafkcfobngaaGreatDoorProg
import Derived.Shelf.Strings.Trim
import Derived.Shelf.Small.Bits
import Derived.Shelf.Small.Wraps
import Derived.Shelf.Strings.Search3
import Derived.Shelf.LaysM
import Derived.Shelf.Strings.Shaped
import Derived.Shelf.Strings.Runes
import Derived.Shelf.Slices.CompactS
import Derived.Shelf.SlSortCmp.WholeK
import Derived.Shelf.Small.Utf8
import Derived.Shelf.Small.Strs
import Derived.Test.YtpbcafkcfobngaaGreatDoorOutboxPlaysM1
set_option maxHeartbeats 16000000
namespace Go.Proofs.YtpbcafkcfobngaaGreatDoor
open Go.Pn Go.RowKit Go.Proofs _root_.Go.Proofs.Tryz
attribute [local irreducible] O C D
theorem small_spec (va1 va2 va3:Value)(a:Cn.Cart)(F:Nat->Prop)(w:World)(hav:Sl Dt.dotF.enc w F va1 a.1.1)(hac:Sl Dt.dotF.enc w F va2 a.1.2)(hai:Sl itemE w F va3 a.2):
 Ret prog 38 #[.agg #[va1,va2,va3]] w (λv w'=>v=.bool (Cn.small a)∧Le w w'):=by
 have hle:=hai.le;have hle1:=hav.le;have hle2:=hac.le;refine enT [.agg #[va1,va2,va3]] 51 func38 rfl rfl (C.sr λK1=>O.box (v:=.agg #[va1,va2,va3]) rfl (λb1 w1 hb1 hz1 e1=>?_));have z1:=e1.size;have h1:=hz1.own;have hl1:=h1.lt;refine O.j (K1 (C.sq λK2=>C.sr λK3=>O.j (K3 (C.bl λK4=>C.loop0 (σ:=Nat) (λf0 w0 k f w=>f 3=.int .i64 (k)∧f 1=f0 1∧Le w0 w∧k<=a.2.length∧∀i,∀h:i<a.2.length,i<k->Cn.smallI a.2[i]=true) (λk=>a.2.length-k) 0 ?_ ?_))))
 ·
  refine ⟨rfl,rfl,Le.refl _,?_⟩;exact ⟨Nat.zero_le _,λi h k=>absurd k (Nat.not_lt_zero _)⟩
 rintro k f_1 w2 ⟨s3_1,s1_1,e_1,⟨hk,hI⟩⟩;have z_1:=e_1.size;refine C.sq λK5=>C.sr λK6=>O.mv (O.fa U47 rfl Z45 s1_1 (O.loadO isAgg45 rfl (h1.L e_1) rfl ?_))
 have t0:=(hai.L e1).L e_1;refine O.len U45 rfl t0 (O.lssI s3_1 rfl (O.mv (O.cut 3 (λf f'=>f' 12=.bool (decide ((k:Int)<(a.2.length:Int)∧(k:Int)<21))∧f' 1=f 1∧f' 3=f 3) ?_ ?_)))
 ·
  refine O.splitD (x:=.tmp 9) rfl (λc9=>?_) (λc9=>?_)
  ·
   refine O.yes rfl (isT rfl c9) (O.mv (O.yes rfl (isT rfl c9) (O.lssI s3_1 rfl (O.pickT (isT rfl c9) (O.o (⟨⟨?_,rfl,rfl⟩,rfl⟩))))));exact dJ rfl
  refine O.no rfl (noB (isF rfl c9) rfl) (O.no rfl (noB (isF rfl c9) rfl) (O.pickF (isF rfl c9) (O.o (⟨⟨?_,rfl,rfl⟩,rfl⟩))));exact dJ rfl
 rintro f_2 ⟨s12_2,s1_2,s3_2⟩;refine K6 (C.condD s12_2 (λc12=>?_) (λc12=>?_))
 ·
  have hk2:k<a.2.length:=by omega
  refine C.skip (K5 (C.sq λK7=>C.bl λK8=>C.sr λK9=>O.fa U47 rfl Z45 (Eq.trans s1_2 s1_1) (O.loadO isAgg45 rfl (h1.L e_1) rfl (O.mv (O.idx U45 Z117 rfl rfl t0 (Eq.trans s3_2 s3_1) (by omega) (λa18 h18=>O.ft U117 rfl Z115 rfl (O.loadMarks isAgg115 rfl h18 (λvm20 hm20=>O.len U115 rfl hm20 (O.gtrI rfl rfl (O.mv (O.splitD (x:=.tmp 23) rfl (λc23=>?_) (λc23=>?_))))))))))))
  ·
   simp only[Int.toNat_natCast] at c23;refine O.no rfl (noB (isT rfl c23) rfl) (O.no rfl (noB (isT rfl c23) rfl) (O.no rfl (noB (isT rfl c23) rfl) (O.no rfl (noB (isT rfl c23) rfl) (O.no rfl (noB (isT rfl c23) rfl) (O.no rfl (noB (isT rfl c23) rfl) (O.no rfl (noB (isT rfl c23) rfl) (O.no rfl (noB (isT rfl c23) rfl) (O.pickT (isT rfl c23) (K9 (C.condT rfl (C.sr λK10=>O.j (K10 (C.ret (Outs.one rfl rfl ?_))))))))))))))
   (refine ⟨congrArg Value.bool ?_,(Ext.T e1 e_1)⟩
    have q:a.2.all Cn.smallI=false:=Cn.all_no hk2 (Cn.smallI_no (by omega));unfold Cn.small;rw[q,Bool.and_false])
  simp only[Int.toNat_natCast] at c23;refine O.yes rfl (isF rfl c23) (O.fa U47 rfl Z45 (Eq.trans s1_2 s1_1) (O.yes rfl (isF rfl c23) (O.loadO isAgg45 rfl (h1.L e_1) rfl (O.yes rfl (isF rfl c23) (O.mv (O.yes rfl (isF rfl c23) (O.idx U45 Z117 rfl rfl t0 (Eq.trans s3_2 s3_1) (by omega) (λa27 h27=>O.yes rfl (isF rfl c23) (O.ft U117 rfl Z9 rfl (O.yes rfl (isF rfl c23) (O.loadName isAgg9 rfl h27 (O.yes rfl (isF rfl c23) (O.lenS U9 rfl (O.yes rfl (isF rfl c23) (O.gtrI rfl rfl (O.pickF (isF rfl c23) (K9 (C.condD rfl (λc32=>?_) (λc32=>?_)))))))))))))))))))
  ·
   simp only[Int.toNat_natCast] at c32;refine C.sr λK11=>O.j (K11 (C.ret (Outs.one rfl rfl ?_)))
   (refine ⟨congrArg Value.bool ?_,(Ext.T e1 e_1)⟩
    have q:a.2.all Cn.smallI=false:=Cn.all_no hk2 (Cn.smallI_no (by omega));unfold Cn.small;rw[q,Bool.and_false])
  simp only[Int.toNat_natCast] at c32;refine C.skip (K8 (K7 (C.region (O.mv (O.ad (Eq.trans s3_2 s3_1) rfl (O.j (O.o (⟨k+1,⟨rfl,(Eq.trans s1_2 s1_1),e_1,?_⟩,by first|omega|(simp only[];omega)⟩))))))));refine ⟨by omega,λi hi hik=>?_⟩;rcases Nat.lt_or_eq_of_le (Nat.le_of_lt_succ hik) with h|rfl
  ·exact hI i hi h
  ·exact Cn.smallI_yes (by omega) (by omega)
 refine C.exit (K4 (K2 (C.sr λK12=>O.fa U47 rfl Z44 (Eq.trans s1_2 s1_1) (O.fa U44 rfl Z42 rfl (O.loadO isAgg42 rfl (h1.L e_1) rfl (O.len U42 rfl ((hav.L e1).L e_1) (O.leqI rfl rfl (O.mv (O.cut 6 (λf f'=>f' 44=.bool (decide ((a.1.1.length:Int)<=40∧(a.1.2.length:Int)<=40))∧f' 1=f 1) ?_ ?_)))))))))
 ·
  refine O.splitD (x:=.tmp 38) rfl (λc38=>?_) (λc38=>?_)
  ·
   refine O.yes rfl (isT rfl c38) (O.fa U47 rfl Z44 (Eq.trans s1_2 s1_1) (O.yes rfl (isT rfl c38) (O.fa U44 rfl Z41 rfl (O.yes rfl (isT rfl c38) (O.loadO isAgg41 rfl (h1.L e_1) rfl (O.yes rfl (isT rfl c38) (O.len U41 rfl ((hac.L e1).L e_1) (O.yes rfl (isT rfl c38) (O.leqI rfl rfl (O.pickT (isT rfl c38) (O.o (⟨⟨?_,rfl⟩,rfl⟩))))))))))));exact dJ rfl
  refine O.no rfl (noB (isF rfl c38) rfl) (O.no rfl (noB (isF rfl c38) rfl) (O.no rfl (noB (isF rfl c38) rfl) (O.no rfl (noB (isF rfl c38) rfl) (O.no rfl (noB (isF rfl c38) rfl) (O.pickF (isF rfl c38) (O.o (⟨⟨?_,rfl⟩,rfl⟩)))))));exact dJ rfl
 rintro f_3 ⟨s44_3,s1_3⟩;refine O.mv (O.cut 5 (λf f'=>f' 50=.bool (decide (((a.1.1.length:Int)<=40∧(a.1.2.length:Int)<=40)∧(a.2.length:Int)<=20))) ?_ ?_)
 ·
  refine O.splitD (x:=.tmp 45) s44_3 (λc45=>?_) (λc45=>?_)
  ·
   refine O.yes rfl (isT s44_3 c45) (O.fa U47 rfl Z45 (Eq.trans s1_3 (Eq.trans s1_2 s1_1)) (O.yes rfl (isT s44_3 c45) (O.loadO isAgg45 rfl (h1.L e_1) rfl (O.yes rfl (isT s44_3 c45) (O.len U45 rfl t0 (O.yes rfl (isT s44_3 c45) (O.leqI rfl rfl (O.pickT (isT s44_3 c45) (O.o (⟨?_,rfl⟩))))))))));exact dJ rfl
  refine O.no rfl (noB (isF s44_3 c45) rfl) (O.no rfl (noB (isF s44_3 c45) rfl) (O.no rfl (noB (isF s44_3 c45) rfl) (O.no rfl (noB (isF s44_3 c45) rfl) (O.pickF (isF s44_3 c45) (O.o (⟨?_,rfl⟩))))));exact dJ rfl
 intro f_4 s50_4;refine O.j (K12 (C.ret (Outs.one rfl s50_4 ?_)))
 first
 |(refine ⟨congrArg Value.bool ?_,(Ext.T e1 e_1)⟩
   have q:a.2.all Cn.smallI=false:=Cn.all_no hk2 (Cn.smallI_no (by omega));unfold Cn.small;rw[q,Bool.and_false])
 |(refine ⟨congrArg Value.bool ?_,(Ext.T e1 e_1)⟩
   exact Cn.small_of (λh i hi=>hI i hi (by omega)))
theorem ones3c {a b c:Value}(h1:a.oneCell'=true)(h2:b.oneCell'=true)(h3:c.oneCell'=true):∀u∈[a,b,c],u.oneCell'=true:=by
 intro u hu;simp only[List.mem_cons,List.not_mem_nil,or_false] at hu;rcases hu with rfl|rfl|rfl<;>assumption
theorem copy_spec (va1 va2 va3:Value)(a:Cn.Cart)(F:Nat->Prop)(w:World)(hav:Sl Dt.dotF.enc w F va1 a.1.1)(hac:Sl Dt.dotF.enc w F va2 a.1.2)(hai:Sl itemE w F va3 a.2)(hF:∀k,F k->k<w.heap.size)(hn:a.2.length<=1000000)(hS:∀x∈a.2,x.1.length<=1000000∧x.2.length<=1000000)(hp:a.1.1.length<=1000000)(hq:a.1.2.length<=1000000):
 Ret prog 53 #[.agg #[va1,va2,va3]] w (λv w'=>∃v1 v2 v3:Value,v=.agg #[v1,v2,v3]∧Sl Dt.dotF.enc w' (λk=>w.heap.size<=k∧k<w'.heap.size) v1 a.1.1∧Sl Dt.dotF.enc w' (λk=>w.heap.size<=k∧k<w'.heap.size) v2 a.1.2∧Sl itemE w' (λk=>w.heap.size<=k∧k<w'.heap.size) v3 a.2∧Le w w'):=by
 have hle:=hai.le;obtain ⟨wz0,hwz0⟩:∃n,n=w.heap.size:=⟨_,rfl⟩
 obtain ⟨ie112,ti112,ts112,tb112,tz112⟩:=inf112;obtain ⟨ie114,ti114,ts114,tb114,tz114⟩:=inf114;obtain ⟨ie117,ti117,ts117,tb117,tz117⟩:=inf117;refine enT [.agg #[va1,va2,va3]] 39 func53 rfl rfl (C.sr λK1=>O.box (v:=.agg #[va1,va2,va3]) rfl (λb1 w1 hb1 hz1 e1=>?_));have z1:=e1.size;have h1:=hz1.own;have hl1:=h1.lt;refine O.alloc zeroValue47 (λb2 w2 hb2 hz2 e2=>?_);have z2:=e2.size;have h2:=hz2.own;have hl2:=h2.lt;refine K1 (C.sq λK2=>C.join (λf w f' w'=>Le w w'∧f' 1=f 1∧f' 2=f 2∧∃(b3:Nat) (v9:Value) (v13:Value),f' 3=.pointer (some ⟨b3,0,none⟩)∧Own w' b3 47 [v9,v13,.slice none 0 0]∧Sl Dt.dotF.enc w' (λk=>w.heap.size<=k∧k<w'.heap.size∧k≠b3) v9 a.1.1∧Sl Dt.dotF.enc w' (λk=>w.heap.size<=k∧k<w'.heap.size∧k≠b3) v13 a.1.2∧b2<b3) ?_ ?_)
 ·
  refine C.draw (by kernel_rfl) λw3 e3=>?_
  have z3:=e3.size;refine D.t 0 rfl leR (λ_ _ _ hN=>O.fa U47 rfl Z44 rfl (O.o hN)) (D.t 1 rfl leR (λ_ _ _ hN=>O.fa U44 rfl Z42 rfl (O.o hN)) (D.t 2 rfl leR (λ_ hw_ _ hN=>O.loadO isAgg42 rfl (((h1.L e2).L e3).L hw_) rfl (O.o hN)) (D.t 4 rfl leR (λ_ _ _ hN=>O.fa U47 rfl Z44 rfl (O.o hN)) (D.t 5 rfl leR (λ_ _ _ hN=>O.fa U44 rfl Z41 rfl (O.o hN)) (D.t 6 rfl leR (λ_ hw_ _ hN=>O.loadO isAgg41 rfl (((h1.L e2).L e3).L hw_) rfl (O.o hN)) ?_)))));refine D.many [3,10] (by kernel_rfl) (by decide) ⟨?_,?_,trivial⟩
  ·
   refine D.stepU rfl rfl (O.appF (G:=Dt.dotF) U42 ti112 tz112 ts112 rfl rfl rfl (OwnF.nil _ _ _ _) (((hav.L e1).L e2).L e3) (by rw[tb112];simp;omega) (by unfold maxLen;simp;omega) (Nat.le_refl _) (λv9 w4 h9 e4=>?_));replace e4:Le w3 w4:=e4.mono (λ_ _ h=>h);have z4:=e4.size;have h9s:=h9.sl;refine O.o ⟨e4,?_⟩;obtain ⟨s9,rfl⟩:=h9s.slv;refine D.many [7,10] (by kernel_rfl) (by decide) ⟨?_,?_,trivial⟩
   ·
    refine D.stepU rfl rfl (O.appF (G:=Dt.dotF) U41 ti112 tz112 ts112 rfl rfl rfl (OwnF.nil _ _ _ _) ((((hac.L e1).L e2).L e3).L e4) (by rw[tb112];simp;omega) (by unfold maxLen;simp;omega) (Nat.le_refl _) (λv13 w5 h13 e5=>?_));replace e5:Le w4 w5:=e5.mono (λ_ _ h=>h);have z5:=e5.size;have h13s:=h13.sl;refine O.o ⟨(Ext.T e4 e5),?_⟩;obtain ⟨s13,rfl⟩:=h13s.slv;refine D.many [8,10] (by kernel_rfl) (by decide) ⟨?_,?_,trivial⟩
    ·
     refine D.stepU rfl rfl (O.build (cells:=#[slv s9,slv s13]) rfl (by kernel_rfl) (O.o ⟨(Ext.T e4 e5),D.many [9,10] (by kernel_rfl) (by decide) ⟨?_,?_,trivial⟩⟩))
     ·
      refine D.stepU rfl rfl (O.build (cells:=#[slv s9,slv s13,.slice none 0 0]) rfl (by kernel_rfl) (O.o ⟨(Ext.T e4 e5),D.on 10 rfl rfl (O.alloc zeroValue47 (λb3 w6 hb3 hz3 e6=>?_))⟩));have z6:=e6.size;have h3:=hz3.own;have hl3:=h3.lt;refine O.o ⟨(Ext.T (Ext.T e4 e5) e6),D.on 11 rfl rfl (O.storeA (vs:=[slv s9,slv s13,.slice none 0 0]) Z47 rfl rfl rfl (ones3c rfl rfl rfl) h3 (leB rfl) (λw7 hs7 e7 z7=>O.o ⟨(Ext.nr (Ext.T (Ext.T e4 e5) e6) e7),D.dn ?_⟩))⟩;exact ⟨(Ext.nr (Ext.T (Ext.T (Ext.T e3 e4) e5) e6) e7),rfl,rfl,⟨_,_,_,rfl,hs7,((((h9s.L e5).L e6).kM e7 (λk hk h=>by have:=h9.bk_ge k hk;(try dsimp only at h);omega)).weak (by intro k hk;have q1:=h9.bk_ge k hk;(try dsimp only);omega)),(((h13s.L e6).kM e7 (λk hk h=>by have:=h13.bk_ge k hk;(try dsimp only at h);omega)).weak (by intro k hk;have q1:=h13.bk_ge k hk;(try dsimp only);omega)),(by omega)⟩⟩
     refine D.stepU rfl rfl (O.alloc zeroValue47 (λb3 w8 hb3 hz3 e8=>?_));have z8:=e8.size;have h3:=hz3.own;have hl3:=h3.lt;have t0:=Ext.T (Ext.T e4 e5) e8;refine O.o ⟨t0,D.on 9 rfl rfl (O.build (cells:=#[slv s9,slv s13,.slice none 0 0]) rfl (by kernel_rfl) (O.o ⟨t0,D.on 11 rfl rfl (O.storeA (vs:=[slv s9,slv s13,.slice none 0 0]) Z47 rfl rfl rfl (ones3c rfl rfl rfl) h3 (leB rfl) (λw9 hs9 e9 z9=>O.o ⟨(Ext.nr t0 e9),D.dn ?_⟩))⟩))⟩;exact ⟨(Ext.nr (Ext.T (Ext.T (Ext.T e3 e4) e5) e8) e9),rfl,rfl,⟨_,_,_,rfl,hs9,((((h9s.L e5).L e8).kM e9 (λk hk h=>by have:=h9.bk_ge k hk;(try dsimp only at h);omega)).weak (by intro k hk;have q1:=h9.bk_ge k hk;(try dsimp only);omega)),(((h13s.L e8).kM e9 (λk hk h=>by have:=h13.bk_ge k hk;(try dsimp only at h);omega)).weak (by intro k hk;have q1:=h13.bk_ge k hk;(try dsimp only);omega)),(by omega)⟩⟩
    refine D.stepU rfl rfl (O.alloc zeroValue47 (λb3 w10 hb3 hz3 e10=>?_));have z10:=e10.size;have h3:=hz3.own;have hl3:=h3.lt;have t1:=Ext.T (Ext.T e4 e5) e10;refine O.o ⟨t1,D.on 8 rfl rfl (O.build (cells:=#[slv s9,slv s13]) rfl (by kernel_rfl) (O.o ⟨t1,D.on 9 rfl rfl (O.build (cells:=#[slv s9,slv s13,.slice none 0 0]) rfl (by kernel_rfl) (O.o ⟨t1,D.on 11 rfl rfl (O.storeA (vs:=[slv s9,slv s13,.slice none 0 0]) Z47 rfl rfl rfl (ones3c rfl rfl rfl) h3 (leB rfl) (λw11 hs11 e11 z11=>O.o ⟨(Ext.nr t1 e11),D.dn ?_⟩))⟩))⟩))⟩;exact ⟨(Ext.nr (Ext.T (Ext.T (Ext.T e3 e4) e5) e10) e11),rfl,rfl,⟨_,_,_,rfl,hs11,((((h9s.L e5).L e10).kM e11 (λk hk h=>by have:=h9.bk_ge k hk;(try dsimp only at h);omega)).weak (by intro k hk;have q1:=h9.bk_ge k hk;(try dsimp only);omega)),(((h13s.L e10).kM e11 (λk hk h=>by have:=h13.bk_ge k hk;(try dsimp only at h);omega)).weak (by intro k hk;have q1:=h13.bk_ge k hk;(try dsimp only);omega)),(by omega)⟩⟩
   refine D.stepU rfl rfl (O.alloc zeroValue47 (λb3 w12 hb3 hz3 e12=>?_));have z12:=e12.size;have h3:=hz3.own;have hl3:=h3.lt;have t2:=Ext.T e4 e12;refine O.o ⟨t2,D.on 7 rfl rfl (O.appF (G:=Dt.dotF) U41 ti112 tz112 ts112 rfl rfl rfl (OwnF.nil _ _ _ _) (((((hac.L e1).L e2).L e3).L e4).L e12) (by rw[tb112];simp;omega) (by unfold maxLen;simp;omega) (Nat.le_refl _) (λv13 w13 h13 e13=>?_))⟩;replace e13:Le w12 w13:=e13.mono (λ_ _ h=>h);have z13:=e13.size;have h13s:=h13.sl;have t3:=Ext.T t2 e13;refine O.o ⟨t3,?_⟩;obtain ⟨s13,rfl⟩:=h13s.slv;refine D.on 8 rfl rfl (O.build (cells:=#[slv s9,slv s13]) rfl (by kernel_rfl) (O.o ⟨t3,D.on 9 rfl rfl (O.build (cells:=#[slv s9,slv s13,.slice none 0 0]) rfl (by kernel_rfl) (O.o ⟨t3,D.on 11 rfl rfl (O.storeA (vs:=[slv s9,slv s13,.slice none 0 0]) Z47 rfl rfl rfl (ones3c rfl rfl rfl) (h3.L e13) (leB rfl) (λw14 hs14 e14 z14=>O.o ⟨(Ext.nr t3 e14),D.dn ?_⟩))⟩))⟩));exact ⟨(Ext.nr (Ext.T (Ext.T (Ext.T e3 e4) e12) e13) e14),rfl,rfl,⟨_,_,_,rfl,hs14,((((h9s.L e12).L e13).kM e14 (λk hk h=>by have:=h9.bk_ge k hk;(try dsimp only at h);omega)).weak (by intro k hk;have q1:=h9.bk_ge k hk;(try dsimp only);omega)),((h13s.kM e14 (λk hk h=>by have:=h13.bk_ge k hk;(try dsimp only at h);omega)).weak (by intro k hk;have q1:=h13.bk_ge k hk;(try dsimp only);omega)),(by omega)⟩⟩
  refine D.stepU rfl rfl (O.alloc zeroValue47 (λb3 w15 hb3 hz3 e15=>?_));have z15:=e15.size;have h3:=hz3.own;have hl3:=h3.lt;refine O.o ⟨e15,D.on 3 rfl rfl (O.appF (G:=Dt.dotF) U42 ti112 tz112 ts112 rfl rfl rfl (OwnF.nil _ _ _ _) ((((hav.L e1).L e2).L e3).L e15) (by rw[tb112];simp;omega) (by unfold maxLen;simp;omega) (Nat.le_refl _) (λv9 w16 h9 e16=>?_))⟩;replace e16:Le w15 w16:=e16.mono (λ_ _ h=>h);have z16:=e16.size;have h9s:=h9.sl;have t4:=Ext.T e15 e16;refine O.o ⟨t4,?_⟩;obtain ⟨s9,rfl⟩:=h9s.slv;refine D.on 7 rfl rfl (O.appF (G:=Dt.dotF) U41 ti112 tz112 ts112 rfl rfl rfl (OwnF.nil _ _ _ _) (((((hac.L e1).L e2).L e3).L e15).L e16) (by rw[tb112];simp;omega) (by unfold maxLen;simp;omega) (Nat.le_refl _) (λv13 w17 h13 e17=>?_));replace e17:Le w16 w17:=e17.mono (λ_ _ h=>h);have z17:=e17.size;have h13s:=h13.sl;have t5:=Ext.T t4 e17;refine O.o ⟨t5,?_⟩;obtain ⟨s13,rfl⟩:=h13s.slv;refine D.on 8 rfl rfl (O.build (cells:=#[slv s9,slv s13]) rfl (by kernel_rfl) (O.o ⟨t5,D.on 9 rfl rfl (O.build (cells:=#[slv s9,slv s13,.slice none 0 0]) rfl (by kernel_rfl) (O.o ⟨t5,D.on 11 rfl rfl (O.storeA (vs:=[slv s9,slv s13,.slice none 0 0]) Z47 rfl rfl rfl (ones3c rfl rfl rfl) ((h3.L e16).L e17) (leB rfl) (λw18 hs18 e18 z18=>O.o ⟨(Ext.nr t5 e18),D.dn ?_⟩))⟩))⟩));exact ⟨(Ext.nr (Ext.T (Ext.T (Ext.T e3 e15) e16) e17) e18),rfl,rfl,⟨_,_,_,rfl,hs18,(((h9s.L e17).kM e18 (λk hk h=>by have:=h9.bk_ge k hk;(try dsimp only at h);omega)).weak (by intro k hk;have q1:=h9.bk_ge k hk;(try dsimp only);omega)),((h13s.kM e18 (λk hk h=>by have:=h13.bk_ge k hk;(try dsimp only at h);omega)).weak (by intro k hk;have q1:=h13.bk_ge k hk;(try dsimp only);omega)),(by omega)⟩⟩
 rintro f_1 w19 ⟨e_1,s1_1,s2_1,⟨b3,v9,v13,s3_1,q0_1,q1_1,q2_1,q3_1⟩⟩;have z_1:=e_1.size;have hb3:=q3_1;have hl3:=q0_1.lt;have hog0:OG itemF 117 w19 (.slice none 0 0) b3 []:=OG.nil hl3;have hit0:Items w19 (λk=>b2<k∧k<w19.heap.size∧k≠b3∧k≠b3) [] (a.2.take 0):=Items.nil;refine K2 (C.sq λK3=>C.sr λK4=>O.j (K4 (C.bl λK5=>C.loop0 (σ:=Nat×Value×Nat×List (List UInt8×(Option Addr×Nat×Nat))) (λf0 w0 ⟨k,o,gl,raw⟩ f w=>f 4=.int .i64 (k)∧f 1=f0 1∧f 2=f0 2∧f 3=f0 3∧Ext (λk=>k=b3) w0 w∧Own w b3 47 [v9,v13,o]∧OG itemF 117 w o gl raw∧Items w (λk=>b2<k∧k<w.heap.size∧k≠gl∧k≠b3) raw (a.2.take k)∧k<=a.2.length∧(gl=b3∨w0.heap.size<=gl)∧gl<w.heap.size∧∀k,bk o k->k≠b3) (λ⟨k,o,gl,raw⟩=>a.2.length-k) (0,.slice none 0 0,b3,[]) ?_ ?_)))
 ·
  refine ⟨rfl,rfl,rfl,rfl,Ext.L _ _,q0_1,hog0,hit0,?_⟩;exact ⟨Nat.zero_le _,.inl rfl,by omega,λ_ h=>h.elim⟩
 rintro ⟨k,o,gl,raw⟩ f_2 w20 ⟨s4_2,s1_2,s2_2,s3_2,e_2,r0_2,r1_2,r2_2,⟨hk,hbg,hcg,hob⟩⟩;have z_2:=e_2.size;have hit:=r2_2;have hitl:=hit.1;refine C.sq λK6=>C.sr λK7=>O.mv (O.fa U47 rfl Z45 (Eq.trans s1_2 s1_1) ?_)
 have t6:=((h1.L e2).L e_1).kO e_2;refine O.loadO isAgg45 rfl t6 rfl ?_;have t7:=Ext.T (Ext.T e1 e2) e_1;have t8:=hai.L (Ext.nr t7 e_2);refine O.len U45 rfl t8 (O.lssI s4_2 rfl (K7 (C.condD rfl (λc20=>?_) (λc20=>?_))))
 ·
  have hk2:k<a.2.length:=by omega
  refine C.skip (K6 (C.sq λK8=>C.bl λK9=>C.sr λK10=>O.fa U47 rfl Z45 (Eq.trans s1_2 s1_1) (O.loadO isAgg45 rfl t6 rfl (O.mv (O.idx U45 Z117 rfl rfl t8 s4_2 (by omega) (λa26 h26=>O.loadE (E:=itemE) isAgg117 Z117 rfl rfl h26 (λcs27 hcs27=>?_)))))));obtain ⟨vm27,rfl,hm27⟩:=hcs27;obtain ⟨u,hu⟩:∃u:ItemT,u=a.2[k]:=⟨_,rfl⟩
  have hSu:=hS u (by rw[hu];exact List.getElem_mem _);refine O.cast (v':=.agg #[str u.1,vm27]) (by rw[hu];rfl) ?_;have hm27:Sl markF.enc w20 F vm27 u.2:=by rw[hu];exact hm27
  refine O.alloc zeroValue117 (λb5 w21 hb5 hz5 e21=>?_);have z21:=e21.size;have h5:=hz5.own;have hl5:=h5.lt;refine O.storeA (vs:=[str u.1,vm27]) Z117 rfl rfl rfl (ones2 hm27.oneC) h5 (leB rfl) (λw22 hs22 e22 z22=>K10 (C.sr λK11=>O.fa U117 rfl Z115 rfl (O.loadO isAgg115 rfl hs22 rfl (O.appF (G:=markF) U115 ti114 tz114 ts114 rfl rfl rfl (OwnF.nil _ _ _ _) ((hm27.L e21).keepA e22) (by rw[tb114];simp;omega) (by unfold maxLen;simp;omega) (Nat.le_refl _) (λv30 w23 h30 e23=>?_)))));replace e23:Le w22 w23:=e23.mono (λ_ _ h=>h);have z23:=e23.size;have h30s:=h30.sl;obtain ⟨s30,rfl⟩:=h30s.slv;refine O.fa U117 rfl Z115 rfl (O.store Z115 rfl rfl h30.one (hs22.L e23) (by simp) (λw24 hs24 e24 z24=>?_))
  try simp only[Nat.zero_add] at hs24
  refine K11 (C.region (O.fa U47 rfl Z45 (Eq.trans s3_2 s3_1) ?_));have t9:=(r0_2.L e21).kO e22;refine O.loadO isAgg45 rfl ((t9.L e23).kO e24) rfl (O.loadOA isAgg117 Z117 rfl hs24 (leB rfl) (O.litG (G:=itemF) [(u.1,s30)] U45 ti117 ts117 tz117 rfl (by decide) (by decide) rfl (λb35 w25 hb35 hz35 e25=>?_)));have z25:=e25.size;have h35:=hz35.own;have hq35:=Sl.litG (n:=1) h35 rfl (by unfold maxLen;omega);have t10:=(r1_2.L e21).keepA e22;have t11:=(t10.L e23).keepA e24;refine O.appG (G:=itemF) U45 ti117 tz117 ts117 rfl rfl rfl (t11.L e25) hq35 (by rw[tb117,hit.1];simp;omega) (by unfold maxLen;rw[hit.1];simp;omega) (λv36 gg36 w26 h36 hg36 e26 hw36=>?_);have e26m:=e26.mono (M':=λk=>k=_) (λk _ hk=>(t11.L e25).2.1 k hk);have z26:=e26.size;have hgl36:=h36.2.2;have hob36:∀k,bk v36 k->k≠b3:=by
   intro k hk;rcases hw36 k hk with q|q
   ·exact hob k q
   ·omega
  have hg36b:gg36≠b3:=hob36 _ (h36.bk (by simp));have hit36:Items w26 (λk=>b2<k∧k<w26.heap.size∧k≠gg36∧k≠b3) (raw++[(u.1,s30)]) (a.2.take (k+1)):=by
   rw[List.take_succ_eq_append_getElem hk2,<-hu];exact ((((((((r2_2.L e21).keepA e22).L e23).keepA e24).L e25).kM e26 (by intro k hk h;replace h:=(t11.L e25).2.1 _ h;first|(have q1:=hF k hk;(try dsimp only at h);omega)|(have q1:=hF2 k hk;(try dsimp only at h);omega)|(have q1:=hFb k hk;(try dsimp only at h);omega)|((try dsimp only at hk);(try dsimp only at h);omega)))).weakA).snoc rfl (((((h30s.kM e24 (λk hk h=>by have:=h30.bk_ge k hk;(try dsimp only at h);omega)).L e25).kM e26 (λk hk h=>by replace h:=(t11.L e25).2.1 _ h;have:=h30.bk_ge k hk;(try dsimp only at h);omega))).weak (by intro k hk;have q1:=h30.bk_ge k hk;(try dsimp only);omega))
  refine O.fa U47 rfl Z45 (Eq.trans s3_2 s3_1) (O.store Z45 rfl rfl h36.1.one ((((t9.L e23).kO e24).L e25).kM e26 (λh=>hob _ h rfl)) (by simp) (λw27 hs27 e27 z27=>?_))
  try simp only[Nat.zero_add] at hs27
  refine O.o (K9 (K8 (C.region (O.mv (O.ad s4_2 rfl (O.j (O.o (⟨(k+1,_,_,_),⟨rfl,s1_2,s2_2,s3_2,(Ext.nw (Ext.nw (Ext.nw (Ext.nw (Ext.nw (Ext.nw (Ext.nw (Ext.nw (Ext.L _ _) e_2) e21) e22) e23) e24) e25) e26m) e27),hs27,(h36.keepA e27),(((hit36.keepA e27)).weakA),?_⟩,by first|omega|(simp only[];omega)⟩))))))));exact ⟨by omega,by omega,by omega,hob36⟩
 refine C.exit (K5 (K3 (C.sr λK12=>O.loadOA isAgg47 Z47 (Eq.trans s3_2 s3_1) r0_2 (leB rfl) (O.storeA (vs:=[v9,v13,o]) Z47 rfl (Eq.trans s2_2 s2_1) rfl (ones3c ((q1_1.keepA e_2)).oneC ((q2_1.keepA e_2)).oneC (r1_2).1.one) ((h2.L e_1).kO e_2) (leB rfl) (λw28 hs28 e28 z28=>K12 (C.ret (Outs.cellA rfl isAgg47 Z47 (Eq.trans s2_2 s2_1) hs28 rfl ?_)))))));have hk9:k=a.2.length:=by omega
 have hit9:Items w28 (λk=>w.heap.size<=k∧k<w28.heap.size) raw a.2:=by
  have q:=(r2_2.keepA e28)
  rw[hk9,List.take_length] at q;exact q.weakA
 have hsl9:Sl itemF.enc w28 (λk=>w.heap.size<=k∧k<w28.heap.size) o raw:=((r1_2.keepA e28)).sl.weakA;exact ⟨v9,v13,o,rfl,(((q1_1.keepA e_2).keepA e28)).weakA,(((q2_1.keepA e_2).keepA e28)).weakA,hit9.sl hsl9,(Ext.nr (Ext.nr t7 e_2) e28)⟩
theorem rises_spec (v0:Value)(raw:List EntR)(l:List EntT)(F:Nat->Prop)(w:World)(hr:Sl entF.enc w F v0 raw)(he:EntL w F raw l):
 Ret prog 62 #[v0] w (λv w'=>v=.bool (Bt.rises l)∧Le w w'):=by
 have hl:=he.1;have hrl:=hr.le;refine enT [v0] 22 func62 rfl rfl (C.sr λK1=>O.j (K1 (C.sq λK2=>C.sr λK3=>O.j (K3 (C.bl λK4=>C.loop0 (σ:=Nat) (λf0 w0 k f w=>f 3=.int .i64 ((k:Int))∧f 0=f0 0∧Le w0 w∧(1<=k∧k<=l.length+1)∧(∀i,∀h:i+1<l.length,i+1<k->Op.bytesLess l[i].1 l[i+1].1=true)) (λk=>l.length+1-k) 1 ?_ ?_)))))
 ·
  refine ⟨rfl,rfl,Le.refl _,?_⟩;exact ⟨by omega,λi h k=>by omega⟩
 rintro k f_1 w1 ⟨s3_1,s0_1,e_1,⟨hk,hJ⟩⟩;have z_1:=e_1.size;refine C.sq λK5=>C.sr λK6=>O.mv (O.mv (O.len U22 s0_1 (hr.L e_1) (O.lssI s3_1 rfl (K6 (C.condD rfl (λc7=>?_) (λc7=>?_))))))
 ·
  have hk2:k<l.length:=by omega
  refine C.skip (K5 (C.sq λK7=>C.bl λK8=>C.sd λK9 w2 e2 z2=>D.mv 0 rfl leR (D.mv 1 rfl leR (D.t 2 rfl leR (λ_ _ _ hN=>O.sb s3_1 rfl (O.o hN)) ?_))));have sp2_:=Sl.at (i:=(k:Int)-1) (P:=prog) U22 Z50 rfl ((hr.L e_1).L e2) (by omega);obtain ⟨a13,h13,hr13⟩:=sp2_;refine D.t 3 rfl leR (λ_ _ _ hN=>O.idxR s0_1 rfl hr13 (O.o hN)) (D.t 4 rfl leR (λ_ _ _ hN=>O.ft U50 rfl Z9 rfl (O.o hN)) (D.t 5 rfl leR (λ_ hw_ _ hN=>O.loadAtF (G:=entF) isAgg9 rfl rfl (h13.L hw_) (O.o hN)) (D.mv 6 rfl leR (D.mv 7 rfl leR ?_))));have sp3_:=Sl.at (i:=(k:Int)) (P:=prog) U22 Z50 rfl ((hr.L e_1).L e2) (by omega);obtain ⟨a18,h18,hr18⟩:=sp3_;refine D.t 8 rfl leR (λ_ _ _ hN=>O.idxR s0_1 s3_1 hr18 (O.o hN)) (D.t 9 rfl leR (λ_ _ _ hN=>O.ft U50 rfl Z9 rfl (O.o hN)) (D.t 10 rfl leR (λ_ hw_ _ hN=>O.loadAtF (G:=entF) isAgg9 rfl rfl (h18.L hw_) (O.o hN)) (D.t 11 rfl leR (λ_ _ _ hN=>O.geqS rfl rfl (O.o hN)) (K9 (C.cond rfl (λc21=>?_) (λc21=>?_))))))
  ·
   have e9:((k:Int)-1).toNat=k-1:=by omega
   simp only[e9,Int.toNat_natCast] at c21;rw[(he.2 (k-1) (by omega) (by omega)).1,(he.2 k (by omega) (by omega)).1] at c21;refine C.sr λK10=>O.j (K10 (C.ret (Outs.one rfl rfl ?_)))
   exact ⟨cB (Bt.rises_no (i:=k) (j:=k-1) hk2 (by omega) (by omega) (by simpa using c21)).symm,(Ext.T e_1 e2)⟩
  have e9:((k:Int)-1).toNat=k-1:=by omega
  simp only[e9,Int.toNat_natCast] at c21;rw[(he.2 (k-1) (by omega) (by omega)).1,(he.2 k (by omega) (by omega)).1] at c21;refine C.skip (K8 (K7 (C.region (O.mv (O.ad s3_1 rfl (O.j (O.o (⟨k+1,⟨rfl,s0_1,(Ext.T e_1 e2),?_⟩,by first|omega|(simp only[];omega)⟩))))))));refine ⟨by omega,λi hi hik=>?_⟩;rcases Nat.lt_or_eq_of_le (Nat.le_of_lt_succ hik) with h|rfl
  ·exact hJ i hi h
  ·simpa using c21
 refine C.exit (K4 (K2 (C.sr λK11=>O.j (K11 (C.ret (Outs.one rfl rfl ?_))))))
 first
 |exact ⟨cB (Bt.rises_no (i:=k) (j:=k-1) hk2 (by omega) (by omega) (by simpa using c21)).symm,e_1⟩
 |exact ⟨cB (Bt.rises_yes (λi hi=>hJ i hi (by omega))).symm,e_1⟩
theorem lordered_spec (v0:Value)(raw:List EntR)(l:List EntT)(F:Nat->Prop)(w:World)(hr:Sl entF.enc w F v0 raw)(he:EntL w F raw l)(hF:∀k,F k->k<w.heap.size)(hB:Bt.Big l)(mx:Mx w):
 Ret prog 19 #[v0] w (λv w'=>v=.bool (Bt.ordered l)∧Le w w'):=by
 have hl:=he.1;have hrl:=hr.le;refine enT [v0] 28 func19 rfl rfl (C.sr λK1=>O.j (K1 (C.sq λK2=>C.sr λK3=>O.j (K3 (C.bl λK4=>C.loop0 (σ:=Nat) (λf0 w0 k f w=>f 3=.int .i64 ((k:Int))∧f 0=f0 0∧Le w0 w∧k<=l.length∧(∀i,∀h:i<l.length,i<k->Bt.okE l[i]=true)) (λk=>l.length-k) 0 ?_ ?_)))))
 ·
  refine ⟨rfl,rfl,Le.refl _,?_⟩;exact ⟨Nat.zero_le _,λi h k=>absurd k (Nat.not_lt_zero _)⟩
 rintro k f_1 w1 ⟨s3_1,s0_1,e_1,⟨hk,hI⟩⟩;have z_1:=e_1.size;refine C.sq λK5=>C.sr λK6=>O.mv (O.mv (O.len U22 s0_1 (hr.L e_1) (O.lssI s3_1 rfl (K6 (C.condD rfl (λc7=>?_) (λc7=>?_))))))
 ·
  have hk2:k<l.length:=by omega
  have hEr:=((he.L e_1)).at (k:=k) (by have q9:=((he.L e_1)).1;omega);obtain ⟨hk9r,r,x,hrr,hxr,hkxr,hca⟩:=hEr;have hmxr:x∈l:=by rw[hxr];exact List.getElem_mem _
  have hbr:=hB x hmxr;refine C.skip (K5 (C.sq λK7=>C.bl λK8=>C.sr λK9=>O.mv (O.mv (O.idx U22 Z50 rfl s0_1 (hr.L e_1) s3_1 (by omega) (λa12 h12=>O.ft U50 rfl Z9 rfl (O.loadAtF (G:=entF) isAgg9 rfl rfl h12 (O.cast (v':=str r.1) (by rw[hrr];rfl) (O.call call60 (args1 rfl) (okKey_spec r.1 _ (by rw[hkxr];exact hbr.1)) ?_))))))));rintro v_15 w2 ⟨rfl,e2⟩;have z2:=e2.size;refine O.not rfl (O.mv (O.split (x:=.tmp 17) rfl (λc17=>?_) (λc17=>?_)))
  ·
   refine O.no rfl (noB (isT' rfl c17) rfl) (O.no rfl (noB (isT' rfl c17) rfl) (O.no rfl (noB (isT' rfl c17) rfl) (O.no rfl (noB (isT' rfl c17) rfl) (O.no rfl (noB (isT' rfl c17) rfl) (O.no rfl (noB (isT' rfl c17) rfl) (O.no rfl (noB (isT' rfl c17) rfl) (O.pickT (isT' rfl c17) (K9 (C.condT rfl (C.sr λK10=>O.j (K10 (C.ret (Outs.one rfl rfl ?_)))))))))))));exact ⟨cB (Bt.ordered_no1 hk2 (by rw[<-hxr];exact Bt.okE_no1 (by rw[<-hkxr];simpa using c17))).symm,(Ext.T e_1 e2)⟩
  refine O.yes rfl (isF' rfl c17) (O.mv (O.yes rfl (isF' rfl c17) (O.mv (O.yes rfl (isF' rfl c17) (O.idx U22 Z50 rfl s0_1 ((hr.L e_1).L e2) s3_1 (by omega) (λa20 h20=>O.yes rfl (isF' rfl c17) (O.ft U50 rfl Z47 rfl (O.yes rfl (isF' rfl c17) (O.loadPart (G:=entF) isAgg47 Z47 (by decide) rfl h20 (O.cast (v':=.agg #[slv r.2.1.1,slv r.2.1.2,slv r.2.2]) (by rw[hrr];rfl) (O.yes rfl (isF' rfl c17) ?_)))))))))));refine O.call call61 (args1 rfl) (cartValid_spec (slv r.2.1.1) (slv r.2.1.2) (slv r.2.2) x.2 F _ ((hca.L e2)).1 ((hca.L e2)).2.1 ((hca.L e2)).2.2 (λj hj=>by have q1:=hF j hj;omega) hbr.2.2.2.1 hbr.2.2.2.2 ((mx.L e_1).L e2)) ?_;rintro v_23 w3 ⟨rfl,e3⟩;have z3:=e3.size;refine O.yes rfl (isF' rfl c17) (O.not rfl (O.pickF (isF' rfl c17) (K9 (C.cond rfl (λc25=>?_) (λc25=>?_)))))
  ·
   refine C.sr λK11=>O.j (K11 (C.ret (Outs.one rfl rfl ?_)))
   first
   |exact ⟨cB (Bt.ordered_no1 hk2 (by rw[<-hxr];exact Bt.okE_no1 (by rw[<-hkxr];simpa using c17))).symm,(Ext.T (Ext.T e_1 e2) e3)⟩
   |exact ⟨cB (Bt.ordered_no1 hk2 (by rw[<-hxr];exact Bt.okE_no2 (by simpa using c25))).symm,(Ext.T (Ext.T e_1 e2) e3)⟩
  refine C.skip (K8 (K7 (C.region (O.mv (O.ad s3_1 rfl (O.j (O.o (⟨k+1,⟨rfl,s0_1,(Ext.T (Ext.T e_1 e2) e3),?_⟩,by first|omega|(simp only[];omega)⟩))))))));refine ⟨by omega,λi hi hik=>?_⟩;rcases Nat.lt_or_eq_of_le (Nat.le_of_lt_succ hik) with h|rfl
  ·exact hI i hi h
  ·rw [<-hxr];exact Bt.okE_of (by rw[<-hkxr];simpa using c17) (by simpa using c25)
 have hall:∀i,∀h:i<l.length,Bt.okE l[i]=true:=λi hi=>hI i hi (by omega)
 refine C.exit (K4 (K2 (C.sr λK12=>O.mv (O.call call62 (args1 s0_1) (rises_spec v0 raw l F _ (hr.L e_1) (he.L e_1)) ?_))));rintro v_27 w4 ⟨rfl,e4⟩;have z4:=e4.size;refine O.j (K12 (C.ret (Outs.one rfl rfl ?_)))
 first
 |exact ⟨cB (Bt.ordered_no1 hk2 (by rw[<-hxr];exact Bt.okE_no1 (by rw[<-hkxr];simpa using c17))).symm,(Ext.T e_1 e4)⟩
 |exact ⟨cB (Bt.ordered_no1 hk2 (by rw[<-hxr];exact Bt.okE_no2 (by simpa using c25))).symm,(Ext.T e_1 e4)⟩
 |exact ⟨cB (Bt.ordered_of hall).symm,(Ext.T e_1 e4)⟩
theorem lordered21_spec (v0:Value)(raw:List EntR)(l:List EntT)(F:Nat->Prop)(w:World)(hr:Sl entF.enc w F v0 raw)(he:EntL w F raw l)(hF:∀k,F k->k<w.heap.size)(hB:Bt.Big l)(mx:Mx w):
 Ret prog 46 #[v0] w (λv w'=>v=.bool (Bt.ordered l)∧Le w w'):=by
 have hl:=he.1;have hrl:=hr.le;refine enT [v0] 28 func46 rfl rfl (C.sr λK1=>O.j (K1 (C.sq λK2=>C.sr λK3=>O.j (K3 (C.bl λK4=>C.loop0 (σ:=Nat) (λf0 w0 k f w=>f 3=.int .i64 ((k:Int))∧f 0=f0 0∧Le w0 w∧k<=l.length∧(∀i,∀h:i<l.length,i<k->Bt.okE l[i]=true)) (λk=>l.length-k) 0 ?_ ?_)))))
 ·
  refine ⟨rfl,rfl,Le.refl _,?_⟩;exact ⟨Nat.zero_le _,λi h k=>absurd k (Nat.not_lt_zero _)⟩
 rintro k f_1 w1 ⟨s3_1,s0_1,e_1,⟨hk,hI⟩⟩;have z_1:=e_1.size;refine C.sq λK5=>C.sr λK6=>O.mv (O.mv (O.len U22 s0_1 (hr.L e_1) (O.lssI s3_1 rfl (K6 (C.condD rfl (λc7=>?_) (λc7=>?_))))))
 ·
  have hk2:k<l.length:=by omega
  have hEr:=((he.L e_1)).at (k:=k) (by have q9:=((he.L e_1)).1;omega);obtain ⟨hk9r,r,x,hrr,hxr,hkxr,hca⟩:=hEr;have hmxr:x∈l:=by rw[hxr];exact List.getElem_mem _
  have hbr:=hB x hmxr;refine C.skip (K5 (C.sq λK7=>C.bl λK8=>C.sr λK9=>O.mv (O.mv (O.idx U22 Z50 rfl s0_1 (hr.L e_1) s3_1 (by omega) (λa12 h12=>O.ft U50 rfl Z9 rfl (O.loadAtF (G:=entF) isAgg9 rfl rfl h12 (O.cast (v':=str r.1) (by rw[hrr];rfl) (O.call call60 (args1 rfl) (okKey_spec r.1 _ (by rw[hkxr];exact hbr.1)) ?_))))))));rintro v_15 w2 ⟨rfl,e2⟩;have z2:=e2.size;refine O.not rfl (O.mv (O.split (x:=.tmp 17) rfl (λc17=>?_) (λc17=>?_)))
  ·
   refine O.no rfl (noB (isT' rfl c17) rfl) (O.no rfl (noB (isT' rfl c17) rfl) (O.no rfl (noB (isT' rfl c17) rfl) (O.no rfl (noB (isT' rfl c17) rfl) (O.no rfl (noB (isT' rfl c17) rfl) (O.no rfl (noB (isT' rfl c17) rfl) (O.no rfl (noB (isT' rfl c17) rfl) (O.pickT (isT' rfl c17) (K9 (C.condT rfl (C.sr λK10=>O.j (K10 (C.ret (Outs.one rfl rfl ?_)))))))))))));exact ⟨cB (Bt.ordered_no1 hk2 (by rw[<-hxr];exact Bt.okE_no1 (by rw[<-hkxr];simpa using c17))).symm,(Ext.T e_1 e2)⟩
  refine O.yes rfl (isF' rfl c17) (O.mv (O.yes rfl (isF' rfl c17) (O.mv (O.yes rfl (isF' rfl c17) (O.idx U22 Z50 rfl s0_1 ((hr.L e_1).L e2) s3_1 (by omega) (λa20 h20=>O.yes rfl (isF' rfl c17) (O.ft U50 rfl Z47 rfl (O.yes rfl (isF' rfl c17) (O.loadPart (G:=entF) isAgg47 Z47 (by decide) rfl h20 (O.cast (v':=.agg #[slv r.2.1.1,slv r.2.1.2,slv r.2.2]) (by rw[hrr];rfl) (O.yes rfl (isF' rfl c17) ?_)))))))))));refine O.call call61 (args1 rfl) (cartValid_spec (slv r.2.1.1) (slv r.2.1.2) (slv r.2.2) x.2 F _ ((hca.L e2)).1 ((hca.L e2)).2.1 ((hca.L e2)).2.2 (λj hj=>by have q1:=hF j hj;omega) hbr.2.2.2.1 hbr.2.2.2.2 ((mx.L e_1).L e2)) ?_;rintro v_23 w3 ⟨rfl,e3⟩;have z3:=e3.size;refine O.yes rfl (isF' rfl c17) (O.not rfl (O.pickF (isF' rfl c17) (K9 (C.cond rfl (λc25=>?_) (λc25=>?_)))))
  ·
   refine C.sr λK11=>O.j (K11 (C.ret (Outs.one rfl rfl ?_)))
   first
   |exact ⟨cB (Bt.ordered_no1 hk2 (by rw[<-hxr];exact Bt.okE_no1 (by rw[<-hkxr];simpa using c17))).symm,(Ext.T (Ext.T e_1 e2) e3)⟩
   |exact ⟨cB (Bt.ordered_no1 hk2 (by rw[<-hxr];exact Bt.okE_no2 (by simpa using c25))).symm,(Ext.T (Ext.T e_1 e2) e3)⟩
  refine C.skip (K8 (K7 (C.region (O.mv (O.ad s3_1 rfl (O.j (O.o (⟨k+1,⟨rfl,s0_1,(Ext.T (Ext.T e_1 e2) e3),?_⟩,by first|omega|(simp only[];omega)⟩))))))));refine ⟨by omega,λi hi hik=>?_⟩;rcases Nat.lt_or_eq_of_le (Nat.le_of_lt_succ hik) with h|rfl
  ·exact hI i hi h
  ·rw [<-hxr];exact Bt.okE_of (by rw[<-hkxr];simpa using c17) (by simpa using c25)
 have hall:∀i,∀h:i<l.length,Bt.okE l[i]=true:=λi hi=>hI i hi (by omega)
 refine C.exit (K4 (K2 (C.sr λK12=>O.mv (O.call call62 (args1 s0_1) (rises_spec v0 raw l F _ (hr.L e_1) (he.L e_1)) ?_))));rintro v_27 w4 ⟨rfl,e4⟩;have z4:=e4.size;refine O.j (K12 (C.ret (Outs.one rfl rfl ?_)))
 first
 |exact ⟨cB (Bt.ordered_no1 hk2 (by rw[<-hxr];exact Bt.okE_no1 (by rw[<-hkxr];simpa using c17))).symm,(Ext.T e_1 e4)⟩
 |exact ⟨cB (Bt.ordered_no1 hk2 (by rw[<-hxr];exact Bt.okE_no2 (by simpa using c25))).symm,(Ext.T e_1 e4)⟩
 |exact ⟨cB (Bt.ordered_of hall).symm,(Ext.T e_1 e4)⟩
theorem smallL_spec (v0:Value)(raw:List EntR)(l:List EntT)(F:Nat->Prop)(most:Int)(w:World)(hr:Sl entF.enc w F v0 raw)(he:EntL w F raw l):
 Ret prog 15 #[v0,.int .i64 (most)] w (λv w'=>v=.bool (Bt.small l most)∧Le w w'):=by
 have hl:=he.1;have hrl:=hr.le;refine enT [v0,.int .i64 (most)] 37 func15 rfl rfl (C.sr λK1=>O.j (K1 (C.sq λK2=>C.sr λK3=>O.j (K3 (C.bl λK4=>C.loop0 (σ:=Nat) (λf0 w0 k f w=>f 5=.int .i64 ((k:Int))∧f 0=f0 0∧f 1=f0 1∧Le w0 w∧k<=l.length∧(∀i,∀h:i<l.length,i<k->Bt.smallE l[i]=true)) (λk=>l.length-k) 0 ?_ ?_)))))
 ·
  refine ⟨rfl,rfl,rfl,Le.refl _,?_⟩;exact ⟨Nat.zero_le _,λi h k=>absurd k (Nat.not_lt_zero _)⟩
 rintro k f_1 w1 ⟨s5_1,s0_1,s1_1,e_1,⟨hk,hI⟩⟩;have z_1:=e_1.size;refine C.sq λK5=>C.sr λK6=>O.mv (O.mv (O.len U22 s0_1 (hr.L e_1) (O.lssI s5_1 rfl (O.mv (O.cut 4 (λf f'=>f' 14=.bool (decide ((k:Int)<(raw.length:Int)∧(k:Int)<most))∧f' 0=f 0∧f' 1=f 1∧f' 5=f 5) ?_ ?_)))))
 ·
  refine O.splitD (x:=.tmp 10) rfl (λc10=>?_) (λc10=>?_)
  ·
   refine O.yes rfl (isT rfl c10) (O.mv (O.yes rfl (isT rfl c10) (O.mv (O.yes rfl (isT rfl c10) (O.lssI s5_1 s1_1 (O.pickT (isT rfl c10) (O.o (⟨⟨?_,rfl,rfl,rfl⟩,rfl⟩))))))));exact dJ rfl
  refine O.no rfl (noB (isF rfl c10) rfl) (O.no rfl (noB (isF rfl c10) rfl) (O.no rfl (noB (isF rfl c10) rfl) (O.pickF (isF rfl c10) (O.o (⟨⟨?_,rfl,rfl,rfl⟩,rfl⟩)))));exact dJ rfl
 rintro f_2 ⟨s14_2,s0_2,s1_2,s5_2⟩;refine K6 (C.condD s14_2 (λc14=>?_) (λc14=>?_))
 ·
  have hk2:k<l.length:=by omega
  have hEr:=((he.L e_1)).at (k:=k) (by have q9:=((he.L e_1)).1;omega);obtain ⟨hk9r,r,x,hrr,hxr,hkxr,hca⟩:=hEr;refine C.skip (K5 (C.sq λK7=>C.bl λK8=>C.sr λK9=>O.mv (O.mv (O.idx U22 Z50 rfl (Eq.trans s0_2 s0_1) (hr.L e_1) (Eq.trans s5_2 s5_1) (by omega) (λa19 h19=>O.ft U50 rfl Z9 rfl (O.loadAtF (G:=entF) isAgg9 rfl rfl h19 (O.cast (v':=str r.1) (by rw[hrr];rfl) (O.lenS U9 rfl (O.gtrI rfl rfl (O.mv (O.splitD (x:=.tmp 24) rfl (λc24=>?_) (λc24=>?_))))))))))))
  ·
   refine O.no rfl (noB (isT rfl c24) rfl) (O.no rfl (noB (isT rfl c24) rfl) (O.no rfl (noB (isT rfl c24) rfl) (O.no rfl (noB (isT rfl c24) rfl) (O.no rfl (noB (isT rfl c24) rfl) (O.no rfl (noB (isT rfl c24) rfl) (O.no rfl (noB (isT rfl c24) rfl) (O.pickT (isT rfl c24) (K9 (C.condT rfl (C.sr λK10=>O.j (K10 (C.ret (Outs.one rfl rfl ?_)))))))))))));exact ⟨cB (Bt.small_no hk2 (by rw[<-hxr];exact Bt.smallE_no1 (by rw[<-hkxr];omega))).symm,e_1⟩
  refine O.yes rfl (isF rfl c24) (O.mv (O.yes rfl (isF rfl c24) (O.mv (O.yes rfl (isF rfl c24) (O.idx U22 Z50 rfl (Eq.trans s0_2 s0_1) (hr.L e_1) (Eq.trans s5_2 s5_1) (by omega) (λa27 h27=>O.yes rfl (isF rfl c24) (O.ft U50 rfl Z47 rfl (O.yes rfl (isF rfl c24) (O.loadPart (G:=entF) isAgg47 Z47 (by decide) rfl h27 (O.cast (v':=.agg #[slv r.2.1.1,slv r.2.1.2,slv r.2.2]) (by rw[hrr];rfl) (O.yes rfl (isF rfl c24) (O.call call38 (args1 rfl) (small_spec (slv r.2.1.1) (slv r.2.1.2) (slv r.2.2) x.2 F _ (hca).1 (hca).2.1 (hca).2.2) ?_))))))))))));rintro v_30 w2 ⟨rfl,e2⟩;have z2:=e2.size;refine O.yes rfl (isF rfl c24) (O.not rfl (O.pickF (isF rfl c24) (K9 (C.cond rfl (λc32=>?_) (λc32=>?_)))))
  ·
   refine C.sr λK11=>O.j (K11 (C.ret (Outs.one rfl rfl ?_)))
   first
   |exact ⟨cB (Bt.small_no hk2 (by rw[<-hxr];exact Bt.smallE_no1 (by rw[<-hkxr];omega))).symm,(Ext.T e_1 e2)⟩
   |exact ⟨cB (Bt.small_no hk2 (by rw[<-hxr];exact Bt.smallE_no2 (by simpa using c32))).symm,(Ext.T e_1 e2)⟩
  refine C.skip (K8 (K7 (C.region (O.mv (O.ad (Eq.trans s5_2 s5_1) rfl (O.j (O.o (⟨k+1,⟨rfl,(Eq.trans s0_2 s0_1),(Eq.trans s1_2 s1_1),(Ext.T e_1 e2),?_⟩,by first|omega|(simp only[];omega)⟩))))))));refine ⟨by omega,λi hi hik=>?_⟩;rcases Nat.lt_or_eq_of_le (Nat.le_of_lt_succ hik) with h|rfl
  ·exact hI i hi h
  ·rw [<-hxr];exact Bt.smallE_of (by rw[<-hkxr];omega) (by simpa using c32)
 refine C.exit (K4 (K2 (C.sr λK12=>O.mv (O.len U22 (Eq.trans s0_2 s0_1) (hr.L e_1) (O.mv (O.leqI rfl (Eq.trans s1_2 s1_1) (O.j (K12 (C.ret (Outs.one rfl rfl ?_))))))))))
 first
 |exact ⟨cB (Bt.small_no hk2 (by rw[<-hxr];exact Bt.smallE_no1 (by rw[<-hkxr];omega))).symm,e_1⟩
 |exact ⟨cB (Bt.small_no hk2 (by rw[<-hxr];exact Bt.smallE_no2 (by simpa using c32))).symm,e_1⟩
 |exact ⟨cB (Bt.small_end (by omega) (λh i hi=>hI i hi (by omega)) trivial),e_1⟩
theorem copyL_spec (v0:Value)(raw:List EntR)(l:List EntT)(F:Nat->Prop)(w:World)(hr:Sl entF.enc w F v0 raw)(he:EntL w F raw l)(hF:∀k,F k->k<w.heap.size)(hB:Bt.Big l)(hn:l.length<=1000000)(mx:Mx w):
 Ret prog 17 #[v0] w (λv w'=>SlS 50 w' (λj=>w.heap.size<=j∧j<w'.heap.size) (λj=>w.heap.size<=j∧j<w'.heap.size∧¬bk v j) v l∧Le w w'):=by
 obtain ⟨ie50,ti50,ts50,tb50,tz50⟩:=inf50;have hl:=he.1;have hrl:=hr.le;have hgl9:=mx.lt;refine enT [v0] 27 func17 rfl rfl (C.sr λK1=>O.j (K1 (C.sr λK2=>O.j (K2 (C.sq λK3=>C.sr λK4=>O.j (K4 (C.bl λK5=>C.loop0 (σ:=Nat×Value×Nat×List EntR×Nat) (λf0 w0 ⟨k,o,gl,rr,hi⟩ f wz=>f 3=o∧f 4=.int .i64 ((k:Int))∧f 0=f0 0∧f 2=f0 2∧Le w wz∧OG entF 50 wz o gl (rr)∧EntL wz (λj=>w.heap.size<=j∧j<hi∧j≠gl) rr (l.take k)∧k<=l.length∧(∀j,bk o j->w.heap.size<=j)∧hi<=wz.heap.size) (λ⟨k,o,gl,rr,hi⟩=>l.length-k) (0,.slice none 0 0,0,[],0) ?_ ?_)))))))
 ·
  refine ⟨rfl,rfl,rfl,rfl,leR,(OG.nil (by omega)),EntL.nil,?_⟩;exact ⟨Nat.zero_le _,λ_ h=>h.elim,Nat.zero_le _⟩
 rintro ⟨k,o,gl,rr,hi⟩ f_1 w1 ⟨s3_1,s4_1,s0_1,s2_1,e_1,r0_1,r1_1,⟨hk,hob,hhi⟩⟩;have z_1:=e_1.size;have hogl:=(r0_1).2.2;have hogu:=(r0_1).2.1;have hrx:=(r1_1).1;rw[List.length_take] at hrx;refine C.sq λK6=>C.sr λK7=>O.mv (O.mv (O.len U22 s0_1 (hr.L e_1) (O.lssI s4_1 rfl (K7 (C.condD rfl (λc8=>?_) (λc8=>?_))))))
 ·
  have hk2:k<l.length:=by omega
  have hEr:=((he.L e_1)).at (k:=k) (by have q9:=((he.L e_1)).1;omega);obtain ⟨hk9r,r,x,hrr,hxr,hkxr,hca⟩:=hEr;have hmxr:x∈l:=by rw[hxr];exact List.getElem_mem _
  have hbr:=hB x hmxr;have sp4_:∃n,n=w1.heap.size:=⟨_,rfl⟩
  obtain ⟨w0_,hw0_⟩:=sp4_;refine C.skip (K6 (C.sq λK8=>C.bl λK9=>C.drawB (wB:=w) (by kernel_rfl) λw2 e2=>?_));have z2:=e2.size;have t0:=Ext.T e_1 e2;refine D.mv 0 rfl t0 (D.mv 1 rfl t0 (D.mv 2 rfl t0 ?_));have sp5_:=Sl.at (i:=(k:Int)) (P:=prog) U22 Z50 rfl hr (by omega);obtain ⟨a14,h14,hr14⟩:=sp5_;refine D.t 3 rfl t0 (λ_ _ _ hN=>O.idxR s0_1 s4_1 hr14 (O.o hN)) (D.t 4 rfl t0 (λ_ _ _ hN=>O.ft U50 rfl Z9 rfl (O.o hN)) (D.t 5 rfl t0 (λ_ hw_ _ hN=>O.loadAtF (G:=entF) isAgg9 rfl rfl (h14.L hw_) (O.o hN)) (D.cast (v':=str r.1) (by rw[hrr];rfl) (D.mv 6 rfl t0 (D.mv 7 rfl t0 ?_)))));have sp6_:=Sl.at (i:=(k:Int)) (P:=prog) U22 Z50 rfl hr (by omega);obtain ⟨a19,h19,hr19⟩:=sp6_;refine D.t 8 rfl t0 (λ_ _ _ hN=>O.idxR s0_1 s4_1 hr19 (O.o hN)) (D.t 9 rfl t0 (λ_ _ _ hN=>O.ft U50 rfl Z47 rfl (O.o hN)) (D.t 10 rfl t0 (λ_ hw_ _ hN=>O.loadPart (G:=entF) isAgg47 Z47 (by decide) rfl (h19.L hw_) (O.o hN)) (D.cast (v':=.agg #[slv r.2.1.1,slv r.2.1.2,slv r.2.2]) (by rw[hrr];rfl) (D.on 11 rfl rfl (O.call call53 (args1 rfl) (copy_spec (slv r.2.1.1) (slv r.2.1.2) (slv r.2.2) x.2 F _ ((hca.L e2)).1 ((hca.L e2)).2.1 ((hca.L e2)).2.2 (λj hj=>by have q1:=hF j hj;omega) hbr.2.2.2.1 hbr.2.2.2.2 hbr.2.1 hbr.2.2.1) ?_)))));rintro v_22 w3 ⟨vav22,vbv22,vcv22,rfl,hxv22,hyv22,hzv22,e3⟩;have z3:=e3.size;refine O.o ⟨(Ext.T t0 e3),?_⟩;have sp7_:=hxv22.slv;obtain ⟨p1,sp7_⟩:=sp7_;subst sp7_;have sp8_:=hyv22.slv;obtain ⟨p2,sp8_⟩:=sp8_;subst sp8_;have sp9_:=hzv22.slv;obtain ⟨p3,sp9_⟩:=sp9_;subst sp9_;have sp10_:∃n,n=w3.heap.size:=⟨_,rfl⟩
  obtain ⟨wa,hwa⟩:=sp10_;have hca22:CartAt w3 (λj=>w0_<=j∧j<wa) ((p1,p2),p3) x.2:=⟨hxv22.weakA,hyv22.weakA,hzv22.weakA⟩
  refine D.on 12 rfl rfl (O.build (cells:=#[str r.1,slv p1,slv p2,slv p3]) rfl (by kernel_rfl) (O.o ⟨(Ext.T t0 e3),D.on 13 rfl rfl (O.litG (G:=entF) [(r.1,(p1,p2),p3)] U22 ti50 ts50 tz50 rfl (by decide) (by decide) rfl (λb24 w4 hb24 hz24 e4=>?_))⟩));have z4:=e4.size;have h24:=hz24.own;have hq24:=Sl.litG (n:=1) h24 rfl (by unfold maxLen;omega);have t1:=Ext.T (Ext.T t0 e3) e4;refine O.o ⟨t1,D.on 14 rfl rfl ?_⟩;have t2:=((r0_1.L e2).L e3).L e4;refine O.appG (G:=entF) U22 ti50 tz50 ts50 rfl s3_1 rfl t2 hq24 (by rw[tb50];simp;omega) (by unfold maxLen;simp;omega) (λv25 gg25 w5 h25 hg25 e5 hw25=>?_);have e5m:=e5.mono (M':=λk=>k=_) (λk _ hk=>t2.2.1 k hk);have z5:=e5.size;have hgl25:=h25.2.2;have t3:=Ext.new t1 e5 (by intro i hi h;have:=hob i h;omega);refine O.o ⟨t3,?_⟩;have hob25:∀k,bk v25 k->w.heap.size<=k:=λk hk=>by
   rcases hw25 k hk with q|q
   ·exact hob k q
   ·omega
  have hg25:w.heap.size<=gg25:=hob25 _ (h25.bk (by simp));have hgg25:=(hw25 _ (h25.bk (by simp))).imp (hogu _) id;refine D.as 15 rfl t3 (D.dn (K9 (K8 (C.region (O.mv (O.ad s4_1 rfl (O.j (O.o ?_))))))));refine ⟨(k+1,v25,gg25,rr++[(r.1,(p1,p2),p3)],wa),⟨rfl,rfl,s0_1,s2_1,t3,h25,(show EntL _ (λj=>w.heap.size<=j∧j<wa∧j≠gg25) (rr++[(r.1,(p1,p2),p3)]) (l.take (k+1)) by
 rw[List.take_succ_eq_append_getElem hk2,<-hxr];exact ((((((r1_1.L e2).L e3).L e4).kM e5 (by intro j hj h;exact hj.2.2 (hogu j h)))).weakA).snoc hkxr ((((hca22.L e4).kM e5 (by intro j hj h;have q3:=hogu j h;(try dsimp only at hj);omega))).weakA)),?_⟩,by first|omega|(simp only[];omega)⟩
  exact ⟨by omega,hob25,by omega⟩
 have hk3:k=l.length:=by omega
 refine C.exit (K5 (K3 (C.sr λK10=>O.mv (O.j (K10 (C.ret (Outs.one rfl s3_1 ?_)))))));have hbk9:=(r0_1).1.bk_ge;refine ⟨⟨rr,(r0_1).1.fre (λj hj=>⟨hob j hj,(hbk9 j hj).2⟩),?_⟩,e_1⟩;have q9:=(r1_1).weak (F':=λj=>w.heap.size<=j∧j<w1.heap.size∧¬bk o j) (λj hj=>⟨hj.1,by omega,λq=>hj.2.2 (hogu j q)⟩);rw[hk3,List.take_length] at q9;exact q9
theorem inf41:∃ie,prog.info? 41=some ie∧ie.size=1∧ie.bytes=24∧ie.zero=some (.slice none 0 0):=by
 have h:(prog.info? 41).isSome=true:=by kernel_rfl
 exact ⟨(prog.info? 41).get h,(Option.some_get h).symm,by kernel_rfl,by kernel_rfl,by kernel_rfl⟩
theorem stain2_spec (p1 p2 p3:Raw)(ps:List Raw)(F:Nat->Prop)(w:World)(hst:Stn 112 117 114 w F p1 p2 p3 ps 1000000)(hF:∀j,F j->j<w.heap.size)(hp3:p3.2.1<=1000000):
 Ret prog 56 #[.agg #[slv p1,slv p2,slv p3]] w (λv w'=>v=.tuple #[]∧Ext (λj=>F j∨w.heap.size<=j) w w'):=by
 obtain ⟨ie41,ti41,ts41,tb41,tz41⟩:=inf41;have sp1_:∃K,K=1000000:=⟨_,rfl⟩
 obtain ⟨K,hKe⟩:=sp1_;rw[<-hKe] at hst;have hmx:maxLen=9223372036854775807:=rfl;refine enT [.agg #[slv p1,slv p2,slv p3]] 77 func56 rfl rfl (C.sr λK1=>O.box (v:=.agg #[slv p1,slv p2,slv p3]) rfl (λb1 w1 hb1 hz1 e1=>?_));have z1:=e1.size;have h1:=hz1.own;have hl1:=h1.lt;refine K1 (C.sq λK2=>C.sr λK3=>O.fa U47 rfl Z44 rfl (O.fa U44 rfl Z42 rfl (O.loadO isAgg42 rfl h1 rfl (O.fa U47 rfl Z44 rfl (O.fa U44 rfl Z41 rfl (O.loadO isAgg41 rfl h1 rfl (O.litn [slv p1,slv p2] underlying142 ti41 ts41 tz41 rfl (by decide) (by decide) rfl (by intro u hu;simp only[List.mem_cons,List.not_mem_nil,or_false] at hu;rcases hu with rfl|rfl<;>rfl) (λb13 w2 hb13 hz13 e2=>?_))))))));have z2:=e2.size;have h13:=hz13.own;have hl13:=h13.lt;refine O.lenL underlying142 rfl (O.mv (K3 (C.bl λK4=>C.loop0 (σ:=Nat) (λf0 w0 i f wz=>f 15=.int .i64 ((i:Int))∧f 1=f0 1∧f 13=f0 13∧f 14=f0 14∧Ext (λj=>F j∨w.heap.size<=j) w wz∧Own wz b1 47 [slv p1,slv p2,slv p3]∧Stn 112 117 114 wz F p1 p2 p3 ps (K)∧Own wz b13 41 [slv p1,slv p2]∧i<=2) (λi=>2-i) 0 ?_ ?_)))
 ·
  refine ⟨rfl,rfl,rfl,rfl,(Ext.new (Ext.new (Ext.L _ _) e1 (by intro i hi hk;first|exact hk.elim|exact .inl hk|exact hk|(exfalso;omega)|((try dsimp only at hk);(try dsimp only);omega))) e2 (by intro i hi hk;first|exact hk.elim|exact .inl hk|exact hk|(exfalso;omega)|((try dsimp only at hk);(try dsimp only);omega))),(h1.L e2),((hst.L e1).L e2),h13,?_⟩;exact Nat.zero_le _
 rintro i f_1 w3 ⟨s15_1,s1_1,s13_1,s14_1,e_1,r0_1,r1_1,r2_1,hi⟩;have z_1:=e_1.size;refine C.sr λK5=>O.lssI s15_1 s14_1 (K5 (C.sq λK6=>C.condD rfl (λc16=>?_) (λc16=>?_)))
 ·
  have sp2_:∃q,[slv p1,slv p2][i]? =some (slv q)∧(q=p1∨q=p2):=by
   match i,(show i<2 by omega) with
   |0,_=>exact ⟨p1,rfl,.inl rfl⟩
   |1,_=>exact ⟨p2,rfl,.inr rfl⟩
  obtain ⟨q,hqv,hq⟩:=sp2_;refine C.skip (K6 (C.sq λK7=>C.bl λK8=>C.sr λK9=>O.idxO underlying142 Z41 s13_1 s15_1 (by omega) (O.loadO isAgg41 rfl r2_1 (show [slv p1,slv p2][0+Int.toNat (i:Int)*1]? =some (slv q) by simpa using hqv) (O.j (K9 (C.sr λK10=>O.j (K10 (C.bl λK11=>C.loop0 (σ:=Nat) (λf0 w0 j f wz=>f 4=.int .i64 ((j:Int))∧f 1=f0 1∧f 3=f0 3∧f 13=f0 13∧f 14=f0 14∧f 15=f0 15∧Ext (λj=>F j∨w.heap.size<=j) w wz∧Own wz b1 47 [slv p1,slv p2,slv p3]∧Stn 112 117 114 wz F p1 p2 p3 ps (K)∧Own wz b13 41 [slv p1,slv p2]∧j<=maxLen) (λj=>q.2.1-j) 0 ?_ ?_))))))))
  ·
   refine ⟨rfl,rfl,rfl,rfl,rfl,rfl,(Ext.new (Ext.L _ _) e_1 (by intro i hi hk;first|exact hk.elim|exact .inl hk|exact hk|(exfalso;omega)|((try dsimp only at hk);(try dsimp only);omega))),r0_1,r1_1,r2_1,?_⟩;exact Nat.zero_le _
  rintro j f_2 w4 ⟨s4_2,s1_2,s3_2,s13_2,s14_2,s15_2,e_2,r0_2,r1_2,r2_2,hj⟩;have z_2:=e_2.size;refine C.sq λK12=>C.sr λK13=>O.mv (O.mv (O.lenL U41 s3_2 (O.lssI s4_2 rfl (K13 (C.condD rfl (λc22=>?_) (λc22=>?_))))))
  ·
   have sp3_:=(r1_2).dots hq;obtain ⟨xs,hx⟩:=sp3_;have hxl:=hx.len;have hxm:=hx.1.2;have hxw:=hx.1;refine C.skip (K12 (C.sq λK14=>C.bl λK15=>C.region (O.mv (O.mv ?_))));have sp4_:=OwnF.ptr hxw (by omega);obtain ⟨g27,cap27,hv27⟩:=sp4_;have ho27:=hxw;rw[hv27] at ho27;refine O.idxO U41 Z112 (Eq.trans s3_2 hv27) s4_2 (by omega) (O.fa U112 rfl Z3 rfl (O.loadC (G:=Dt.dotF) (i:=j) (off:=1) (by simp[Dt.dotF]) isAgg3 rfl ho27 (by omega) rfl (O.addW rfl rfl ?_)));have sp5_:=OwnF.ptr hxw (by omega);obtain ⟨g31,cap31,hv31⟩:=sp5_;have ho31:=hxw;rw[hv31] at ho31;refine O.idxO U41 Z112 (Eq.trans s3_2 hv31) s4_2 (by omega) (O.fa U112 rfl Z3 rfl (O.storeS (G:=Dt.dotF) (i:=j) (off:=1) (by simp[Dt.dotF]) Z3 rfl rfl rfl ho31 (by omega) (by decide) (λw5 cr5 hg5 hw5 e5 z5=>?_)));have hFg31:F g31:=(hx.2 g31 (by rw[hv31];rfl))
   have hC31:=hF g31 hFg31;replace e5:Ext F w4 w5:=e5.mono (λk _ hk=>by have h0:k=g31:=hk;subst h0;exact hFg31);have hste5:Stn 112 117 114 w5 F p1 p2 p3 ps (K):=by rw[hw5];exact (r1_2).setD (by decide) (by decide) hg5
   refine O.o (K15 (K14 (C.region (O.mv (O.ad s4_2 rfl (O.j (O.o (⟨(j+1),⟨rfl,s1_2,s3_2,s13_2,s14_2,s15_2,(Ext.new (Ext.new (Ext.L _ _) e_2 (by intro i hi hk;first|exact hk.elim|exact .inl hk|exact hk|(exfalso;omega)|((try dsimp only at hk);(try dsimp only);omega))) e5 (by intro i hi hk;first|exact hk.elim|exact .inl hk|exact hk|(exfalso;omega)|((try dsimp only at hk);(try dsimp only);omega))),(r0_2.kM e5 (by intro h;have q9:=hF _ h;omega)),hste5,(r2_2.kM e5 (by intro h;have q9:=hF _ h;omega)),?_⟩,by first|omega|(simp only[];omega)⟩))))))))
   omega
  refine C.exit (K11 (K8 (K7 (C.region (O.ad (Eq.trans s15_2 s15_1) rfl (O.mv (O.o (⟨(i+1),⟨rfl,(Eq.trans s1_2 s1_1),(Eq.trans s13_2 s13_1),(Eq.trans s14_2 s14_1),(Ext.new (Ext.L _ _) e_2 (by intro i hi hk;first|exact hk.elim|exact .inl hk|exact hk|(exfalso;omega)|((try dsimp only at hk);(try dsimp only);omega))),r0_2,r1_2,r2_2,?_⟩,by first|omega|(simp only[];omega)⟩))))))))
  omega
 refine C.exit (K4 (K2 (C.sr λK16=>O.j (K16 (C.bl λK17=>C.loop0 (σ:=Nat) (λf0 w0 i f wz=>f 5=.int .i64 ((i:Int))∧f 1=f0 1∧Ext (λj=>F j∨w.heap.size<=j) w wz∧Own wz b1 47 [slv p1,slv p2,slv p3]∧Stn 112 117 114 wz F p1 p2 p3 ps (K+i)∧i<=p3.2.1) (λi=>p3.2.1-i) 0 ?_ ?_)))))
 ·
  refine ⟨rfl,rfl,(Ext.new (Ext.L _ _) e_1 (by intro i hi hk;first|exact hk.elim|exact .inl hk|exact hk|(exfalso;omega)|((try dsimp only at hk);(try dsimp only);omega))),r0_1,r1_1,?_⟩;exact Nat.zero_le _
 rintro i f_3 w6 ⟨s5_3,s1_3,e_3,r0_3,r1_3,hi⟩;have z_3:=e_3.size;refine C.sq λK18=>C.sr λK19=>O.mv (O.fa U47 rfl Z45 (Eq.trans s1_3 s1_1) (O.loadO isAgg45 rfl r0_3 rfl (O.lenL U45 rfl (O.lssI s5_3 rfl (K19 (C.condD rfl (λc38=>?_) (λc38=>?_)))))))
 ·
  refine C.skip (K18 (C.sq λK20=>C.bl λK21=>C.sq λK22=>C.sr λK23=>O.j (K23 (C.bl λK24=>C.loop0 (σ:=Nat) (λf0 w0 j f wz=>f 6=.int .i64 ((j:Int))∧f 1=f0 1∧f 5=f0 5∧Ext (λj=>F j∨w.heap.size<=j) w wz∧Own wz b1 47 [slv p1,slv p2,slv p3]∧Stn 112 117 114 wz F p1 p2 p3 ps (K+i)∧j<=maxLen) (λj=>maxLen-j) 0 ?_ ?_))))
  ·
   refine ⟨rfl,rfl,rfl,(Ext.new (Ext.L _ _) e_3 (by intro i hi hk;first|exact hk.elim|exact .inl hk|exact hk|(exfalso;omega)|((try dsimp only at hk);(try dsimp only);omega))),r0_3,r1_3,?_⟩;exact Nat.zero_le _
  rintro j f_4 w7 ⟨s6_4,s1_4,s5_4,e_4,r0_4,r1_4,hj⟩;have z_4:=e_4.size;have sp6_:=(r1_4).d3;obtain ⟨raw,hraw,hps,hK⟩:=sp6_;have hrl:=hraw.len;have hi2:i<raw.length:=by omega
  have hrw:=hraw.1;have sp7_:=(r1_4).m raw[i].2 (by rw[<-hps];exact List.mem_map.2 ⟨_,List.getElem_mem hi2,rfl⟩);obtain ⟨ms,hms⟩:=sp7_;have hml:=hms.len;have hmw:=hms.1;have hmm:=hms.1.2;refine C.sq λK25=>C.sr λK26=>O.mv (O.fa U47 rfl Z45 (Eq.trans s1_4 (Eq.trans s1_3 s1_1)) (O.loadO isAgg45 rfl r0_4 rfl (O.mv ?_)))
  have sp8_:=OwnF.ptr hrw (by omega);obtain ⟨g45,cap45,hv45⟩:=sp8_;have ho45:=hrw;rw[hv45] at ho45;refine O.idxO U45 Z117 (Eq.trans rfl hv45) (Eq.trans s5_4 s5_3) (by omega) (O.fa U117 rfl Z115 rfl (O.loadC (G:=itemF) (i:=i) (off:=1) (by simp[itemF]) isAgg115 rfl ho45 (by omega) rfl (O.lenL U115 rfl (O.lssI s6_4 rfl (K26 (C.condD rfl (λc49=>?_) (λc49=>?_)))))))
  ·
   refine C.skip (K25 (C.sq λK27=>C.bl λK28=>C.region (O.fa U47 rfl Z45 (Eq.trans s1_4 (Eq.trans s1_3 s1_1)) (O.loadO isAgg45 rfl r0_4 rfl (O.mv ?_)))));have sp9_:=OwnF.ptr hrw (by omega);obtain ⟨g55,cap55,hv55⟩:=sp9_;have ho55:=hrw;rw[hv55] at ho55;refine O.idxO U45 Z117 (Eq.trans rfl hv55) (Eq.trans s5_4 s5_3) (by omega) (O.fa U117 rfl Z115 rfl (O.loadC (G:=itemF) (i:=i) (off:=1) (by simp[itemF]) isAgg115 rfl ho55 (by omega) rfl (O.mv ?_)));have sp10_:=OwnF.ptr hmw (by omega);obtain ⟨g59,cap59,hv59⟩:=sp10_;have ho59:=hmw;rw[hv59] at ho59;refine O.idxO U115 Z114 (Eq.trans rfl hv59) s6_4 (by omega) (O.fa U114 rfl Z3 rfl (O.loadC (G:=markF) (i:=j) (off:=2) (by simp[markF]) isAgg3 rfl ho59 (by omega) rfl (O.addW rfl rfl ?_)));have sp11_:=OwnF.ptr hmw (by omega);obtain ⟨g63,cap63,hv63⟩:=sp11_;have ho63:=hmw;rw[hv63] at ho63;refine O.idxO U115 Z114 (Eq.trans rfl hv63) s6_4 (by omega) (O.fa U114 rfl Z3 rfl (O.storeS (G:=markF) (i:=j) (off:=2) (by simp[markF]) Z3 rfl rfl rfl ho63 (by omega) (by decide) (λw8 cr8 hg8 hw8 e8 z8=>?_)));have hFg63:F g63:=(hms.2 g63 (by rw[hv63];rfl))
   have hC63:=hF g63 hFg63;replace e8:Ext F w7 w8:=e8.mono (λk _ hk=>by have h0:k=g63:=hk;subst h0;exact hFg63);have hste8:Stn 112 117 114 w8 F p1 p2 p3 ps (K+i):=by rw[hw8];exact (r1_4).setM (by decide) (by decide) hg8
   refine O.o (K28 (K27 (C.region (O.mv (O.ad s6_4 rfl (O.j (O.o (⟨(j+1),⟨rfl,s1_4,s5_4,(Ext.new (Ext.new (Ext.L _ _) e_4 (by intro i hi hk;first|exact hk.elim|exact .inl hk|exact hk|(exfalso;omega)|((try dsimp only at hk);(try dsimp only);omega))) e8 (by intro i hi hk;first|exact hk.elim|exact .inl hk|exact hk|(exfalso;omega)|((try dsimp only at hk);(try dsimp only);omega))),(r0_4.kM e8 (by intro h;have q9:=hF _ h;omega)),hste8,?_⟩,by first|omega|(simp only[];omega)⟩))))))))
   omega
  refine C.exit (K24 (K22 (C.drawB (wB:=(bare w7)) (by kernel_rfl) λw9 e9=>?_)));have z9:=e9.size;refine D.t 0 rfl (Ext.bare (Ext.nt (Ext.L (λ_=>True) _) e9)) (λ_ _ _ hN=>O.fa U47 rfl Z45 (Eq.trans s1_4 (Eq.trans s1_3 s1_1)) (O.o hN)) (D.mv 2 rfl (Ext.bare (Ext.nt (Ext.L (λ_=>True) _) e9)) (D.t 3 rfl (Ext.bare (Ext.nt (Ext.L (λ_=>True) _) e9)) (λ_ _ _ hN=>O.fa U47 rfl Z45 (Eq.trans s1_4 (Eq.trans s1_3 s1_1)) (O.o hN)) (D.mv 5 rfl (Ext.bare (Ext.nt (Ext.L (λ_=>True) _) e9)) (D.many [1,4] (by kernel_rfl) (by decide) ⟨?_,?_,trivial⟩))))
  ·
   refine D.stepU rfl rfl (O.loadO isAgg45 rfl (r0_4.L e9) rfl (O.o ⟨(Ext.bare (Ext.nt (Ext.L (λ_=>True) _) e9)),D.on 4 rfl rfl (O.loadO isAgg45 rfl (r0_4.L e9) rfl (O.o ⟨(Ext.bare (Ext.nt (Ext.L (λ_=>True) _) e9)),?_⟩))⟩));have sp12_:=OwnF.ptr (hrw.L e9) (by omega);obtain ⟨g71,cap71,hv71⟩:=sp12_;have ho71:=(hrw.L e9)
   rw[hv71] at ho71;refine D.t 6 rfl (Ext.bare (Ext.nt (Ext.L (λ_=>True) _) e9)) (λ_ _ _ hN=>O.idxO U45 Z117 (Eq.trans rfl hv71) (Eq.trans s5_4 s5_3) (by omega) (O.o hN)) (D.t 7 rfl (Ext.bare (Ext.nt (Ext.L (λ_=>True) _) e9)) (λ_ _ _ hN=>O.fa U117 rfl Z9 rfl (O.o hN)) (D.on 8 rfl rfl (O.loadC (G:=itemF) (i:=i) (off:=0) (by simp[itemF]) isAgg9 rfl ho71 (by omega) rfl (O.o ⟨(Ext.bare (Ext.nt (Ext.L (λ_=>True) _) e9)),?_⟩))));refine D.t 9 rfl (Ext.bare (Ext.nt (Ext.L (λ_=>True) _) e9)) (λ_ _ _ hN=>O.addS rfl rfl (by have q9:=hK raw[i] (List.getElem_mem hi2);show raw[i].1.length+1<=_;omega) (O.o hN)) ?_;have sp13_:=OwnF.ptr (hrw.L e9) (by omega);obtain ⟨g75,cap75,hv75⟩:=sp13_;have ho75:=(hrw.L e9)
   rw[hv75] at ho75;refine D.t 10 rfl (Ext.bare (Ext.nt (Ext.L (λ_=>True) _) e9)) (λ_ _ _ hN=>O.idxO U45 Z117 (Eq.trans rfl hv75) (Eq.trans s5_4 s5_3) (by omega) (O.o hN)) (D.t 11 rfl (Ext.bare (Ext.nt (Ext.L (λ_=>True) _) e9)) (λ_ _ _ hN=>O.fa U117 rfl Z9 rfl (O.o hN)) (D.on 12 rfl rfl (O.storeS (G:=itemF) (i:=i) (off:=0) (by simp[itemF]) Z9 rfl rfl rfl ho75 (by omega) (by decide) (λw10 cr10 hg10 hw10 e10 z10=>?_))));have hFg75:F g75:=(hraw.2 g75 (by rw[hv75];rfl))
   have hC75:=hF g75 hFg75;replace e10:Ext F w9 w10:=e10.mono (λk _ hk=>by have h0:k=g75:=hk;subst h0;exact hFg75);have hste10:Stn 112 117 114 w10 F p1 p2 p3 ps (K+i+1):=by rw[hw10];exact ((r1_4.L e9)).setN (by decide) (by decide) (by have q9:=hK raw[i] (List.getElem_mem hi2);rw[List.length_append];show raw[i].1.length+1<=_;omega) hg10
   refine O.o ⟨(Ext.bare (Ext.nt (Ext.nt (Ext.L (λ_=>True) _) e9) e10)),D.dn (K21 (K20 (C.region (O.mv (O.ad (Eq.trans s5_4 s5_3) rfl (O.j (O.o ?_)))))))⟩;refine ⟨(i+1),⟨rfl,(Eq.trans s1_4 s1_3),(Ext.new (Ext.new (Ext.new (Ext.L _ _) e_4 (by intro i hi hk;first|exact hk.elim|exact .inl hk|exact hk|(exfalso;omega)|((try dsimp only at hk);(try dsimp only);omega))) e9 (by intro i hi hk;first|exact hk.elim|exact .inl hk|exact hk|(exfalso;omega)|((try dsimp only at hk);(try dsimp only);omega))) e10 (by intro i hi hk;first|exact hk.elim|exact .inl hk|exact hk|(exfalso;omega)|((try dsimp only at hk);(try dsimp only);omega))),((r0_4.L e9).kM e10 (by intro h;have q9:=hF _ h;omega)),hste10,?_⟩,by first|omega|(simp only[];omega)⟩
   omega
  refine D.stepU rfl rfl (O.loadO isAgg45 rfl (r0_4.L e9) rfl (O.o ⟨(Ext.bare (Ext.nt (Ext.L (λ_=>True) _) e9)),?_⟩));have sp14_:=OwnF.ptr (hrw.L e9) (by omega);obtain ⟨g71,cap71,hv71⟩:=sp14_;have ho71:=(hrw.L e9)
  rw[hv71] at ho71;refine D.t 6 rfl (Ext.bare (Ext.nt (Ext.L (λ_=>True) _) e9)) (λ_ _ _ hN=>O.idxO U45 Z117 (Eq.trans rfl hv71) (Eq.trans s5_4 s5_3) (by omega) (O.o hN)) (D.t 7 rfl (Ext.bare (Ext.nt (Ext.L (λ_=>True) _) e9)) (λ_ _ _ hN=>O.fa U117 rfl Z9 rfl (O.o hN)) (D.many [1,8] (by kernel_rfl) (by decide) ⟨?_,?_,trivial⟩))
  ·
   refine D.stepU rfl rfl (O.loadO isAgg45 rfl (r0_4.L e9) rfl (O.o ⟨(Ext.bare (Ext.nt (Ext.L (λ_=>True) _) e9)),D.on 8 rfl rfl (O.loadC (G:=itemF) (i:=i) (off:=0) (by simp[itemF]) isAgg9 rfl ho71 (by omega) rfl (O.o ⟨(Ext.bare (Ext.nt (Ext.L (λ_=>True) _) e9)),D.t 9 rfl (Ext.bare (Ext.nt (Ext.L (λ_=>True) _) e9)) (λ_ _ _ hN=>O.addS rfl rfl (by have q9:=hK raw[i] (List.getElem_mem hi2);show raw[i].1.length+1<=_;omega) (O.o hN)) ?_⟩))⟩));have sp15_:=OwnF.ptr (hrw.L e9) (by omega);obtain ⟨g75,cap75,hv75⟩:=sp15_;have ho75:=(hrw.L e9)
   rw[hv75] at ho75;refine D.t 10 rfl (Ext.bare (Ext.nt (Ext.L (λ_=>True) _) e9)) (λ_ _ _ hN=>O.idxO U45 Z117 (Eq.trans rfl hv75) (Eq.trans s5_4 s5_3) (by omega) (O.o hN)) (D.t 11 rfl (Ext.bare (Ext.nt (Ext.L (λ_=>True) _) e9)) (λ_ _ _ hN=>O.fa U117 rfl Z9 rfl (O.o hN)) (D.on 12 rfl rfl (O.storeS (G:=itemF) (i:=i) (off:=0) (by simp[itemF]) Z9 rfl rfl rfl ho75 (by omega) (by decide) (λw11 cr11 hg11 hw11 e11 z11=>?_))));have hFg75:F g75:=(hraw.2 g75 (by rw[hv75];rfl))
   have hC75:=hF g75 hFg75;replace e11:Ext F w9 w11:=e11.mono (λk _ hk=>by have h0:k=g75:=hk;subst h0;exact hFg75);have hste11:Stn 112 117 114 w11 F p1 p2 p3 ps (K+i+1):=by rw[hw11];exact ((r1_4.L e9)).setN (by decide) (by decide) (by have q9:=hK raw[i] (List.getElem_mem hi2);rw[List.length_append];show raw[i].1.length+1<=_;omega) hg11
   refine O.o ⟨(Ext.bare (Ext.nt (Ext.nt (Ext.L (λ_=>True) _) e9) e11)),D.dn (K21 (K20 (C.region (O.mv (O.ad (Eq.trans s5_4 s5_3) rfl (O.j (O.o ?_)))))))⟩;refine ⟨(i+1),⟨rfl,(Eq.trans s1_4 s1_3),(Ext.new (Ext.new (Ext.new (Ext.L _ _) e_4 (by intro i hi hk;first|exact hk.elim|exact .inl hk|exact hk|(exfalso;omega)|((try dsimp only at hk);(try dsimp only);omega))) e9 (by intro i hi hk;first|exact hk.elim|exact .inl hk|exact hk|(exfalso;omega)|((try dsimp only at hk);(try dsimp only);omega))) e11 (by intro i hi hk;first|exact hk.elim|exact .inl hk|exact hk|(exfalso;omega)|((try dsimp only at hk);(try dsimp only);omega))),((r0_4.L e9).kM e11 (by intro h;have q9:=hF _ h;omega)),hste11,?_⟩,by first|omega|(simp only[];omega)⟩
   omega
  refine D.stepU rfl rfl (O.loadC (G:=itemF) (i:=i) (off:=0) (by simp[itemF]) isAgg9 rfl ho71 (by omega) rfl (O.o ⟨(Ext.bare (Ext.nt (Ext.L (λ_=>True) _) e9)),D.t 9 rfl (Ext.bare (Ext.nt (Ext.L (λ_=>True) _) e9)) (λ_ _ _ hN=>O.addS rfl rfl (by have q9:=hK raw[i] (List.getElem_mem hi2);show raw[i].1.length+1<=_;omega) (O.o hN)) (D.on 1 rfl rfl (O.loadO isAgg45 rfl (r0_4.L e9) rfl (O.o ⟨(Ext.bare (Ext.nt (Ext.L (λ_=>True) _) e9)),?_⟩)))⟩));have sp16_:=OwnF.ptr (hrw.L e9) (by omega);obtain ⟨g75,cap75,hv75⟩:=sp16_;have ho75:=(hrw.L e9)
  rw[hv75] at ho75;refine D.t 10 rfl (Ext.bare (Ext.nt (Ext.L (λ_=>True) _) e9)) (λ_ _ _ hN=>O.idxO U45 Z117 (Eq.trans rfl hv75) (Eq.trans s5_4 s5_3) (by omega) (O.o hN)) (D.t 11 rfl (Ext.bare (Ext.nt (Ext.L (λ_=>True) _) e9)) (λ_ _ _ hN=>O.fa U117 rfl Z9 rfl (O.o hN)) (D.on 12 rfl rfl (O.storeS (G:=itemF) (i:=i) (off:=0) (by simp[itemF]) Z9 rfl rfl rfl ho75 (by omega) (by decide) (λw12 cr12 hg12 hw12 e12 z12=>?_))));have hFg75:F g75:=(hraw.2 g75 (by rw[hv75];rfl))
  have hC75:=hF g75 hFg75;replace e12:Ext F w9 w12:=e12.mono (λk _ hk=>by have h0:k=g75:=hk;subst h0;exact hFg75);have hste12:Stn 112 117 114 w12 F p1 p2 p3 ps (K+i+1):=by rw[hw12];exact ((r1_4.L e9)).setN (by decide) (by decide) (by have q9:=hK raw[i] (List.getElem_mem hi2);rw[List.length_append];show raw[i].1.length+1<=_;omega) hg12
  refine O.o ⟨(Ext.bare (Ext.nt (Ext.nt (Ext.L (λ_=>True) _) e9) e12)),D.dn (K21 (K20 (C.region (O.mv (O.ad (Eq.trans s5_4 s5_3) rfl (O.j (O.o ?_)))))))⟩;refine ⟨(i+1),⟨rfl,(Eq.trans s1_4 s1_3),(Ext.new (Ext.new (Ext.new (Ext.L _ _) e_4 (by intro i hi hk;first|exact hk.elim|exact .inl hk|exact hk|(exfalso;omega)|((try dsimp only at hk);(try dsimp only);omega))) e9 (by intro i hi hk;first|exact hk.elim|exact .inl hk|exact hk|(exfalso;omega)|((try dsimp only at hk);(try dsimp only);omega))) e12 (by intro i hi hk;first|exact hk.elim|exact .inl hk|exact hk|(exfalso;omega)|((try dsimp only at hk);(try dsimp only);omega))),((r0_4.L e9).kM e12 (by intro h;have q9:=hF _ h;omega)),hste12,?_⟩,by first|omega|(simp only[];omega)⟩
  omega
 refine C.exit (K17 (Outs.none rfl ?_));exact ⟨rfl,(Ext.new (Ext.L _ _) e_3 (by intro i hi hk;first|exact hk.elim|exact .inl hk|exact hk|(exfalso;omega)|((try dsimp only at hk);(try dsimp only);omega)))⟩
theorem stainL_spec (u0 v0:Value)(l:List EntT)(lo hi:Nat)(w:World)(hcp:Clip u0 v0)(hse:SlE 50 112 117 114 w lo hi u0 l)(hhi:hi<=w.heap.size)(hB:Bt.Big l):
 Ret prog 35 #[v0] w (λv w'=>v=.tuple #[]∧Ext (λj=>lo<=j) w w'):=by
 obtain ⟨raw,hfr,hen⟩:=hse;obtain ⟨hrl,b,hbx,hbm,hbc⟩:=hen;obtain ⟨hb0,hbn⟩:=hbx;have hown:=hfr.1;have hrs:RestE 112 117 114 w (λj=>¬bk u0 j) b 0 raw l:=λj h1 h2 _=>(hbc j h1 h2).2
 refine enT [v0] 25 func35 rfl rfl (C.sr λK1=>O.j (K1 (C.bl λK2=>C.loop0 (σ:=Nat×List EntR) (λf0 w0 ⟨i,rr⟩ f wz=>f 2=.int .i64 ((i:Int))∧f 0=f0 0∧Ext (λj=>lo<=j) w wz∧OwnF entF 50 0 wz u0 rr∧RestE 112 117 114 wz (λj=>¬bk u0 j) b i raw l∧(i<=l.length∧rr.length=l.length∧w.heap.size<=wz.heap.size)∧(∀j,∀h:j<rr.length,∀h2:j<raw.length,i<=j->rr[j]=raw[j])) (λ⟨i,rr⟩=>l.length-i) (0,raw) ?_ ?_)))
 ·
  refine ⟨rfl,rfl,(Ext.L _ _),hown,hrs,?_⟩;exact ⟨⟨Nat.zero_le _,hrl,Nat.le_refl _⟩,λ_ _ _ _=>rfl⟩
 rintro ⟨i,rr⟩ f_1 w1 ⟨s2_1,s0_1,e_1,r0_1,r1_1,⟨⟨hk,hrrl,hwz⟩,hsm⟩⟩;have z_1:=e_1.size;have r0_1s:=r0_1.sl;have hobk:=λk hk=>(hfr.2 k hk)
 have hobk:∀k,bk u0 k->lo<=k∧k<w.heap.size:=λk hk=>⟨(hfr.2 k hk).1,by have:=(hfr.2 k hk).2;omega⟩
 have hrrle:=(r0_1).sl.le;have hsv:=(r0_1).clips hcp;refine C.sq λK3=>C.sr λK4=>O.mv (O.mv (O.len U22 s0_1 hsv (O.lssI s2_1 rfl (K4 (C.condD rfl (λc6=>?_) (λc6=>?_))))))
 ·
  have hk2:i<l.length:=by omega
  have sp1_:∃q:EntR,q=raw[i]:=⟨_,rfl⟩
  obtain ⟨r,hrr⟩:=sp1_;have sp2_:∃q:EntT,q=l[i]:=⟨_,rfl⟩
  obtain ⟨x,hxr⟩:=sp2_;have hri:rr[i]=r:=by rw[hrr];exact hsm i (by omega) (by omega) (Nat.le_refl _)
  have hkxr:r.1=x.1:=by rw[hrr,hxr];exact (hbc i (by omega) hk2).1
  have hmxr:x∈l:=by rw[hxr];exact List.getElem_mem _
  have hbr:=hB x hmxr;have hca:CartF 112 117 114 w1 (λq=>¬bk u0 q∧b i<=q∧q<b (i+1)) r.2 x.2:=by rw[hrr,hxr];exact r1_1 i (by omega) hk2 (Nat.le_refl _)
  have hcl:=hca.len;have hst:=hca.stn (K:=1000000) (λy hy=>(hbr.2.2.2.2 y hy).1);obtain ⟨ps,hst⟩:=hst;have hbi:=mono_of hbm (Nat.zero_le i);have hbi2:=mono_of hbm (show i+1<=l.length by omega);have hrs2:=(r1_1).next;refine C.skip (K3 (C.sq λK5=>C.bl λK6=>C.sr λK7=>O.mv (O.mv (O.idx U22 Z50 rfl s0_1 hsv s2_1 (by omega) (λa11 h11=>O.ft U50 rfl Z47 rfl (O.loadPart (G:=entF) isAgg47 Z47 (by decide) rfl h11 (O.cast (v':=.agg #[slv r.2.1.1,slv r.2.1.2,slv r.2.2]) (by rw[<-hri];rfl) (O.call call56 (args1 rfl) (stain2_spec r.2.1.1 r.2.1.2 r.2.2 ps _ _ hst (λj hj=>by have q1:=hj.2.2;omega) (by rw[hcl];exact hbr.2.2.2.1)) ?_))))))));rintro v_14 w2 ⟨rfl,e2⟩;have z2:=e2.size;refine K7 (C.region (O.mv (O.mv (O.mv (O.mv (O.idx U22 Z50 rfl s0_1 (hsv.kM e2 (λk hk h=>by rcases h with ⟨q1,_⟩|q1;exact q1 hk;have:=hobk k hk;omega)) s2_1 (by omega) (λa19 h19=>O.ft U50 rfl Z9 rfl (O.loadAtF (G:=entF) isAgg9 rfl rfl h19 (O.addS rfl rfl (by have q7:=hbr.1;rw[<-hkxr,<-hri] at q7;simp;omega) ?_)))))))));have t0:=r0_1.kM e2 (λk hk h=>by rcases h with ⟨q1,_⟩|q1;exact q1 hk;have:=hobk k hk;omega);have sp3_:=OwnF.ptr t0 (by omega);obtain ⟨g23,cap23,hv23⟩:=sp3_;have ho23:=t0;rw[hv23] at ho23;have sp4_:=Clip.ptr hcp hv23;obtain ⟨cav23,hvv23⟩:=sp4_;refine O.idxO U22 Z50 (Eq.trans s0_1 hvv23) s2_1 (by omega) ?_;have hg23:lo<=g23:=(hobk g23 (by rw[hv23];rfl)).1;refine O.fa U50 rfl Z9 rfl (O.storeC (G:=entF) (i:=i) (off:=0) (((rr[i]'(by omega)).1++[120],(rr[i]'(by omega)).2)) (by simp[entF]) Z9 rfl rfl rfl ho23 (by omega) (by decide) rfl (λw3 hs3 e3 z3=>?_));rw[<-hv23] at hs3;have hsm2:∀j,∀h:j<(rr.set i (rr[i].1++[120],rr[i].2)).length,∀h2:j<raw.length,i+1<=j->(rr.set i (rr[i].1++[120],rr[i].2))[j]=raw[j]:=λj h h2 h3=>by
   rw[List.getElem_set_ne (by omega)];exact hsm j (by rw[List.length_set] at h;omega) h2 (by omega)
  refine O.o (K6 (K5 (C.region (O.mv (O.ad s2_1 rfl (O.j (O.o ?_)))))));refine ⟨(i+1,rr.set i ((rr[i]'(by omega)).1++[120],(rr[i]'(by omega)).2)),⟨rfl,s0_1,(Ext.new (Ext.new (Ext.new (Ext.L _ _) e_1 (by intro i hi hk;first|exact hk.elim|exact hk|(have q1:i=_:=hk;subst q1;omega)|(rcases hk with ⟨_,q1,_⟩|q1<;>omega))) e2 (by intro i hi hk;first|exact hk.elim|exact hk|(have q1:i=_:=hk;subst q1;omega)|(rcases hk with ⟨_,q1,_⟩|q1<;>omega))) e3 (by intro i hi hk;first|exact hk.elim|exact hk|(have q1:i=_:=hk;subst q1;omega)|(rcases hk with ⟨_,q1,_⟩|q1<;>omega))),hs3,((hrs2.kM e2 (by rintro k ⟨hk1,j,hj,hij,hk2,hk3⟩ h;have q9:=mono_of hbm hij;rcases h with ⟨_,_,q2⟩|q2;omega;have q8:=mono_of hbm (show j+1<=l.length by omega);omega)).kM e3 (by rintro k ⟨hk1,_⟩ h;exact hk1 (by rw[hv23];exact h))),?_⟩,by first|omega|(simp only[];omega)⟩;exact ⟨⟨by omega,by rw[List.length_set];exact hrrl,by omega⟩,hsm2⟩
 refine C.exit (K2 (Outs.none rfl ?_));exact ⟨rfl,(Ext.new (Ext.L _ _) e_1 (by intro i hi hk;first|exact hk.elim|exact hk|(have q1:i=_:=hk;subst q1;omega)|(rcases hk with ⟨_,q1,_⟩|q1<;>omega)))⟩
end Go.Proofs.YtpbcafkcfobngaaGreatDoor
