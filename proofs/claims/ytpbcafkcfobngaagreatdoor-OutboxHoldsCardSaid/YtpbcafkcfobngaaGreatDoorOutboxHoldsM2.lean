/-
 The walks of vectors: rows of dots in one, equal ones, the order of replicas. Conditions: slices as they lie in memory.
-/
import Derived.Test.YtpbcafkcfobngaaGreatDoorRows
import Derived.Shelf.SlLaysF
import Derived.Shelf.SlLaysF0
import Derived.Ground.SlsfProg
import Derived.Test.YtpbcafkcfobngaaGreatDoorProg
import Derived.Shelf.Strings.Trim
import Derived.Shelf.Small.Bits
import Derived.Shelf.Small.Wraps
import Derived.Shelf.Strings.Search3
import Derived.Shelf.LaysM
import Derived.Shelf.Strings.Shaped
import Derived.Shelf.Strings.Runes
import Derived.Shelf.Slices.CompactS
import Derived.Shelf.SlSortCmp.WholeK
import Derived.Shelf.Small.Utf8
import Derived.Shelf.Small.Strs
import Derived.Test.YtpbcafkcfobngaaGreatDoorOutboxHoldsM1
set_option maxHeartbeats 16000000
namespace Go.Proofs.YtpbcafkcfobngaaGreatDoor
open Go.Pn Go.RowKit Go.Proofs _root_.Go.Proofs.Tryz
attribute [local irreducible] O C D
theorem equalV_spec (v0:Value) (a:List Dt.Dot) (v1:Value) (b:List Dt.Dot) (F F2:Nat→Prop) (w:World) (ha:Sl Dt.dotF.enc w F v0 a) (hb:Sl Dt.dotF.enc w F2 v1 b):
 Ret prog 198 #[v0,v1] w (λv w'=>v=.bool (decide (a=b))∧Le w w'):=by
 have hale:=ha.le;have hble:=hb.le;refine enT [v0,v1] 26 func198 rfl rfl (C.sr λK1=>O.asg (K1 (C.sq λK2=>C.sr λK3=>O.mv (O.len U42 rfl ha (O.mv (O.len U42 rfl hb (O.neqI rfl rfl (K3 (C.condD rfl (λc10=>?_) (λc10=>?_))))))))))
 ·
  refine C.sr λK4=>O.asg (K4 (C.ret (Outs.one rfl rfl ?_)))
  exact ⟨congrArg Value.bool (decide_eq_false (λh=>c10 (congrArg (λl:List Dt.Dot=>(l.length:Int)) h))).symm,(Le.refl _)⟩
 have hlen:a.length=b.length:=by omega
 refine C.skip (K2 (C.sq λK5=>C.sr λK6=>O.mv (O.len U42 rfl ha (O.mv (K6 (C.bl λK7=>C.loop0 (σ:=Nat) (λf0 w0 k f wz=>f 13=.int .i64 (k)∧f 0=f0 0∧f 1=f0 1∧f 12=f0 12∧Le w wz∧k≤a.length∧a.take k=b.take k) (λk=>a.length-k) 0 ?_ ?_))))))
 ·
  refine ⟨rfl,rfl,rfl,rfl,(Le.refl _),?_⟩;exact ⟨Nat.zero_le _,rfl⟩
 rintro k f_1 w1 ⟨s13_1,s0_1,s1_1,s12_1,e_1,⟨hk,hI⟩⟩;have z_1:=e_1.size;refine C.sr λK8=>O.lssI s13_1 s12_1 (K8 (C.sq λK9=>C.condD rfl (λc14=>?_) (λc14=>?_)))
 ·
  refine C.skip (K9 (C.sq λK10=>C.bl λK11=>C.sr λK12=>O.mv (O.asg (K12 (C.sd λK13 w2 e2 z2=>D.mv 0 rfl (Le.refl _) (D.mv 1 rfl (Le.refl _) ?_))))));obtain ⟨a18,h18,hr18⟩:=Sl.at (i:=(k:Int)) (P:=prog) U42 Z112 rfl ((ha.keep e_1).keep e2) (by omega);refine D.t 2 rfl (Le.refl _) (λ_ _ _ hN=>O.idxR s0_1 s13_1 hr18 (O.nil hN)) (D.t 3 rfl (Le.refl _) (λ_ hw_ _ hN=>O.loadG (G:=Dt.dotF) isAgg112 Z112 rfl (h18.keep hw_) (O.nil hN)) (D.mv 4 rfl (Le.refl _) (D.mv 5 rfl (Le.refl _) ?_)));obtain ⟨a22,h22,hr22⟩:=Sl.at (i:=(k:Int)) (P:=prog) U42 Z112 rfl ((hb.keep e_1).keep e2) (by omega);refine D.t 6 rfl (Le.refl _) (λ_ _ _ hN=>O.idxR s1_1 s13_1 hr22 (O.nil hN)) (D.t 7 rfl (Le.refl _) (λ_ hw_ _ hN=>O.loadG (G:=Dt.dotF) isAgg112 Z112 rfl (h22.keep hw_) (O.nil hN)) (D.t 8 rfl (Le.refl _) (λ_ _ _ hN=>O.neqP U112 (by decide) (by decide) rfl rfl U3 U3 isAgg3 isAgg3 (by kernel_rfl) (by kernel_rfl) rfl rfl (O.nil hN)) (K13 (C.condD rfl (λc24=>?_) (λc24=>?_)))))
  ·
   refine C.sr λK14=>O.asg (K14 (C.ret (Outs.one rfl rfl ?_)))
   first
   |exact ⟨congrArg Value.bool (decide_eq_false (λh=>c10 (congrArg (λl:List Dt.Dot=>(l.length:Int)) h))).symm,(Ext.trans e_1 e2)⟩
   |exact ⟨congrArg Value.bool (decide_eq_false (λh=>c24 (by simp only[h]))).symm,(Ext.trans e_1 e2)⟩
  refine C.skip (K11 (K10 (C.region (O.ad s13_1 rfl (O.mv (O.nil (⟨k+1,⟨rfl,s0_1,s1_1,s12_1,(Ext.trans e_1 e2),?_⟩,by first|omega|(simp only[];omega)⟩)))))));have hka:k<a.length:=by omega
  have hkb:k<b.length:=by omega
  have hq:a[k]=b[k]:=Decidable.of_not_not c24;refine ⟨by omega,?_⟩;rw[List.take_succ_eq_append_getElem hka,List.take_succ_eq_append_getElem hkb,hI,hq]
 refine C.exit (K7 (K5 (C.sr λK15=>O.asg (K15 (C.ret (Outs.one rfl rfl ?_))))))
 first
 |exact ⟨congrArg Value.bool (decide_eq_false (λh=>c10 (congrArg (λl:List Dt.Dot=>(l.length:Int)) h))).symm,e_1⟩
 |exact ⟨congrArg Value.bool (decide_eq_false (λh=>c24 (by simp only[h]))).symm,e_1⟩
 |(have hk2:k=a.length:=by omega
   subst hk2;rw[List.take_length,List.take_of_length_le (by omega)] at hI;exact ⟨congrArg Value.bool (decide_eq_true hI).symm,e_1⟩)
theorem small_spec (va1 va2 va3:Value) (a:Cn.Cart) (F:Nat→Prop) (w:World) (hav:Sl Dt.dotF.enc w F va1 a.1.1) (hac:Sl Dt.dotF.enc w F va2 a.1.2) (hai:Sl itemE w F va3 a.2):
 Ret prog 38 #[.agg #[va1,va2,va3]] w (λv w'=>v=.bool (Cn.small a)∧Le w w'):=by
 have hle:=hai.le;have hle1:=hav.le;have hle2:=hac.le;refine enT [.agg #[va1,va2,va3]] 51 func38 rfl rfl (C.sr λK1=>O.box (v:=.agg #[va1,va2,va3]) rfl (λb1 w1 hb1 hz1 e1=>?_));have z1:=e1.size;have h1:=hz1.own;have hl1:=h1.lt;refine O.asg (K1 (C.sq λK2=>C.sr λK3=>O.asg (K3 (C.bl λK4=>C.loop0 (σ:=Nat) (λf0 w0 k f w=>f 3=.int .i64 (k)∧f 1=f0 1∧Le w0 w∧k≤a.2.length∧∀i,∀h:i<a.2.length,i<k→Cn.smallI a.2[i]=true) (λk=>a.2.length-k) 0 ?_ ?_))))
 ·
  refine ⟨rfl,rfl,Le.refl _,?_⟩;exact ⟨Nat.zero_le _,λi h k=>absurd k (Nat.not_lt_zero _)⟩
 rintro k f_1 w2 ⟨s3_1,s1_1,e_1,⟨hk,hI⟩⟩;have z_1:=e_1.size;refine C.sq λK5=>C.sr λK6=>O.mv (O.fa U47 rfl Z45 s1_1 (O.loadO isAgg45 rfl (h1.keep e_1) rfl ?_))
 have t0:=(hai.keep e1).keep e_1;refine O.len U45 rfl t0 (O.lssI s3_1 rfl (O.mv (O.cut 3 (λf f'=>f' 12=.bool (decide ((k:Int)<(a.2.length:Int)∧(k:Int)<21))∧f' 1=f 1∧f' 3=f 3) ?_ ?_)))
 ·
  refine O.splitD (x:=.tmp 9) rfl (λc9=>?_) (λc9=>?_)
  ·
   refine O.yes rfl (isT rfl c9) (O.mv (O.yes rfl (isT rfl c9) (O.lssI s3_1 rfl (O.pickT (isT rfl c9) (O.nil (⟨⟨?_,rfl,rfl⟩,rfl⟩))))));exact dJ rfl
  refine O.no rfl (noB (isF rfl c9) rfl) (O.no rfl (noB (isF rfl c9) rfl) (O.pickF (isF rfl c9) (O.nil (⟨⟨?_,rfl,rfl⟩,rfl⟩))));exact dJ rfl
 rintro f_2 ⟨s12_2,s1_2,s3_2⟩;refine K6 (C.condD s12_2 (λc12=>?_) (λc12=>?_))
 ·
  have hk2:k<a.2.length:=by omega
  refine C.skip (K5 (C.sq λK7=>C.bl λK8=>C.sr λK9=>O.fa U47 rfl Z45 (Eq.trans s1_2 s1_1) (O.loadO isAgg45 rfl (h1.keep e_1) rfl (O.mv (O.idx U45 Z117 rfl rfl t0 (Eq.trans s3_2 s3_1) (by omega) (λa18 h18=>O.ft U117 rfl Z115 rfl (O.loadMarks isAgg115 rfl h18 (λvm20 hm20=>O.len U115 rfl hm20 (O.gtrI rfl rfl (O.mv (O.splitD (x:=.tmp 23) rfl (λc23=>?_) (λc23=>?_))))))))))))
  ·
   simp only[Int.toNat_natCast] at c23;refine O.no rfl (noB (isT rfl c23) rfl) (O.no rfl (noB (isT rfl c23) rfl) (O.no rfl (noB (isT rfl c23) rfl) (O.no rfl (noB (isT rfl c23) rfl) (O.no rfl (noB (isT rfl c23) rfl) (O.no rfl (noB (isT rfl c23) rfl) (O.no rfl (noB (isT rfl c23) rfl) (O.no rfl (noB (isT rfl c23) rfl) (O.pickT (isT rfl c23) (K9 (C.condT rfl (C.sr λK10=>O.asg (K10 (C.ret (Outs.one rfl rfl ?_))))))))))))))
   (refine ⟨congrArg Value.bool ?_,(Ext.trans e1 e_1)⟩
    have q:a.2.all Cn.smallI=false:=Cn.all_no hk2 (Cn.smallI_no (by omega));unfold Cn.small;rw[q,Bool.and_false])
  simp only[Int.toNat_natCast] at c23;refine O.yes rfl (isF rfl c23) (O.fa U47 rfl Z45 (Eq.trans s1_2 s1_1) (O.yes rfl (isF rfl c23) (O.loadO isAgg45 rfl (h1.keep e_1) rfl (O.yes rfl (isF rfl c23) (O.mv (O.yes rfl (isF rfl c23) (O.idx U45 Z117 rfl rfl t0 (Eq.trans s3_2 s3_1) (by omega) (λa27 h27=>O.yes rfl (isF rfl c23) (O.ft U117 rfl Z9 rfl (O.yes rfl (isF rfl c23) (O.loadName isAgg9 rfl h27 (O.yes rfl (isF rfl c23) (O.lenS U9 rfl (O.yes rfl (isF rfl c23) (O.gtrI rfl rfl (O.pickF (isF rfl c23) (K9 (C.condD rfl (λc32=>?_) (λc32=>?_)))))))))))))))))))
  ·
   simp only[Int.toNat_natCast] at c32;refine C.sr λK11=>O.asg (K11 (C.ret (Outs.one rfl rfl ?_)))
   (refine ⟨congrArg Value.bool ?_,(Ext.trans e1 e_1)⟩
    have q:a.2.all Cn.smallI=false:=Cn.all_no hk2 (Cn.smallI_no (by omega));unfold Cn.small;rw[q,Bool.and_false])
  simp only[Int.toNat_natCast] at c32;refine C.skip (K8 (K7 (C.region (O.mv (O.ad (Eq.trans s3_2 s3_1) rfl (O.asg (O.nil (⟨k+1,⟨rfl,(Eq.trans s1_2 s1_1),e_1,?_⟩,by first|omega|(simp only[];omega)⟩))))))));refine ⟨by omega,λi hi hik=>?_⟩;rcases Nat.lt_or_eq_of_le (Nat.le_of_lt_succ hik) with h|rfl
  ·exact hI i hi h
  ·exact Cn.smallI_yes (by omega) (by omega)
 refine C.exit (K4 (K2 (C.sr λK12=>O.fa U47 rfl Z44 (Eq.trans s1_2 s1_1) (O.fa U44 rfl Z42 rfl (O.loadO isAgg42 rfl (h1.keep e_1) rfl (O.len U42 rfl ((hav.keep e1).keep e_1) (O.leqI rfl rfl (O.mv (O.cut 6 (λf f'=>f' 44=.bool (decide ((a.1.1.length:Int)≤40∧(a.1.2.length:Int)≤40))∧f' 1=f 1) ?_ ?_)))))))))
 ·
  refine O.splitD (x:=.tmp 38) rfl (λc38=>?_) (λc38=>?_)
  ·
   refine O.yes rfl (isT rfl c38) (O.fa U47 rfl Z44 (Eq.trans s1_2 s1_1) (O.yes rfl (isT rfl c38) (O.fa U44 rfl Z41 rfl (O.yes rfl (isT rfl c38) (O.loadO isAgg41 rfl (h1.keep e_1) rfl (O.yes rfl (isT rfl c38) (O.len U41 rfl ((hac.keep e1).keep e_1) (O.yes rfl (isT rfl c38) (O.leqI rfl rfl (O.pickT (isT rfl c38) (O.nil (⟨⟨?_,rfl⟩,rfl⟩))))))))))));exact dJ rfl
  refine O.no rfl (noB (isF rfl c38) rfl) (O.no rfl (noB (isF rfl c38) rfl) (O.no rfl (noB (isF rfl c38) rfl) (O.no rfl (noB (isF rfl c38) rfl) (O.no rfl (noB (isF rfl c38) rfl) (O.pickF (isF rfl c38) (O.nil (⟨⟨?_,rfl⟩,rfl⟩)))))));exact dJ rfl
 rintro f_3 ⟨s44_3,s1_3⟩;refine O.mv (O.cut 5 (λf f'=>f' 50=.bool (decide (((a.1.1.length:Int)≤40∧(a.1.2.length:Int)≤40)∧(a.2.length:Int)≤20))) ?_ ?_)
 ·
  refine O.splitD (x:=.tmp 45) s44_3 (λc45=>?_) (λc45=>?_)
  ·
   refine O.yes rfl (isT s44_3 c45) (O.fa U47 rfl Z45 (Eq.trans s1_3 (Eq.trans s1_2 s1_1)) (O.yes rfl (isT s44_3 c45) (O.loadO isAgg45 rfl (h1.keep e_1) rfl (O.yes rfl (isT s44_3 c45) (O.len U45 rfl t0 (O.yes rfl (isT s44_3 c45) (O.leqI rfl rfl (O.pickT (isT s44_3 c45) (O.nil (⟨?_,rfl⟩))))))))));exact dJ rfl
  refine O.no rfl (noB (isF s44_3 c45) rfl) (O.no rfl (noB (isF s44_3 c45) rfl) (O.no rfl (noB (isF s44_3 c45) rfl) (O.no rfl (noB (isF s44_3 c45) rfl) (O.pickF (isF s44_3 c45) (O.nil (⟨?_,rfl⟩))))));exact dJ rfl
 intro f_4 s50_4;refine O.asg (K12 (C.ret (Outs.one rfl s50_4 ?_)))
 first
 |(refine ⟨congrArg Value.bool ?_,(Ext.trans e1 e_1)⟩
   have q:a.2.all Cn.smallI=false:=Cn.all_no hk2 (Cn.smallI_no (by omega));unfold Cn.small;rw[q,Bool.and_false])
 |(refine ⟨congrArg Value.bool ?_,(Ext.trans e1 e_1)⟩
   exact Cn.small_of (λh i hi=>hI i hi (by omega)))
theorem ones3c {a b c:Value} (h1:a.oneCell'=true) (h2:b.oneCell'=true) (h3:c.oneCell'=true):∀u∈[a,b,c],u.oneCell'=true:=by
 intro u hu;simp only[List.mem_cons,List.not_mem_nil,or_false] at hu;rcases hu with rfl|rfl|rfl<;>assumption
theorem rises_spec (v0:Value) (raw:List EntR) (l:List EntT) (F:Nat→Prop) (w:World) (hr:Sl entF.enc w F v0 raw) (he:EntL w F raw l):
 Ret prog 62 #[v0] w (λv w'=>v=.bool (Bt.rises l)∧Le w w'):=by
 have hl:=he.1;have hrl:=hr.le;refine enT [v0] 22 func62 rfl rfl (C.sr λK1=>O.asg (K1 (C.sq λK2=>C.sr λK3=>O.asg (K3 (C.bl λK4=>C.loop0 (σ:=Nat) (λf0 w0 k f w=>f 3=.int .i64 ((k:Int))∧f 0=f0 0∧Le w0 w∧(1≤k∧k≤l.length+1)∧(∀i,∀h:i+1<l.length,i+1<k→Op.bytesLess l[i].1 l[i+1].1=true)) (λk=>l.length+1-k) 1 ?_ ?_)))))
 ·
  refine ⟨rfl,rfl,Le.refl _,?_⟩;exact ⟨by omega,λi h k=>by omega⟩
 rintro k f_1 w1 ⟨s3_1,s0_1,e_1,⟨hk,hJ⟩⟩;have z_1:=e_1.size;refine C.sq λK5=>C.sr λK6=>O.mv (O.mv (O.len U22 s0_1 (hr.keep e_1) (O.lssI s3_1 rfl (K6 (C.condD rfl (λc7=>?_) (λc7=>?_))))))
 ·
  have hk2:k<l.length:=by omega
  refine C.skip (K5 (C.sq λK7=>C.bl λK8=>C.sd λK9 w2 e2 z2=>D.mv 0 rfl (Le.refl _) (D.mv 1 rfl (Le.refl _) (D.t 2 rfl (Le.refl _) (λ_ _ _ hN=>O.sb s3_1 rfl (O.nil hN)) ?_))));have sp2_:=Sl.at (i:=(k:Int)-1) (P:=prog) U22 Z50 rfl ((hr.keep e_1).keep e2) (by omega);obtain ⟨a13,h13,hr13⟩:=sp2_;refine D.t 3 rfl (Le.refl _) (λ_ _ _ hN=>O.idxR s0_1 rfl hr13 (O.nil hN)) (D.t 4 rfl (Le.refl _) (λ_ _ _ hN=>O.ft U50 rfl Z9 rfl (O.nil hN)) (D.t 5 rfl (Le.refl _) (λ_ hw_ _ hN=>O.loadAtF (G:=entF) isAgg9 rfl rfl (h13.keep hw_) (O.nil hN)) (D.mv 6 rfl (Le.refl _) (D.mv 7 rfl (Le.refl _) ?_))));have sp3_:=Sl.at (i:=(k:Int)) (P:=prog) U22 Z50 rfl ((hr.keep e_1).keep e2) (by omega);obtain ⟨a18,h18,hr18⟩:=sp3_;refine D.t 8 rfl (Le.refl _) (λ_ _ _ hN=>O.idxR s0_1 s3_1 hr18 (O.nil hN)) (D.t 9 rfl (Le.refl _) (λ_ _ _ hN=>O.ft U50 rfl Z9 rfl (O.nil hN)) (D.t 10 rfl (Le.refl _) (λ_ hw_ _ hN=>O.loadAtF (G:=entF) isAgg9 rfl rfl (h18.keep hw_) (O.nil hN)) (D.t 11 rfl (Le.refl _) (λ_ _ _ hN=>O.geqS rfl rfl (O.nil hN)) (K9 (C.cond rfl (λc21=>?_) (λc21=>?_))))))
  ·
   have e9:((k:Int)-1).toNat=k-1:=by omega
   simp only[e9,Int.toNat_natCast] at c21;rw[(he.2 (k-1) (by omega) (by omega)).1,(he.2 k (by omega) (by omega)).1] at c21;refine C.sr λK10=>O.asg (K10 (C.ret (Outs.one rfl rfl ?_)))
   exact ⟨congrArg Value.bool (Bt.rises_no (i:=k) (j:=k-1) hk2 (by omega) (by omega) (by simpa using c21)).symm,(Ext.trans e_1 e2)⟩
  have e9:((k:Int)-1).toNat=k-1:=by omega
  simp only[e9,Int.toNat_natCast] at c21;rw[(he.2 (k-1) (by omega) (by omega)).1,(he.2 k (by omega) (by omega)).1] at c21;refine C.skip (K8 (K7 (C.region (O.mv (O.ad s3_1 rfl (O.asg (O.nil (⟨k+1,⟨rfl,s0_1,(Ext.trans e_1 e2),?_⟩,by first|omega|(simp only[];omega)⟩))))))));refine ⟨by omega,λi hi hik=>?_⟩;rcases Nat.lt_or_eq_of_le (Nat.le_of_lt_succ hik) with h|rfl
  ·exact hJ i hi h
  ·simpa using c21
 refine C.exit (K4 (K2 (C.sr λK11=>O.asg (K11 (C.ret (Outs.one rfl rfl ?_))))))
 first
 |exact ⟨congrArg Value.bool (Bt.rises_no (i:=k) (j:=k-1) hk2 (by omega) (by omega) (by simpa using c21)).symm,e_1⟩
 |exact ⟨congrArg Value.bool (Bt.rises_yes (λi hi=>hJ i hi (by omega))).symm,e_1⟩
theorem lordered_spec (v0:Value) (raw:List EntR) (l:List EntT) (F:Nat→Prop) (w:World) (hr:Sl entF.enc w F v0 raw) (he:EntL w F raw l) (hF:∀k,F k→k<w.heap.size) (hB:Bt.Big l) (mx:Mx w):
 Ret prog 19 #[v0] w (λv w'=>v=.bool (Bt.ordered l)∧Le w w'):=by
 have hl:=he.1;have hrl:=hr.le;refine enT [v0] 28 func19 rfl rfl (C.sr λK1=>O.asg (K1 (C.sq λK2=>C.sr λK3=>O.asg (K3 (C.bl λK4=>C.loop0 (σ:=Nat) (λf0 w0 k f w=>f 3=.int .i64 ((k:Int))∧f 0=f0 0∧Le w0 w∧k≤l.length∧(∀i,∀h:i<l.length,i<k→Bt.okE l[i]=true)) (λk=>l.length-k) 0 ?_ ?_)))))
 ·
  refine ⟨rfl,rfl,Le.refl _,?_⟩;exact ⟨Nat.zero_le _,λi h k=>absurd k (Nat.not_lt_zero _)⟩
 rintro k f_1 w1 ⟨s3_1,s0_1,e_1,⟨hk,hI⟩⟩;have z_1:=e_1.size;refine C.sq λK5=>C.sr λK6=>O.mv (O.mv (O.len U22 s0_1 (hr.keep e_1) (O.lssI s3_1 rfl (K6 (C.condD rfl (λc7=>?_) (λc7=>?_))))))
 ·
  have hk2:k<l.length:=by omega
  have hEr:=((he.keep e_1)).at (k:=k) (by have q9:=((he.keep e_1)).1;omega);obtain ⟨hk9r,r,x,hrr,hxr,hkxr,hca⟩:=hEr;have hmxr:x∈l:=by rw[hxr];exact List.getElem_mem _
  have hbr:=hB x hmxr;refine C.skip (K5 (C.sq λK7=>C.bl λK8=>C.sr λK9=>O.mv (O.mv (O.idx U22 Z50 rfl s0_1 (hr.keep e_1) s3_1 (by omega) (λa12 h12=>O.ft U50 rfl Z9 rfl (O.loadAtF (G:=entF) isAgg9 rfl rfl h12 (O.cast (v':=str r.1) (by rw[hrr];rfl) (O.call call60 (args1 rfl) (okKey_spec r.1 _ (by rw[hkxr];exact hbr.1)) ?_))))))));rintro v_15 w2 ⟨rfl,e2⟩;have z2:=e2.size;refine O.not rfl (O.mv (O.split (x:=.tmp 17) rfl (λc17=>?_) (λc17=>?_)))
  ·
   refine O.no rfl (noB (isT' rfl c17) rfl) (O.no rfl (noB (isT' rfl c17) rfl) (O.no rfl (noB (isT' rfl c17) rfl) (O.no rfl (noB (isT' rfl c17) rfl) (O.no rfl (noB (isT' rfl c17) rfl) (O.no rfl (noB (isT' rfl c17) rfl) (O.no rfl (noB (isT' rfl c17) rfl) (O.pickT (isT' rfl c17) (K9 (C.condT rfl (C.sr λK10=>O.asg (K10 (C.ret (Outs.one rfl rfl ?_)))))))))))));exact ⟨congrArg Value.bool (Bt.ordered_no1 hk2 (by rw[←hxr];exact Bt.okE_no1 (by rw[←hkxr];simpa using c17))).symm,(Ext.trans e_1 e2)⟩
  refine O.yes rfl (isF' rfl c17) (O.mv (O.yes rfl (isF' rfl c17) (O.mv (O.yes rfl (isF' rfl c17) (O.idx U22 Z50 rfl s0_1 ((hr.keep e_1).keep e2) s3_1 (by omega) (λa20 h20=>O.yes rfl (isF' rfl c17) (O.ft U50 rfl Z47 rfl (O.yes rfl (isF' rfl c17) (O.loadPart (G:=entF) isAgg47 Z47 (by decide) rfl h20 (O.cast (v':=.agg #[slv r.2.1.1,slv r.2.1.2,slv r.2.2]) (by rw[hrr];rfl) (O.yes rfl (isF' rfl c17) ?_)))))))))));refine O.call call61 (args1 rfl) (cartValid_spec (slv r.2.1.1) (slv r.2.1.2) (slv r.2.2) x.2 F _ ((hca.keep e2)).1 ((hca.keep e2)).2.1 ((hca.keep e2)).2.2 (λj hj=>by have q1:=hF j hj;omega) hbr.2.2.2.1 hbr.2.2.2.2 ((mx.keep e_1).keep e2)) ?_;rintro v_23 w3 ⟨rfl,e3⟩;have z3:=e3.size;refine O.yes rfl (isF' rfl c17) (O.not rfl (O.pickF (isF' rfl c17) (K9 (C.cond rfl (λc25=>?_) (λc25=>?_)))))
  ·
   refine C.sr λK11=>O.asg (K11 (C.ret (Outs.one rfl rfl ?_)))
   first
   |exact ⟨congrArg Value.bool (Bt.ordered_no1 hk2 (by rw[←hxr];exact Bt.okE_no1 (by rw[←hkxr];simpa using c17))).symm,(Ext.trans (Ext.trans e_1 e2) e3)⟩
   |exact ⟨congrArg Value.bool (Bt.ordered_no1 hk2 (by rw[←hxr];exact Bt.okE_no2 (by simpa using c25))).symm,(Ext.trans (Ext.trans e_1 e2) e3)⟩
  refine C.skip (K8 (K7 (C.region (O.mv (O.ad s3_1 rfl (O.asg (O.nil (⟨k+1,⟨rfl,s0_1,(Ext.trans (Ext.trans e_1 e2) e3),?_⟩,by first|omega|(simp only[];omega)⟩))))))));refine ⟨by omega,λi hi hik=>?_⟩;rcases Nat.lt_or_eq_of_le (Nat.le_of_lt_succ hik) with h|rfl
  ·exact hI i hi h
  ·rw [←hxr];exact Bt.okE_of (by rw[←hkxr];simpa using c17) (by simpa using c25)
 have hall:∀i,∀h:i<l.length,Bt.okE l[i]=true:=λi hi=>hI i hi (by omega)
 refine C.exit (K4 (K2 (C.sr λK12=>O.mv (O.call call62 (args1 s0_1) (rises_spec v0 raw l F _ (hr.keep e_1) (he.keep e_1)) ?_))));rintro v_27 w4 ⟨rfl,e4⟩;have z4:=e4.size;refine O.asg (K12 (C.ret (Outs.one rfl rfl ?_)))
 first
 |exact ⟨congrArg Value.bool (Bt.ordered_no1 hk2 (by rw[←hxr];exact Bt.okE_no1 (by rw[←hkxr];simpa using c17))).symm,(Ext.trans e_1 e4)⟩
 |exact ⟨congrArg Value.bool (Bt.ordered_no1 hk2 (by rw[←hxr];exact Bt.okE_no2 (by simpa using c25))).symm,(Ext.trans e_1 e4)⟩
 |exact ⟨congrArg Value.bool (Bt.ordered_of hall).symm,(Ext.trans e_1 e4)⟩
theorem lordered21_spec (v0:Value) (raw:List EntR) (l:List EntT) (F:Nat→Prop) (w:World) (hr:Sl entF.enc w F v0 raw) (he:EntL w F raw l) (hF:∀k,F k→k<w.heap.size) (hB:Bt.Big l) (mx:Mx w):
 Ret prog 46 #[v0] w (λv w'=>v=.bool (Bt.ordered l)∧Le w w'):=by
 have hl:=he.1;have hrl:=hr.le;refine enT [v0] 28 func46 rfl rfl (C.sr λK1=>O.asg (K1 (C.sq λK2=>C.sr λK3=>O.asg (K3 (C.bl λK4=>C.loop0 (σ:=Nat) (λf0 w0 k f w=>f 3=.int .i64 ((k:Int))∧f 0=f0 0∧Le w0 w∧k≤l.length∧(∀i,∀h:i<l.length,i<k→Bt.okE l[i]=true)) (λk=>l.length-k) 0 ?_ ?_)))))
 ·
  refine ⟨rfl,rfl,Le.refl _,?_⟩;exact ⟨Nat.zero_le _,λi h k=>absurd k (Nat.not_lt_zero _)⟩
 rintro k f_1 w1 ⟨s3_1,s0_1,e_1,⟨hk,hI⟩⟩;have z_1:=e_1.size;refine C.sq λK5=>C.sr λK6=>O.mv (O.mv (O.len U22 s0_1 (hr.keep e_1) (O.lssI s3_1 rfl (K6 (C.condD rfl (λc7=>?_) (λc7=>?_))))))
 ·
  have hk2:k<l.length:=by omega
  have hEr:=((he.keep e_1)).at (k:=k) (by have q9:=((he.keep e_1)).1;omega);obtain ⟨hk9r,r,x,hrr,hxr,hkxr,hca⟩:=hEr;have hmxr:x∈l:=by rw[hxr];exact List.getElem_mem _
  have hbr:=hB x hmxr;refine C.skip (K5 (C.sq λK7=>C.bl λK8=>C.sr λK9=>O.mv (O.mv (O.idx U22 Z50 rfl s0_1 (hr.keep e_1) s3_1 (by omega) (λa12 h12=>O.ft U50 rfl Z9 rfl (O.loadAtF (G:=entF) isAgg9 rfl rfl h12 (O.cast (v':=str r.1) (by rw[hrr];rfl) (O.call call60 (args1 rfl) (okKey_spec r.1 _ (by rw[hkxr];exact hbr.1)) ?_))))))));rintro v_15 w2 ⟨rfl,e2⟩;have z2:=e2.size;refine O.not rfl (O.mv (O.split (x:=.tmp 17) rfl (λc17=>?_) (λc17=>?_)))
  ·
   refine O.no rfl (noB (isT' rfl c17) rfl) (O.no rfl (noB (isT' rfl c17) rfl) (O.no rfl (noB (isT' rfl c17) rfl) (O.no rfl (noB (isT' rfl c17) rfl) (O.no rfl (noB (isT' rfl c17) rfl) (O.no rfl (noB (isT' rfl c17) rfl) (O.no rfl (noB (isT' rfl c17) rfl) (O.pickT (isT' rfl c17) (K9 (C.condT rfl (C.sr λK10=>O.asg (K10 (C.ret (Outs.one rfl rfl ?_)))))))))))));exact ⟨congrArg Value.bool (Bt.ordered_no1 hk2 (by rw[←hxr];exact Bt.okE_no1 (by rw[←hkxr];simpa using c17))).symm,(Ext.trans e_1 e2)⟩
  refine O.yes rfl (isF' rfl c17) (O.mv (O.yes rfl (isF' rfl c17) (O.mv (O.yes rfl (isF' rfl c17) (O.idx U22 Z50 rfl s0_1 ((hr.keep e_1).keep e2) s3_1 (by omega) (λa20 h20=>O.yes rfl (isF' rfl c17) (O.ft U50 rfl Z47 rfl (O.yes rfl (isF' rfl c17) (O.loadPart (G:=entF) isAgg47 Z47 (by decide) rfl h20 (O.cast (v':=.agg #[slv r.2.1.1,slv r.2.1.2,slv r.2.2]) (by rw[hrr];rfl) (O.yes rfl (isF' rfl c17) ?_)))))))))));refine O.call call61 (args1 rfl) (cartValid_spec (slv r.2.1.1) (slv r.2.1.2) (slv r.2.2) x.2 F _ ((hca.keep e2)).1 ((hca.keep e2)).2.1 ((hca.keep e2)).2.2 (λj hj=>by have q1:=hF j hj;omega) hbr.2.2.2.1 hbr.2.2.2.2 ((mx.keep e_1).keep e2)) ?_;rintro v_23 w3 ⟨rfl,e3⟩;have z3:=e3.size;refine O.yes rfl (isF' rfl c17) (O.not rfl (O.pickF (isF' rfl c17) (K9 (C.cond rfl (λc25=>?_) (λc25=>?_)))))
  ·
   refine C.sr λK11=>O.asg (K11 (C.ret (Outs.one rfl rfl ?_)))
   first
   |exact ⟨congrArg Value.bool (Bt.ordered_no1 hk2 (by rw[←hxr];exact Bt.okE_no1 (by rw[←hkxr];simpa using c17))).symm,(Ext.trans (Ext.trans e_1 e2) e3)⟩
   |exact ⟨congrArg Value.bool (Bt.ordered_no1 hk2 (by rw[←hxr];exact Bt.okE_no2 (by simpa using c25))).symm,(Ext.trans (Ext.trans e_1 e2) e3)⟩
  refine C.skip (K8 (K7 (C.region (O.mv (O.ad s3_1 rfl (O.asg (O.nil (⟨k+1,⟨rfl,s0_1,(Ext.trans (Ext.trans e_1 e2) e3),?_⟩,by first|omega|(simp only[];omega)⟩))))))));refine ⟨by omega,λi hi hik=>?_⟩;rcases Nat.lt_or_eq_of_le (Nat.le_of_lt_succ hik) with h|rfl
  ·exact hI i hi h
  ·rw [←hxr];exact Bt.okE_of (by rw[←hkxr];simpa using c17) (by simpa using c25)
 have hall:∀i,∀h:i<l.length,Bt.okE l[i]=true:=λi hi=>hI i hi (by omega)
 refine C.exit (K4 (K2 (C.sr λK12=>O.mv (O.call call62 (args1 s0_1) (rises_spec v0 raw l F _ (hr.keep e_1) (he.keep e_1)) ?_))));rintro v_27 w4 ⟨rfl,e4⟩;have z4:=e4.size;refine O.asg (K12 (C.ret (Outs.one rfl rfl ?_)))
 first
 |exact ⟨congrArg Value.bool (Bt.ordered_no1 hk2 (by rw[←hxr];exact Bt.okE_no1 (by rw[←hkxr];simpa using c17))).symm,(Ext.trans e_1 e4)⟩
 |exact ⟨congrArg Value.bool (Bt.ordered_no1 hk2 (by rw[←hxr];exact Bt.okE_no2 (by simpa using c25))).symm,(Ext.trans e_1 e4)⟩
 |exact ⟨congrArg Value.bool (Bt.ordered_of hall).symm,(Ext.trans e_1 e4)⟩
theorem smallL_spec (v0:Value) (raw:List EntR) (l:List EntT) (F:Nat→Prop) (most:Int) (w:World) (hr:Sl entF.enc w F v0 raw) (he:EntL w F raw l):
 Ret prog 15 #[v0,.int .i64 (most)] w (λv w'=>v=.bool (Bt.small l most)∧Le w w'):=by
 have hl:=he.1;have hrl:=hr.le;refine enT [v0,.int .i64 (most)] 37 func15 rfl rfl (C.sr λK1=>O.asg (K1 (C.sq λK2=>C.sr λK3=>O.asg (K3 (C.bl λK4=>C.loop0 (σ:=Nat) (λf0 w0 k f w=>f 5=.int .i64 ((k:Int))∧f 0=f0 0∧f 1=f0 1∧Le w0 w∧k≤l.length∧(∀i,∀h:i<l.length,i<k→Bt.smallE l[i]=true)) (λk=>l.length-k) 0 ?_ ?_)))))
 ·
  refine ⟨rfl,rfl,rfl,Le.refl _,?_⟩;exact ⟨Nat.zero_le _,λi h k=>absurd k (Nat.not_lt_zero _)⟩
 rintro k f_1 w1 ⟨s5_1,s0_1,s1_1,e_1,⟨hk,hI⟩⟩;have z_1:=e_1.size;refine C.sq λK5=>C.sr λK6=>O.mv (O.mv (O.len U22 s0_1 (hr.keep e_1) (O.lssI s5_1 rfl (O.mv (O.cut 4 (λf f'=>f' 14=.bool (decide ((k:Int)<(raw.length:Int)∧(k:Int)<most))∧f' 0=f 0∧f' 1=f 1∧f' 5=f 5) ?_ ?_)))))
 ·
  refine O.splitD (x:=.tmp 10) rfl (λc10=>?_) (λc10=>?_)
  ·
   refine O.yes rfl (isT rfl c10) (O.mv (O.yes rfl (isT rfl c10) (O.mv (O.yes rfl (isT rfl c10) (O.lssI s5_1 s1_1 (O.pickT (isT rfl c10) (O.nil (⟨⟨?_,rfl,rfl,rfl⟩,rfl⟩))))))));exact dJ rfl
  refine O.no rfl (noB (isF rfl c10) rfl) (O.no rfl (noB (isF rfl c10) rfl) (O.no rfl (noB (isF rfl c10) rfl) (O.pickF (isF rfl c10) (O.nil (⟨⟨?_,rfl,rfl,rfl⟩,rfl⟩)))));exact dJ rfl
 rintro f_2 ⟨s14_2,s0_2,s1_2,s5_2⟩;refine K6 (C.condD s14_2 (λc14=>?_) (λc14=>?_))
 ·
  have hk2:k<l.length:=by omega
  have hEr:=((he.keep e_1)).at (k:=k) (by have q9:=((he.keep e_1)).1;omega);obtain ⟨hk9r,r,x,hrr,hxr,hkxr,hca⟩:=hEr;refine C.skip (K5 (C.sq λK7=>C.bl λK8=>C.sr λK9=>O.mv (O.mv (O.idx U22 Z50 rfl (Eq.trans s0_2 s0_1) (hr.keep e_1) (Eq.trans s5_2 s5_1) (by omega) (λa19 h19=>O.ft U50 rfl Z9 rfl (O.loadAtF (G:=entF) isAgg9 rfl rfl h19 (O.cast (v':=str r.1) (by rw[hrr];rfl) (O.lenS U9 rfl (O.gtrI rfl rfl (O.mv (O.splitD (x:=.tmp 24) rfl (λc24=>?_) (λc24=>?_))))))))))))
  ·
   refine O.no rfl (noB (isT rfl c24) rfl) (O.no rfl (noB (isT rfl c24) rfl) (O.no rfl (noB (isT rfl c24) rfl) (O.no rfl (noB (isT rfl c24) rfl) (O.no rfl (noB (isT rfl c24) rfl) (O.no rfl (noB (isT rfl c24) rfl) (O.no rfl (noB (isT rfl c24) rfl) (O.pickT (isT rfl c24) (K9 (C.condT rfl (C.sr λK10=>O.asg (K10 (C.ret (Outs.one rfl rfl ?_)))))))))))));exact ⟨congrArg Value.bool (Bt.small_no hk2 (by rw[←hxr];exact Bt.smallE_no1 (by rw[←hkxr];omega))).symm,e_1⟩
  refine O.yes rfl (isF rfl c24) (O.mv (O.yes rfl (isF rfl c24) (O.mv (O.yes rfl (isF rfl c24) (O.idx U22 Z50 rfl (Eq.trans s0_2 s0_1) (hr.keep e_1) (Eq.trans s5_2 s5_1) (by omega) (λa27 h27=>O.yes rfl (isF rfl c24) (O.ft U50 rfl Z47 rfl (O.yes rfl (isF rfl c24) (O.loadPart (G:=entF) isAgg47 Z47 (by decide) rfl h27 (O.cast (v':=.agg #[slv r.2.1.1,slv r.2.1.2,slv r.2.2]) (by rw[hrr];rfl) (O.yes rfl (isF rfl c24) (O.call call38 (args1 rfl) (small_spec (slv r.2.1.1) (slv r.2.1.2) (slv r.2.2) x.2 F _ (hca).1 (hca).2.1 (hca).2.2) ?_))))))))))));rintro v_30 w2 ⟨rfl,e2⟩;have z2:=e2.size;refine O.yes rfl (isF rfl c24) (O.not rfl (O.pickF (isF rfl c24) (K9 (C.cond rfl (λc32=>?_) (λc32=>?_)))))
  ·
   refine C.sr λK11=>O.asg (K11 (C.ret (Outs.one rfl rfl ?_)))
   first
   |exact ⟨congrArg Value.bool (Bt.small_no hk2 (by rw[←hxr];exact Bt.smallE_no1 (by rw[←hkxr];omega))).symm,(Ext.trans e_1 e2)⟩
   |exact ⟨congrArg Value.bool (Bt.small_no hk2 (by rw[←hxr];exact Bt.smallE_no2 (by simpa using c32))).symm,(Ext.trans e_1 e2)⟩
  refine C.skip (K8 (K7 (C.region (O.mv (O.ad (Eq.trans s5_2 s5_1) rfl (O.asg (O.nil (⟨k+1,⟨rfl,(Eq.trans s0_2 s0_1),(Eq.trans s1_2 s1_1),(Ext.trans e_1 e2),?_⟩,by first|omega|(simp only[];omega)⟩))))))));refine ⟨by omega,λi hi hik=>?_⟩;rcases Nat.lt_or_eq_of_le (Nat.le_of_lt_succ hik) with h|rfl
  ·exact hI i hi h
  ·rw [←hxr];exact Bt.smallE_of (by rw[←hkxr];omega) (by simpa using c32)
 refine C.exit (K4 (K2 (C.sr λK12=>O.mv (O.len U22 (Eq.trans s0_2 s0_1) (hr.keep e_1) (O.mv (O.leqI rfl (Eq.trans s1_2 s1_1) (O.asg (K12 (C.ret (Outs.one rfl rfl ?_))))))))))
 first
 |exact ⟨congrArg Value.bool (Bt.small_no hk2 (by rw[←hxr];exact Bt.smallE_no1 (by rw[←hkxr];omega))).symm,e_1⟩
 |exact ⟨congrArg Value.bool (Bt.small_no hk2 (by rw[←hxr];exact Bt.smallE_no2 (by simpa using c32))).symm,e_1⟩
 |exact ⟨congrArg Value.bool (Bt.small_end (by omega) (λh i hi=>hI i hi (by omega)) trivial),e_1⟩
end Go.Proofs.YtpbcafkcfobngaaGreatDoor
