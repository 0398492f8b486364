/-
 The walks of joins: contexts made compact; two in one. Conditions: slices as they lie in memory.
-/
import Derived.Test.YtpbcafkcfobngaaGreatDoorRows
import Derived.Shelf.Small.Utf8
import Derived.Shelf.Small.Strs
import Derived.Test.YtpbcafkcfobngaaGreatDoorProg
import Derived.Test.YtpbcafkcfobngaaGreatDoorOutboxM4
set_option maxHeartbeats 16000000
section
namespace Go.Proofs.YtpbcafkcfobngaaGreatDoor
open Go.Pn Go.RowKit Go.Proofs _root_.Go.Proofs.Tryz
attribute [local irreducible] O C D
theorem cloneV_spec (v0:Value)(l:List Dt.Dot)(F:Nat->Prop)(w:World)(hl:Sl Dt.dotF.enc w F v0 l)(hn:l.length<=1000000000000):
 Ret prog 122 #[v0] w (λv w'=>Le w w'∧OwnF Dt.dotF 112 w.heap.size w' v l):=by
 have hle:=hl.le;obtain ⟨ie112,ti112,ts112,tb112,tz112⟩:=inf112;refine enT [v0] 8 func122 rfl rfl (C.sr λK1=>O.j (K1 (C.sq λK2=>C.sr λK3=>O.mv (O.eqlNilS U42 rfl hl (K3 (C.cond rfl (λc4=>?_) (λc4=>?_)))))))
 ·
  refine C.sr λK4=>O.j (K4 (C.ret (Outs.one rfl rfl ?_)))
  (obtain rfl:=isNilS_nil hl c4
   exact ⟨leR,OwnF.nil _ _ _ _⟩)
 refine C.skip (K2 (C.sr λK5=>O.lit0 U42 ti112 (λb5 w1 hb5 hz5 e1=>?_)));have z1:=e1.size;have hl5:=hz5.own.lt;have h1005:OwnF Dt.dotF 112 w.heap.size w1 _ []:=OwnF.lit0 hz5 hb5;refine O.mv (O.appF (G:=Dt.dotF) U42 ti112 tz112 ts112 rfl rfl rfl h1005 (hl.L e1) (by rw[tb112];simp;omega) (by unfold maxLen;simp;omega) (by omega) (λv7 w2 h7 e2=>?_));have z2:=e2.size;have h7s:=h7.sl;refine O.j (K5 (C.ret (Outs.one rfl rfl ?_)))
 first
 |(obtain rfl:=isNilS_nil hl c4
   exact ⟨(Ext.new e1 e2 (by intro i hi h;have:=h1005.bk_ge i h;omega)),OwnF.nil _ _ _ _⟩)
 |exact ⟨(Ext.new e1 e2 (by intro i hi h;have:=h1005.bk_ge i h;omega)),h7⟩
theorem ccompact_spec (v1 v2:Value)(x:Cn.Ctx)(F:Nat->Prop)(w:World)(hv:Sl Dt.dotF.enc w F v1 x.1)(hc:Sl Dt.dotF.enc w F v2 x.2)(hx:Cn.ctxValid x=true)(hn:x.1.length<=200000)(hm:x.2.length<=200000):
 Ret prog 113 #[.agg #[v1,v2]] w (λv w'=>Le w w'∧∃u1 u2:Value,v=.tuple #[.agg #[u1,u2],.int .i64 0]∧Fre Dt.dotF 112 w' (λj=>w.heap.size<=j∧j<w'.heap.size) u1 (Jn.ccompact x).1∧Fre Dt.dotF 112 w' (λj=>w.heap.size<=j∧j<w'.heap.size) u2 (Jn.ccompact x).2):=by
 have hvl:=hv.le;have hcl:=hc.le;have hox:=Jn.okx_iff.1 hx;obtain ⟨ie112,ti112,ts112,tb112,tz112⟩:=inf112;refine enT [.agg #[v1,v2]] 56 func113 rfl rfl (C.sr λK1=>O.box (v:=.agg #[v1,v2]) rfl (λb1 w1 hb1 hz1 e1=>?_));have z1:=e1.size;have h1:=hz1.own;have hl1:=h1.lt;refine O.alloc zeroValue44 (λb2 w2 hb2 hz2 e2=>?_);have z2:=e2.size;have h2:=hz2.own;have hl2:=h2.lt;refine O.j (K1 (C.sq λK2=>C.sr λK3=>O.loadOA isAgg44 Z44 rfl (h1.L e2) (leB rfl) (O.call call111 (args1 rfl) (ctxValid_spec v1 v2 x F _ ((hv.L e1).L e2) ((hc.L e1).L e2)) ?_)));rintro v_9 w3 ⟨rfl,e3⟩;have z3:=e3.size;refine O.cast (v':=.bool true) (cB (by exact hx)) (O.not rfl (O.cast (v':=.bool false) rfl (K3 (C.condF rfl (C.skip (K2 (C.sr λK4=>O.fa U44 rfl Z42 rfl (O.loadO isAgg42 rfl ((h1.L e2).L e3) rfl (O.call call122 (args1 rfl) (cloneV_spec _ _ _ _ (((hv.L e1).L e2).L e3) (by omega)) ?_)))))))));rintro v_14 w4 ⟨e4,h14⟩;have z4:=e4.size;have h14b:=h14.bk_ge;obtain ⟨s14,rfl⟩:=h14.sl.slv;refine O.build (cells:=#[slv s14,.slice none 0 0]) rfl (by kernel_rfl) (O.alloc zeroValue44 (λb4 w5 hb4 hz4 e5=>?_));have z5:=e5.size;have h4:=hz4.own;have hl4:=h4.lt;refine O.storeA (vs:=[slv s14,.slice none 0 0]) Z44 rfl rfl rfl (by intro u hu;simp only[List.mem_cons,List.not_mem_nil,or_false] at hu;rcases hu with rfl|rfl<;>rfl) h4 (leB rfl) (λw6 hs6 e6 z6=>K4 (C.sq λK5=>C.sr λK6=>O.fa U44 rfl Z41 rfl (O.loadO isAgg41 rfl (((((h1.L e2).L e3).L e4).L e5).kO e6) rfl ?_)));have t0:=Ext.T (Ext.T e1 e2) e3;have t1:=Ext.T (Ext.T t0 e4) e5;refine O.len U41 rfl (hc.L (Ext.nr t1 e6)) (O.mv (K6 (C.bl λK7=>C.loop0 (σ:=Nat×Value×Value×Nat) (λf0 w0 ⟨k,o1,o2,gl⟩ f wz=>f 19=.int .i64 (k)∧f 2=f0 2∧f 3=f0 3∧f 4=f0 4∧f 17=f0 17∧f 18=f0 18∧Le w wz∧Own wz b2 44 [.slice none 0 0,.slice none 0 0]∧Own wz b4 44 [o1,o2]∧OwnF Dt.dotF 112 w.heap.size wz o1 ((x.2.take k).foldl Jn.cstep (x.1,[])).1∧OG Dt.dotF 112 wz o2 gl ((x.2.take k).foldl Jn.cstep (x.1,[])).2∧k<=x.2.length∧(∀j,bk o2 j->b4<j)∧(∀j,bk o1 j->j≠b4∧j≠b2∧¬bk o2 j)∧gl≠b4∧gl≠b2) (λ⟨k,o1,o2,gl⟩=>x.2.length-k) (0,slv s14,.slice none 0 0,b1) ?_ ?_)))
 ·
  refine ⟨rfl,rfl,rfl,rfl,rfl,rfl,(Ext.nr t1 e6),((((h2.L e3).L e4).L e5).kO e6),hs6,((((h14.L e5).kM e6 (by intro j hj h;have:=h14b j hj;have h0:j=b4:=h;omega))).low (by omega)),(OG.nil (by omega)),?_⟩;exact ⟨Nat.zero_le _,λ_ h=>h.elim,λj hj=>by have:=h14b j hj;exact ⟨by omega,by omega,λh=>h.elim⟩,by omega,by omega⟩
 rintro ⟨k,o1,o2,gl⟩ f_1 w7 ⟨s19_1,s2_1,s3_1,s4_1,s17_1,s18_1,e_1,r0_1,r1_1,r2_1,r3_1,⟨hk,hob2,hdis,hgl2,hgl3⟩⟩;have z_1:=e_1.size;have hcp:=Jn.cpre_ok hox k;have hpd:=Jn.cfold_dots (x.2.take k) (x.1,[]);rw[List.length_take] at hpd;simp only[List.length_nil] at hpd;have hl4:=(r1_1).lt;have hf1b:=(r2_1).bk_ge;have hogb:=(r3_1).1.bk_ge;have hgl:=(r3_1).2.2;refine C.sr λK8=>O.lssI s19_1 s18_1 (K8 (C.sq λK9=>C.condD rfl (λc20=>?_) (λc20=>?_)))
 ·
  have hk2:k<x.2.length:=by omega
  refine C.skip (K9 (C.sq λK10=>C.bl λK11=>C.sr λK12=>O.idx U41 Z112 rfl s17_1 (hc.L e_1) s19_1 (by omega) (λa21 h21=>O.loadG (G:=Dt.dotF) isAgg112 Z112 rfl h21 ?_)));obtain ⟨d,hd⟩:∃d:Dt.Dot,d=x.2[k]:=⟨_,rfl⟩
  have hdv:Dt.Valid d:=by rw[hd];exact hox.va _ (List.getElem_mem _)
  refine O.cast (v':=Dt.dv d) (by rw[hd];rfl) (O.alloc zeroValue112 (λb6 w8 hb6 hz6 e8=>?_));have z8:=e8.size;have h6:=hz6.own;have hl6:=h6.lt;refine O.storeA (vs:=[.int .i64 d.1,.int .i64 d.2]) Z112 rfl rfl rfl (by simp[Value.oneCell']) h6 (leB rfl) (λw9 hs9 e9 z9=>K12 (C.sr λK13=>O.fa U44 rfl Z42 s4_1 ?_));have t2:=(r1_1.L e8).kO e9;refine O.loadO isAgg42 rfl t2 rfl (O.fa U112 rfl Z3 rfl (O.loadO isAgg3 rfl hs9 rfl (O.call call145 (args2 rfl rfl) (get_spec _ ((x.2.take k).foldl Jn.cstep (x.1,[])).1 _ d.1 _ (((r2_1.L e8).kM e9 (by intro j hj h;have:=hf1b j hj;have h0:j=b6:=h;omega))).sl) ?_)));rintro v_27 w10 ⟨rfl,e10⟩;have z10:=e10.size;have hg1:=Jn.get_le hcp.ok d.1;have hg0:=Vc.get_ge hcp.ok d.1;have hdw:=hdv;unfold Dt.Valid at hdw;refine O.j (K13 (C.bl λK14=>C.sr λK15=>O.fa U112 rfl Z3 rfl (O.loadO isAgg3 rfl (hs9.L e10) rfl (O.mv (O.ad rfl rfl (O.gtrI rfl rfl (O.j (K15 (C.condD rfl (λc28=>?_) (λc28=>?_))))))))))
  ·
   refine C.region (O.fa U44 rfl Z41 s4_1 (O.loadO isAgg41 rfl (t2.L e10) rfl (O.loadOA isAgg112 Z112 rfl (hs9.L e10) (leB rfl) (O.litG (G:=Dt.dotF) [d] U41 ti112 ts112 tz112 rfl (by decide) (by decide) rfl (λb37 w11 hb37 hz37 e11=>?_)))));have z11:=e11.size;have h37:=hz37.own;have hq37:=Sl.litG (n:=1) h37 rfl (by unfold maxLen;omega);have t3:=((r3_1.L e8).keepA e9).L e10;refine O.appG (G:=Dt.dotF) U41 ti112 tz112 ts112 rfl rfl rfl (t3.L e11) hq37 (by rw[tb112];simp;omega) (by unfold maxLen;simp;omega) (λv38 gg38 w12 h38 hg38 e12 hw38=>?_);have e12m:=e12.mono (M':=λk=>k=_) (λk _ hk=>(t3.L e11).2.1 k hk);have z12:=e12.size;have hgl38:=h38.2.2;have hob38:∀k,bk v38 k->b4<k:=λk hk=>by
    rcases hw38 k hk with q|q
    ·exact hob2 k q
    ·omega
   have hg38:b4<gg38:=hob38 _ (h38.bk (by simp));refine O.fa U44 rfl Z41 s4_1 (O.store Z41 rfl rfl h38.1.one (((t2.L e10).L e11).kM e12 (λh=>by have:=hob2 _ h;omega)) (by simp) (λw13 hs13 e13 z13=>?_))
   try simp only[Nat.zero_add] at hs13
   refine O.o (K14 (K11 (K10 (C.region (O.ad s19_1 rfl (O.mv (O.o ?_)))))));refine ⟨(k+1,_,_,_),⟨rfl,s2_1,s3_1,s4_1,s17_1,s18_1,(Ext.nr (Ext.new (Ext.T (Ext.T (Ext.nr (Ext.T e_1 e8) e9) e10) e11) e12 (by intro i hi h;have:=hob2 i h;omega)) e13),((((((r0_1.L e8).kO e9).L e10).L e11).kM e12 (λh=>by have:=hob2 _ h;omega)).kO e13),hs13,(by
 rw[Jn.cfold_take hk2,<-hd]
 (rw[Jn.cstep_far c28];exact ((((((r2_1.L e8).kM e9 (by intro j hj h;have:=hf1b j hj;have h0:j=b6:=h;omega)).L e10).L e11).kM e12 (λj hj h=>(hdis j hj).2.2 h)).kM e13 (λj hj h=>(hdis j hj).1 h)))),(by
 rw[Jn.cfold_take hk2,<-hd]
 first
 |(rw[Jn.cstep_far c28];exact (h38.kM e13 (by intro j hj h;have h0:j=b4:=h;have h9:j=_:=hj;omega)))
 |(rw[Jn.cstep_next c28 c40];exact (h38.kM e13 (by intro j hj h;have h0:j=b4:=h;have h9:j=_:=hj;omega)))
 |(rw[Jn.cstep_near c28 c40];exact (h38.kM e13 (by intro j hj h;have h0:j=b4:=h;have h9:j=_:=hj;omega)))),?_⟩,by first|omega|(simp only[];omega)⟩
   first
   |exact ⟨by omega,hob2,hdis,hgl2,hgl3⟩
   |(refine ⟨by omega,hob38,λj hj=>⟨(hdis j hj).1,(hdis j hj).2.1,λh=>?_⟩,by omega,by omega⟩
     rcases hw38 j h with q|q
     ·exact (hdis j hj).2.2 q
     ·have:=hf1b j hj
      omega)
  refine C.sr λK16=>O.fa U112 rfl Z3 rfl (O.loadO isAgg3 rfl (hs9.L e10) rfl (O.mv (O.ad rfl rfl (O.eqlI rfl rfl (O.j (K16 (C.condD rfl (λc40=>?_) (λc40=>?_))))))))
  ·
   refine C.region (O.fa U44 rfl Z42 s4_1 ?_);have t4:=((r1_1.L e8).kO e9).L e10;refine O.loadO isAgg42 rfl t4 rfl (O.loadOA isAgg112 Z112 rfl (hs9.L e10) (leB rfl) ?_);have t5:=(r2_1.L e8).kM e9 (by intro j hj h;have:=hf1b j hj;have h0:j=b6:=h;omega);refine O.call call173 (args2 rfl rfl) (vraise_spec _ ((x.2.take k).foldl Jn.cstep (x.1,[])).1 _ d _ ((t5.L e10)).sl (λj hj=>by have:=((t5.L e10)).bk_ge j hj;omega) (by omega)) ?_;rintro v_50 w14 ⟨e14,uv50,rfl,h50⟩;have z14:=e14.size;have hvv:(Cn.vecValid ((x.2.take k).foldl Jn.cstep (x.1,[])).1&&Cn.vecValid [d])=true:=by rw[Vc.ok_iff.2 hcp.ok,Vc.ok_iff.2 (Jn.ok_one hdv)];rfl
   rw[hvv,if_pos rfl] at h50;have h50b:=h50.bk_ge;refine O.mv (O.extract rfl rfl (O.extract rfl rfl (O.fa U44 rfl Z42 s4_1 (O.store Z42 rfl rfl h50.one (t4.L e14) (by simp) (λw15 hs15 e15 z15=>?_)))))
   try simp only[Nat.zero_add] at hs15
   refine O.o (K14 (K11 (K10 (C.region (O.ad s19_1 rfl (O.mv (O.o ?_)))))));refine ⟨(k+1,_,_,_),⟨rfl,s2_1,s3_1,s4_1,s17_1,s18_1,(Ext.nr (Ext.T (Ext.T (Ext.nr (Ext.T e_1 e8) e9) e10) e14) e15),(((((r0_1.L e8).kO e9).L e10).L e14).kO e15),hs15,(by
 rw[Jn.cfold_take hk2,<-hd]
 first
 |(rw[Jn.cstep_far c28];exact (((((r2_1.L e8).kM e9 (by intro j hj h;have:=hf1b j hj;have h0:j=b6:=h;omega)).L e10).L e14).kM e15 (λj hj h=>(hdis j hj).1 h)))
 |(rw[Jn.cstep_next c28 c40];exact ((h50.kM e15 (λj hj h=>by have q:=h50b j hj;have h0:j=b4:=h;omega))).low (by omega))),(by
 rw[Jn.cfold_take hk2,<-hd]
 first
 |(rw[Jn.cstep_far c28];exact (((((r3_1.L e8).keepA e9).L e10).L e14).kM e15 (by intro j hj h;have h0:j=b4:=h;have h9:j=_:=hj;omega)))
 |(rw[Jn.cstep_next c28 c40];exact (((((r3_1.L e8).keepA e9).L e10).L e14).kM e15 (by intro j hj h;have h0:j=b4:=h;have h9:j=_:=hj;omega)))
 |(rw[Jn.cstep_near c28 c40];exact (((((r3_1.L e8).keepA e9).L e10).L e14).kM e15 (by intro j hj h;have h0:j=b4:=h;have h9:j=_:=hj;omega)))),?_⟩,by first|omega|(simp only[];omega)⟩
   first
   |exact ⟨by omega,hob2,hdis,hgl2,hgl3⟩
   |(refine ⟨by omega,hob38,λj hj=>⟨(hdis j hj).1,(hdis j hj).2.1,λh=>?_⟩,by omega,by omega⟩
     rcases hw38 j h with q|q
     ·exact (hdis j hj).2.2 q
     ·have:=hf1b j hj
      omega)
   |(refine ⟨by omega,hob2,λj hj=>?_,hgl2,hgl3⟩
     have q:=h50b j hj;refine ⟨by omega,by omega,λh=>?_⟩;have:=hogb j h
     omega)
  refine C.skip (K14 (K11 (K10 (C.region (O.ad s19_1 rfl (O.mv (O.o ?_)))))));refine ⟨(k+1,_,_,_),⟨rfl,s2_1,s3_1,s4_1,s17_1,s18_1,(Ext.T (Ext.nr (Ext.T e_1 e8) e9) e10),(((r0_1.L e8).kO e9).L e10),(((r1_1.L e8).kO e9).L e10),(by
 rw[Jn.cfold_take hk2,<-hd]
 first
 |(rw[Jn.cstep_far c28];exact (((r2_1.L e8).kM e9 (by intro j hj h;have:=hf1b j hj;have h0:j=b6:=h;omega)).L e10))
 |(rw[Jn.cstep_next c28 c40];exact ({f1n}).low (by omega))
 |(rw[Jn.cstep_near c28 c40];exact (((r2_1.L e8).kM e9 (by intro j hj h;have:=hf1b j hj;have h0:j=b6:=h;omega)).L e10))),(by
 rw[Jn.cfold_take hk2,<-hd]
 first
 |(rw[Jn.cstep_far c28];exact (((r3_1.L e8).keepA e9).L e10))
 |(rw[Jn.cstep_next c28 c40];exact (((r3_1.L e8).keepA e9).L e10))
 |(rw[Jn.cstep_near c28 c40];exact (((r3_1.L e8).keepA e9).L e10))),?_⟩,by first|omega|(simp only[];omega)⟩
  exact ⟨by omega,hob2,hdis,hgl2,hgl3⟩
 refine C.exit (K7 (K5 (C.sr λK17=>O.loadOA isAgg44 Z44 s4_1 r1_1 (leB rfl) (O.storeA (vs:=[o1,o2]) Z44 rfl s2_1 rfl (by intro u hu;simp only[List.mem_cons,List.not_mem_nil,or_false] at hu;rcases hu with rfl|rfl;exact ((r2_1).sl).oneC;exact ((r3_1).1.sl).oneC) r0_1 (leB rfl) (λw16 hs16 e16 z16=>O.j (K17 (C.ret (Outs.cellA2 rfl isAgg44 Z44 s2_1 rfl hs16 rfl ?_))))))));have hk9:k=x.2.length:=by omega
 subst hk9;exact ⟨(Ext.nr e_1 e16),o1,o2,rfl,by have hq:=(r2_1.kM e16 (λj hj h=>(hdis j hj).2.1 h));rw[List.take_length] at hq;exact hq.fre (λj hj=>by have:=hq.bk_ge j hj;(try dsimp only);omega),by have hq:=((r3_1.keepA e16)).1;rw[List.take_length] at hq;exact hq.fre (λj hj=>by have:=hq.bk_ge j hj;have:=hob2 j hj;(try dsimp only);omega)⟩
theorem cunion_spec (va1 va2:Value)(a:Cn.Ctx)(F:Nat->Prop)(vb1 vb2:Value)(b:Cn.Ctx)(F2:Nat->Prop)(w:World)(hav:Sl Dt.dotF.enc w F va1 a.1)(hac:Sl Dt.dotF.enc w F va2 a.2)(hbv:Sl Dt.dotF.enc w F2 vb1 b.1)(hbc:Sl Dt.dotF.enc w F2 vb2 b.2)(hF:∀k,F k->k<w.heap.size)(hF2:∀k,F2 k->k<w.heap.size)(ha:Jn.Okx a)(hb:Jn.Okx b)(hn:a.1.length+b.1.length<=40000)(hm:a.2.length+b.2.length<=40000):
 Ret prog 73 #[.agg #[va1,va2],.agg #[vb1,vb2]] w (λv w'=>Le w w'∧∃u1 u2:Value,v=.tuple #[.agg #[u1,u2],.int .i64 0]∧Fre Dt.dotF 112 w' (λj=>w.heap.size<=j∧j<w'.heap.size) u1 (Jn.cunion a b).1∧Fre Dt.dotF 112 w' (λj=>w.heap.size<=j∧j<w'.heap.size) u2 (Jn.cunion a b).2):=by
 have _hF9:=hF;have _hF8:=hF2;have hdl:=Jn.dunion_len a.2 b.2;have hvl:(Vc.mrg a.1 b.1).length<=a.1.length+b.1.length:=by have:=Vc.of_len (a.1++b.1);rw[List.length_append] at this;exact this
 refine enT [.agg #[va1,va2],.agg #[vb1,vb2]] 35 func73 rfl rfl (C.sr λK1=>O.box (v:=.agg #[va1,va2]) rfl (λb2 w1 hb2 hz2 e1=>?_));have z1:=e1.size;have h2:=hz2.own;have hl2:=h2.lt;refine O.box (v:=.agg #[vb1,vb2]) rfl (λb3 w2 hb3 hz3 e2=>?_);have z2:=e2.size;have h3:=hz3.own;have hl3:=h3.lt;refine O.alloc zeroValue44 (λb4 w3 hb4 hz4 e3=>?_);have z3:=e3.size;have h4:=hz4.own;have hl4:=h4.lt;refine O.j (K1 (C.sq λK2=>C.sr λK3=>?_));have t0:=(h2.L e2).L e3;refine O.loadOA isAgg44 Z44 rfl t0 (leB rfl) ?_;have t1:=((hac.L e1).L e2).L e3;have t2:=((hav.L e1).L e2).L e3;refine O.call call111 (args1 rfl) (ctxValid_spec va1 va2 a F _ t2 t1) ?_;rintro v_9 w4 ⟨rfl,e4⟩;have z4:=e4.size;refine O.cast (v':=.bool true) (cB (by exact Jn.okx_iff.2 ha)) (O.not rfl (O.cast (v':=.bool false) rfl (O.mv (O.yes rfl rfl ?_))));have t3:=(h3.L e3).L e4;refine O.loadOA isAgg44 Z44 rfl t3 (leB rfl) (O.yes rfl rfl ?_);have t4:=((hbc.L e1).L e2).L e3;have t5:=((hbv.L e1).L e2).L e3;refine O.call call111 (args1 rfl) (ctxValid_spec vb1 vb2 b F2 _ (t5.L e4) (t4.L e4)) ?_;rintro v_13 w5 ⟨rfl,e5⟩;have z5:=e5.size;refine O.cast (v':=.bool true) (cB (by exact Jn.okx_iff.2 hb)) (O.yes rfl rfl (O.not rfl (O.cast (v':=.bool false) rfl (O.pickF rfl (K3 (C.condF rfl (C.skip (K2 (C.sr λK4=>O.fa U44 rfl Z42 rfl (O.loadO isAgg42 rfl ((t0.L e4).L e5) rfl (O.fa U44 rfl Z42 rfl (O.loadO isAgg42 rfl (t3.L e5) rfl (O.call call112 (args2 rfl rfl) (vmerge_spec va1 a.1 vb1 b.1 F F2 _ ((t2.L e4).L e5) ((t5.L e4).L e5) (λj hj=>by have q1:=hF j hj;omega) (λj hj=>by have q1:=hF2 j hj;omega) (by omega) (by omega)) ?_)))))))))))));rintro v_22 w6 ⟨e6,uv22,rfl,h22⟩;have z6:=e6.size;have hvv:(Cn.vecValid a.1&&Cn.vecValid b.1)=true:=by rw[Vc.ok_iff.2 ha.ok,Vc.ok_iff.2 hb.ok];rfl
 rw[hvv,if_pos rfl] at h22;have h22s:=h22.sl;obtain ⟨p22,rfl⟩:=h22s.slv;refine O.mv (O.extract rfl rfl (O.extract rfl rfl (O.j (O.j (K4 (C.sr λK5=>O.mv (O.fa U44 rfl Z41 rfl (O.loadO isAgg41 rfl (((t0.L e4).L e5).L e6) rfl (O.fa U44 rfl Z41 rfl (O.loadO isAgg41 rfl ((t3.L e5).L e6) rfl (O.call call114 (args2 rfl rfl) (union_spec va2 a.2 vb2 b.2 F F2 _ (((t1.L e4).L e5).L e6) (((t4.L e4).L e5).L e6) (by omega) (by omega)) ?_)))))))))));rintro v_30 w7 ⟨e7,h30⟩;have z7:=e7.size;have h30s:=h30.sl;obtain ⟨p30,rfl⟩:=h30s.slv;refine O.build (cells:=#[slv p22,slv p30]) rfl (by kernel_rfl) (O.call call113 (args1 rfl) (ccompact_spec (slv p22) (slv p30) (Vc.mrg a.1 b.1,Jn.dunion a.2 b.2) (λ_=>True) _ (((h22s.L e7)).weak (λ_ _=>trivial)) ((h30s).weak (λ_ _=>trivial)) (Jn.okx_iff.2 (Jn.okx_union ha hb)) (by dsimp only;omega) (by dsimp only;omega)) ?_);rintro v_32 w8 ⟨e8,uav32,ubv32,rfl,hxv32,hyv32⟩;have z8:=e8.size;refine O.extract rfl rfl (O.extract rfl rfl (O.storeA (vs:=[uav32,ubv32]) Z44 rfl rfl rfl (by intro u hu;simp only[List.mem_cons,List.not_mem_nil,or_false] at hu;rcases hu with rfl|rfl;exact (hxv32.sl).oneC;exact (hyv32.sl).oneC) (((((h4.L e4).L e5).L e6).L e7).L e8) (leB rfl) (λw9 hs9 e9 z9=>O.j (K5 (C.ret (Outs.cellA2 rfl isAgg44 Z44 rfl rfl hs9 rfl ?_))))));exact ⟨(Ext.nr (Ext.T (Ext.T (Ext.T (Ext.T (Ext.T (Ext.T (Ext.T e1 e2) e3) e4) e5) e6) e7) e8) e9),uav32,ubv32,rfl,((hxv32.keepA e9)).weakA,((hyv32.keepA e9)).weakA⟩
theorem join_spec (va1 va2 va3:Value)(a:Cn.Cart)(F:Nat->Prop)(vb1 vb2 vb3:Value)(b:Cn.Cart)(F2:Nat->Prop)(w:World)(hav:Sl Dt.dotF.enc w F va1 a.1.1)(hac:Sl Dt.dotF.enc w F va2 a.1.2)(hai:Sl itemE w F va3 a.2)(hbv:Sl Dt.dotF.enc w F2 vb1 b.1.1)(hbc:Sl Dt.dotF.enc w F2 vb2 b.1.2)(hbi:Sl itemE w F2 vb3 b.2)(hF:∀k,F k->k<w.heap.size)(hF2:∀k,F2 k->k<w.heap.size)(ga:Jn.GoodC a)(gb:Jn.GoodC b)(han:a.2.length<=200000)(hbn:b.2.length<=200000)(haT:∀x∈a.2,x.1.length<=1000000∧x.2.length<=1000000)(hbT:∀x∈b.2,x.1.length<=1000000∧x.2.length<=1000000)(hvx:a.1.1.length+b.1.1.length<=40000)(hcx:a.1.2.length+b.1.2.length<=40000)(mx:Mx w):
 Ret prog 33 #[.agg #[va1,va2,va3],.agg #[vb1,vb2,vb3]] w (λv w'=>Le w w'∧∃u1 u2 u3:Value,v=.tuple #[.agg #[u1,u2,u3],.int .i64 0]∧Fre Dt.dotF 112 w' (λj=>w.heap.size<=j∧j<w'.heap.size) u1 (Jn.join a b).1.1∧Fre Dt.dotF 112 w' (λj=>w.heap.size<=j∧j<w'.heap.size) u2 (Jn.join a b).1.2∧SlI 117 114 w' (λj=>w.heap.size<=j∧j<w'.heap.size) u3 (Jn.join a b).2):=by
 have hva:=Jn.good_iff.2 ga;have hvb:=Jn.good_iff.2 gb;have _hF9:=hF;have _hF8:=hF2;obtain ⟨ie9,ti9,ts9,tb9,tz9⟩:=inf9;obtain ⟨ie117,ti117,ts117,tb117,tz117⟩:=inf117;refine enT [.agg #[va1,va2,va3],.agg #[vb1,vb2,vb3]] 59 func33 rfl rfl (C.sr λK1=>O.box (v:=.agg #[va1,va2,va3]) rfl (λb2 w1 hb2 hz2 e1=>?_));have z1:=e1.size;have h2:=hz2.own;have hl2:=h2.lt;refine O.box (v:=.agg #[vb1,vb2,vb3]) rfl (λb3 w2 hb3 hz3 e2=>?_);have z2:=e2.size;have h3:=hz3.own;have hl3:=h3.lt;refine O.alloc zeroValue47 (λb4 w3 hb4 hz4 e3=>?_);have z3:=e3.size;have h4:=hz4.own;have hl4:=h4.lt;refine O.j (K1 (C.sq λK2=>C.sr λK3=>?_));have t0:=(h2.L e2).L e3;refine O.loadOA isAgg47 Z47 rfl t0 (leB rfl) ?_;have t1:=(mx.L e1).L e2;have t2:=((hac.L e1).L e2).L e3;have t3:=((hai.L e1).L e2).L e3;have t4:=((hav.L e1).L e2).L e3;refine O.call call61 (args1 rfl) (cartValid_spec va1 va2 va3 a F _ t4 t2 t3 (λj hj=>by have q1:=hF j hj;omega) (by omega) haT (t1.L e3)) ?_;rintro v_12 w4 ⟨rfl,e4⟩;have z4:=e4.size;refine O.cast (v':=.bool true) (cB (by exact hva)) (O.not rfl (O.cast (v':=.bool false) rfl (O.mv (O.yes rfl rfl ?_))));have t5:=(h3.L e3).L e4;refine O.loadOA isAgg47 Z47 rfl t5 (leB rfl) (O.yes rfl rfl ?_);have t6:=(t1.L e3).L e4;have t7:=((hbc.L e1).L e2).L e3;have t8:=((hbi.L e1).L e2).L e3;have t9:=((hbv.L e1).L e2).L e3;refine O.call call61 (args1 rfl) (cartValid_spec vb1 vb2 vb3 b F2 _ (t9.L e4) (t7.L e4) (t8.L e4) (λj hj=>by have q1:=hF2 j hj;omega) (by omega) hbT t6) ?_;rintro v_16 w5 ⟨rfl,e5⟩;have z5:=e5.size;refine O.cast (v':=.bool true) (cB (by exact hvb)) (O.yes rfl rfl (O.not rfl (O.cast (v':=.bool false) rfl (O.pickF rfl (K3 (C.condF rfl (C.skip (K2 (C.sd λK4 w6 e6 z6=>?_)))))))));have t10:=(t0.L e4).L e5;refine D.t 0 rfl leR (λ_ hw_ _ hN=>O.loadOA isAgg47 Z47 rfl ((t10.L e6).L hw_) (leB rfl) (O.o hN)) ?_;have t11:=(t5.L e5).L e6;refine D.t 2 rfl leR (λ_ hw_ _ hN=>O.loadOA isAgg47 Z47 rfl (t11.L hw_) (leB rfl) (O.o hN)) (D.on 1 rfl rfl (O.call call70 (args1 rfl) (cnames_spec va1 va2 va3 a F _ (((t4.L e4).L e5).L e6) (((t2.L e4).L e5).L e6) (((t3.L e4).L e5).L e6) (λj hj=>by have q1:=hF j hj;omega) (by omega) haT hva ((t6.L e5).L e6)) ?_));rintro v_21 w7 ⟨e7,h21⟩;have z7:=e7.size;refine O.o ⟨e7,?_⟩;have h21s:=h21.sl;refine D.on 3 rfl rfl (O.call call70 (args1 rfl) (cnames_spec vb1 vb2 vb3 b F2 _ ((((t9.L e4).L e5).L e6).L e7) ((((t7.L e4).L e5).L e6).L e7) ((((t8.L e4).L e5).L e6).L e7) (λj hj=>by have q1:=hF2 j hj;omega) (by omega) hbT hvb (((t6.L e5).L e6).L e7)) ?_);rintro v_23 w8 ⟨e8,h23⟩;have z8:=e8.size;refine O.o ⟨(Ext.T e7 e8),?_⟩;have h23s:=h23.sl;refine D.on 4 rfl rfl (O.appF (G:=strF) U69 ti9 tz9 ts9 rfl rfl rfl (h21.L e8) h23s (by rw[tb9];unfold Jn.namesOf;simp;omega) (by unfold maxLen Jn.namesOf;simp;omega) (by omega) (λv24 w9 h24 e9=>?_));have z9:=e9.size;have h24s:=h24.sl;have t12:=Ext.new (Ext.T e7 e8) e9 (by intro i hi h;have:=(h21.L e8).bk_ge i h;omega);refine O.o ⟨t12,?_⟩;have hb6:=h24.bk_ge;refine D.as 5 rfl t12 (K4 (C.sr λK5=>O.mv (O.call call71 (args2 rfl rfl) (sortS_spec _ _ _ _ h24 (by unfold Jn.namesOf;simp;omega)) ?_)));rintro v_26 w10 ⟨rfl,⟨lv26,hsv26,hpv26,hav26⟩,e10⟩;have z10:=e10.size;have hl26:lv26.length<=400000:=by rw[hpv26.length_eq];unfold Jn.namesOf;simp;omega
 refine K5 (C.sr λK6=>O.alloc zeroValue47 (λb7 w11 hb7 hz7 e11=>?_));have z11:=e11.size;have h7:=hz7.own;have hl7:=h7.lt;refine K6 (C.sr λK7=>O.fa U47 rfl Z44 rfl ?_);have t13:=((t10.L e6).L e7).L e8;have t14:=t13.kM e9 (by intro h;have:=(h21.L e8).bk_ge _ h;omega);have t15:=t14.kM e10 (by intro h;have q2:=hb6 _ h;omega);refine O.loadOA isAgg44 Z44 rfl (t15.L e11) (leB rfl) (O.fa U47 rfl Z44 rfl ?_);have t16:=((t11.L e7).L e8).kM e9 (by intro h;have:=(h21.L e8).bk_ge _ h;omega);have t17:=t16.kM e10 (by intro h;have q2:=hb6 _ h;omega);refine O.loadOA isAgg44 Z44 rfl (t17.L e11) (leB rfl) ?_;have t18:=Ext.T (Ext.T e1 e2) e3;have t19:=Ext.T t18 e4;have t20:=Ext.T t19 e5;have t21:=Ext.T t20 e6;have t22:=Ext.T t21 e7;have t23:=Ext.T t22 e8;have t24:=Ext.new t23 e9 (by intro i hi h;have:=(h21.L e8).bk_ge i h;omega);have t25:=Ext.new t24 e10 (by intro i hi h;have:=(h24).bk_ge i h;omega);have t26:=Ext.T t25 e11;refine O.call call73 (args2 rfl rfl) (cunion_spec va1 va2 a.1 F vb1 vb2 b.1 F2 _ (hav.L t26) (hac.L t26) (hbv.L t26) (hbc.L t26) (λj hj=>by have q1:=hF j hj;omega) (λj hj=>by have q1:=hF2 j hj;omega) ga.cx.okx gb.cx.okx (by omega) (by omega)) ?_;rintro v_32 w12 ⟨e12,uav32,ubv32,rfl,hxv32,hyv32⟩;have z12:=e12.size;refine O.mv (O.extract rfl rfl (O.extract rfl rfl (O.fa U47 rfl Z44 rfl (O.storeA (vs:=[uav32,ubv32]) Z44 rfl rfl rfl (by intro u hu;simp only[List.mem_cons,List.not_mem_nil,or_false] at hu;rcases hu with rfl|rfl;exact (hxv32.sl).oneC;exact (hyv32.sl).oneC) (h7.L e12) (leB rfl) (λw13 hs13 e13 z13=>K7 (C.sq λK8=>C.sr λK9=>O.mv ?_))))));have t27:=(hsv26.L e11).L e12;have t28:=t27.kM e13 (λk hk h=>by have:=hsv26.bk_ge k hk;(try dsimp only at h);omega);refine O.call call74 (args1 rfl) (compactS_spec _ _ _ _ t28 (by omega)) ?_;rintro v_37 w14 ⟨h37,hbk37,e14⟩;have z14:=e14.size;obtain ⟨nl,hnl⟩:∃nl,nl=Jn.allNames a b:=⟨_,rfl⟩
 rw[Jn.nset_of hpv26 hav26,show Jn.nset (Jn.namesOf a++Jn.namesOf b)=nl from hnl.symm] at h37;have h37s:=h37.sl;obtain ⟨n9,hn9⟩:∃n,n=w14.heap.size:=⟨_,rfl⟩
 have h37l:=h37s.le;have hnl9:nl.length<=400000:=by
  have h9:=Jn.nset_len (Jn.namesOf a++Jn.namesOf b);have e9:(Jn.namesOf a++Jn.namesOf b).length=a.2.length+b.2.length:=by unfold Jn.namesOf;simp
  rw[hnl];show (Jn.nset (Jn.namesOf a++Jn.namesOf b)).length<=_
  omega
 have t29:=hs13.kM e14 (by intro h;have q2:=hb6 _ h;omega);have hog0:OG itemF 117 w14 (.slice none 0 0) b7 []:=OG.nil (t29).lt;have hit0:ItemsF 114 w14 (λk=>n9<=k∧k<w14.heap.size∧k≠b7) [] (Jn.jitems a b (nl.take 0)):=ItemsF.nil;refine O.len U69 rfl h37s (O.mv (K9 (C.bl λK10=>?_)));refine C.loop0 (σ:=Nat×Value×Nat×List (List UInt8×Raw)) (λf0 w0 ⟨k,o,gl,raw⟩ f wz=>f 39=.int .i64 (k)∧f 2=f0 2∧f 3=f0 3∧f 4=f0 4∧f 5=f0 5∧f 7=f0 7∧f 37=f0 37∧f 38=f0 38∧Le w wz∧Own wz b2 47 [va1,va2,va3]∧Own wz b3 47 [vb1,vb2,vb3]∧Own wz b4 47 [.slice none 0 0,.slice none 0 0,.slice none 0 0]∧Own wz b7 47 [uav32,ubv32,o]∧Fre Dt.dotF 112 wz (λj=>w.heap.size<=j∧j<n9∧j≠b7∧j≠b4) uav32 (Jn.cunion a.1 b.1).1∧Fre Dt.dotF 112 wz (λj=>w.heap.size<=j∧j<n9∧j≠b7∧j≠b4) ubv32 (Jn.cunion a.1 b.1).2∧Sl strF.enc wz (λj=>j<n9∧j≠b7) v_37 nl∧OG itemF 117 wz o gl raw∧ItemsF 114 wz (λk=>n9<=k∧k<wz.heap.size∧k≠gl) raw (Jn.jitems a b (nl.take k))∧k<=nl.length∧(∀j,bk o j->n9<=j)∧(gl=b7∨n9<=gl)∧n9<=wz.heap.size) (λ⟨k,o,gl,raw⟩=>nl.length-k) (0,.slice none 0 0,b7,[]) ?_ ?_
 ·
  refine ⟨rfl,rfl,rfl,rfl,rfl,rfl,rfl,rfl,(Ext.new (Ext.nr (Ext.T t26 e12) e13) e14 (by intro i hi h;have:=(t28).bk_ge i h;omega)),((((t15.L e11).L e12).kO e13).kM e14 (by intro h;have q2:=hb6 _ h;omega)),((((t17.L e11).L e12).kO e13).kM e14 (by intro h;have q2:=hb6 _ h;omega)),(((((((((((h4.L e4).L e5).L e6).L e7).L e8).kM e9 (by intro h;have:=(h21.L e8).bk_ge _ h;omega)).kM e10 (by intro h;have q2:=hb6 _ h;omega)).L e11).L e12).kO e13).kM e14 (by intro h;have q2:=hb6 _ h;omega)),t29,((((hxv32.keepA e13).kM e14 (by intro j hj h;have q2:=hb6 j h;(try dsimp only at hj);omega))).weakA),((((hyv32.keepA e13).kM e14 (by intro j hj h;have q2:=hb6 j h;(try dsimp only at hj);omega))).weakA),((h37s).weak (λj hj=>by have q1:=h37.bk_ge j hj;have q2:=hb6 j (hbk37 j hj);(try dsimp only);omega)),hog0,hit0,?_⟩;exact ⟨Nat.zero_le _,λ_ h=>h.elim,.inl rfl,by omega⟩
 rintro ⟨k,o,gl,raw⟩ f_1 w15 ⟨s39_1,s2_1,s3_1,s4_1,s5_1,s7_1,s37_1,s38_1,e_1,r0_1,r1_1,r2_1,r3_1,r4_1,r5_1,r6_1,r7_1,r8_1,⟨hk,hob,hgl2,hn9z⟩⟩;have z_1:=e_1.size;have hit:=r8_1;have hitl:=hit.1;have hgl:=(r7_1).2.2;have hogu:=(r7_1).2.1;have hogb:=(r7_1).1.bk_ge;have hl7:=(r3_1).lt;have hl4:=(r2_1).lt;have hjl:=Jn.jitems_le a b (nl.take k);rw[List.length_take] at hjl;have hjl2:(Jn.jitems a b (nl.take k)).length<=k:=by omega
 refine C.sr λK11=>O.lssI s39_1 s38_1 (K11 (C.sq λK12=>C.condD rfl (λc40=>?_) (λc40=>?_)))
 ·
  have hk2:k<nl.length:=by omega
  refine C.skip (K12 (C.sq λK13=>C.bl λK14=>C.sr λK15=>O.idx U69 Z9 rfl s37_1 r6_1 s39_1 (by omega) (λa41 h41=>O.load1F (G:=strF) isAgg9 rfl rfl rfl h41 ?_)));obtain ⟨nm,hnm⟩:∃nm:List UInt8,nm=nl[k]:=⟨_,rfl⟩
  refine O.cast (v':=str nm) (by rw[hnm];rfl) (O.j (K15 (C.sr λK16=>O.loadOA isAgg47 Z47 s2_1 r0_1 (leB rfl) (O.loadOA isAgg47 Z47 s3_1 r1_1 (leB rfl) (O.mv (O.call call75 (args3 rfl rfl rfl) (jitem_spec va1 va2 va3 a F vb1 vb2 vb3 b F2 nm _ (hav.L e_1) (hac.L e_1) (hai.L e_1) (hbv.L e_1) (hbc.L e_1) (hbi.L e_1) (λj hj=>by have q1:=hF j hj;omega) (λj hj=>by have q1:=hF2 j hj;omega) (by omega) (λx hx=>(haT x hx).2) (by omega) (λx hx=>(hbT x hx).2) ga gb) ?_))))));rintro v_46 w16 ⟨e16,vmv46,rfl,hmv46⟩;have z16:=e16.size;obtain ⟨s46,rfl⟩:=hmv46.slv;have hms46:=hmv46.sl;refine O.alloc zeroValue117 (λb10 w17 hb10 hz10 e17=>?_);have z17:=e17.size;have h10:=hz10.own;have hl10:=h10.lt;refine O.storeA (vs:=[str nm,slv s46]) Z117 rfl rfl rfl (ones2 rfl) h10 (leB rfl) (λw18 hs18 e18 z18=>K16 (C.sr λK17=>O.fa U117 rfl Z115 rfl (O.loadO isAgg115 rfl hs18 rfl (O.len U115 rfl ((hms46.L e17).keepA e18) (O.gtrI rfl rfl (K17 (C.condD rfl (λc50=>?_) (λc50=>?_))))))))
  ·
   refine C.region (O.fa U47 rfl Z45 s7_1 ?_);have t30:=((r3_1.L e16).L e17).kO e18;refine O.loadO isAgg45 rfl t30 rfl (O.loadOA isAgg117 Z117 rfl hs18 (leB rfl) (O.litG (G:=itemF) [(nm,s46)] U45 ti117 ts117 tz117 rfl (by decide) (by decide) rfl (λb54 w19 hb54 hz54 e19=>?_)));have z19:=e19.size;have h54:=hz54.own;have hq54:=Sl.litG (n:=1) h54 rfl (by unfold maxLen;omega);have t31:=((r7_1.L e16).L e17).keepA e18;refine O.appG (G:=itemF) U45 ti117 tz117 ts117 rfl rfl rfl (t31.L e19) hq54 (by rw[tb117,hit.1];simp;omega) (by unfold maxLen;rw[hit.1];simp;omega) (λv55 gg55 w20 h55 hg55 e20 hw55=>?_);have e20m:=e20.mono (M':=λk=>k=_) (λk _ hk=>(t31.L e19).2.1 k hk);have z20:=e20.size;have hgl55:=h55.2.2;have hob55:∀k,bk v55 k->n9<=k:=λk hk=>by
    rcases hw55 k hk with q|q
    ·exact hob k q
    ·omega
   have hg55:n9<=gg55:=hob55 _ (h55.bk (by simp));refine O.fa U47 rfl Z45 s7_1 (O.store Z45 rfl rfl h55.1.one ((t30.L e19).kM e20 (λh=>by have:=hob _ h;omega)) (by simp) (λw21 hs21 e21 z21=>?_))
   try simp only[Nat.zero_add] at hs21
   refine O.o (K14 (K13 (C.region (O.ad s39_1 rfl (O.mv (O.o ?_))))));refine ⟨(k+1,_,_,_),⟨rfl,s2_1,s3_1,s4_1,s5_1,s7_1,s37_1,s38_1,(Ext.nr (Ext.new (Ext.T (Ext.nr (Ext.T (Ext.T e_1 e16) e17) e18) e19) e20 (by intro i hi h;have:=hob i h;omega)) e21),((((((r0_1.L e16).L e17).kO e18).L e19).kM e20 (λh=>by have:=hob _ h;omega)).kO e21),((((((r1_1.L e16).L e17).kO e18).L e19).kM e20 (λh=>by have:=hob _ h;omega)).kO e21),((((((r2_1.L e16).L e17).kO e18).L e19).kM e20 (λh=>by have:=hob _ h;omega)).kO e21),hs21,((((((r4_1.L e16).L e17).keepA e18).L e19).kM e20 (by intro j hj h;have q2:=hob j h;have q3:=hogu j h;first|(have q1:=hF j hj;omega)|(have q1:=hF2 j hj;omega)|((try dsimp only at hj);omega))).keepA e21),((((((r5_1.L e16).L e17).keepA e18).L e19).kM e20 (by intro j hj h;have q2:=hob j h;have q3:=hogu j h;first|(have q1:=hF j hj;omega)|(have q1:=hF2 j hj;omega)|((try dsimp only at hj);omega))).keepA e21),((((((r6_1.L e16).L e17).keepA e18).L e19).kM e20 (by intro j hj h;have q2:=hob j h;have q3:=hogu j h;first|(have q1:=hF j hj;omega)|(have q1:=hF2 j hj;omega)|((try dsimp only at hj);omega))).keepA e21),(h55.keepA e21),(by
 rw[Jn.jitems_take hk2,<-hnm]
 first
 |(rw[if_pos (by omega)];exact ((((((((r8_1.L e16).L e17).keepA e18).L e19).kM e20 (by intro j hj h;have q2:=hob j h;have q3:=hogu j h;first|(have q1:=hF j hj;omega)|(have q1:=hF2 j hj;omega)|((try dsimp only at hj);omega))).keepA e21)).weakA).snoc rfl (((((((hmv46.L e17).keepA e18).L e19).kM e20 (by intro j hj h;have q2:=hob j h;have q3:=hogu j h;first|(have q1:=hF j hj;omega)|(have q1:=hF2 j hj;omega)|((try dsimp only at hj);omega))).keepA e21)).weakA))
 |(rw[if_neg (by omega),List.append_nil];exact (((((((r8_1.L e16).L e17).keepA e18).L e19).kM e20 (by intro j hj h;have q2:=hob j h;have q3:=hogu j h;first|(have q1:=hF j hj;omega)|(have q1:=hF2 j hj;omega)|((try dsimp only at hj);omega))).keepA e21)).weakA)),?_⟩,by first|omega|(simp only[];omega)⟩
   exact ⟨by omega,hob55,.inr hg55,by omega⟩
  refine C.skip (K14 (K13 (C.region (O.ad s39_1 rfl (O.mv (O.o ?_))))));refine ⟨(k+1,_,_,_),⟨rfl,s2_1,s3_1,s4_1,s5_1,s7_1,s37_1,s38_1,(Ext.nr (Ext.T (Ext.T e_1 e16) e17) e18),(((r0_1.L e16).L e17).kO e18),(((r1_1.L e16).L e17).kO e18),(((r2_1.L e16).L e17).kO e18),(((r3_1.L e16).L e17).kO e18),(((r4_1.L e16).L e17).keepA e18),(((r5_1.L e16).L e17).keepA e18),(((r6_1.L e16).L e17).keepA e18),(((r7_1.L e16).L e17).keepA e18),(by
 rw[Jn.jitems_take hk2,<-hnm]
 first
 |(rw[if_pos (by omega)];exact (((((r8_1.L e16).L e17).keepA e18)).weakA).snoc rfl ((((hmv46.L e17).keepA e18)).weakA))
 |(rw[if_neg (by omega),List.append_nil];exact ((((r8_1.L e16).L e17).keepA e18)).weakA)),?_⟩,by first|omega|(simp only[];omega)⟩
  first
  |exact ⟨by omega,hob55,.inr hg55,by omega⟩
  |exact ⟨by omega,hob,hgl2,by omega⟩
 refine C.exit (K10 (K8 (C.sr λK18=>O.loadOA isAgg47 Z47 s7_1 r3_1 (leB rfl) (O.storeA (vs:=[uav32,ubv32,o]) Z47 rfl s4_1 rfl (by intro u hu;simp only[List.mem_cons,List.not_mem_nil,or_false] at hu;rcases hu with rfl|rfl|rfl;exact ((r4_1).sl).oneC;exact ((r5_1).sl).oneC;exact (r7_1).1.one) r2_1 (leB rfl) (λw22 hs22 e22 z22=>O.j (K18 (C.ret (Outs.cellA2 rfl isAgg47 Z47 s4_1 rfl hs22 rfl ?_))))))));have hk9:k=nl.length:=by omega
 have hit9:ItemsF 114 w22 (λj=>w.heap.size<=j∧j<w22.heap.size) raw (Jn.join a b).2:=by
  have q:=(r8_1.keepA e22)
  rw[hk9,List.take_length,hnl] at q;exact q.weakA
 exact ⟨(Ext.nr e_1 e22),uav32,ubv32,o,rfl,((r4_1.keepA e22)).weakA,((r5_1.keepA e22)).weakA,raw,((r7_1.keepA e22)).1.fre (λj hj=>by have:=hob j hj;have:=hogb j hj;(try dsimp only);omega),hit9⟩
theorem ccopy_spec (va1 va2 va3:Value)(a:Cn.Cart)(F:Nat->Prop)(w:World)(hav:Sl Dt.dotF.enc w F va1 a.1.1)(hac:Sl Dt.dotF.enc w F va2 a.1.2)(hai:Sl itemE w F va3 a.2)(hn:a.2.length<=1000000)(hS:∀x∈a.2,x.2.length<=1000000)(hp:a.1.1.length<=1000000)(hq:a.1.2.length<=1000000):
 Ret prog 77 #[.agg #[va1,va2,va3]] w (λv w'=>Le w w'∧∃u1 u2 u3:Value,v=.agg #[u1,u2,u3]∧Fre Dt.dotF 112 w' (λj=>w.heap.size<=j∧j<w'.heap.size) u1 a.1.1∧Fre Dt.dotF 112 w' (λj=>w.heap.size<=j∧j<w'.heap.size) u2 a.1.2∧SlI 117 114 w' (λj=>w.heap.size<=j∧j<w'.heap.size) u3 a.2):=by
 obtain ⟨raw,hraw,hit⟩:=hai.items;refine enT [.agg #[va1,va2,va3]] 16 func77 rfl rfl (C.sr λK1=>O.box (v:=.agg #[va1,va2,va3]) rfl (λb1 w1 hb1 hz1 e1=>?_));have z1:=e1.size;have h1:=hz1.own;have hl1:=h1.lt;refine O.alloc zeroValue47 (λb2 w2 hb2 hz2 e2=>?_);have z2:=e2.size;have h2:=hz2.own;have hl2:=h2.lt;refine K1 (C.sq λK2=>C.drawB (wB:=w1) (by kernel_rfl) λw3 e3=>?_);have z3:=e3.size;refine D.t 0 rfl (Ext.T e2 e3) (λ_ _ _ hN=>O.fa U47 rfl Z44 rfl (O.o hN)) (D.t 1 rfl (Ext.T e2 e3) (λ_ _ _ hN=>O.fa U44 rfl Z42 rfl (O.o hN)) (D.t 2 rfl (Ext.T e2 e3) (λ_ hw_ _ hN=>O.loadO isAgg42 rfl (h1.L hw_) rfl (O.o hN)) (D.t 4 rfl (Ext.T e2 e3) (λ_ _ _ hN=>O.fa U47 rfl Z44 rfl (O.o hN)) (D.t 5 rfl (Ext.T e2 e3) (λ_ _ _ hN=>O.fa U44 rfl Z41 rfl (O.o hN)) (D.t 6 rfl (Ext.T e2 e3) (λ_ hw_ _ hN=>O.loadO isAgg41 rfl (h1.L hw_) rfl (O.o hN)) ?_)))));refine D.t 9 rfl (Ext.T e2 e3) (λ_ _ _ hN=>O.fa U47 rfl Z45 rfl (O.o hN)) (D.t 10 rfl (Ext.T e2 e3) (λ_ hw_ _ hN=>O.loadO isAgg45 rfl (h1.L hw_) rfl (O.o hN)) (D.on 3 rfl rfl (O.call call122 (args1 rfl) (cloneV_spec _ a.1.1 _ _ (((hav.L e1).L e2).L e3) (by omega)) ?_)));rintro v_6 w4 ⟨e4,h6⟩;have z4:=e4.size;have t0:=Ext.T (Ext.T e2 e3) e4;refine O.o ⟨t0,?_⟩;have h6b:=h6.bk_ge;obtain ⟨s6,rfl⟩:=h6.sl.slv;have hf6:=h6.fre (F:=λj=>w.heap.size<=j∧j≠b2∧j<w4.heap.size) (λj hj=>by have:=h6b j hj;(try dsimp only);omega);refine D.on 7 rfl rfl (O.call call123 (args1 rfl) (clone_spec _ a.1.2 _ _ ((((hac.L e1).L e2).L e3).L e4) (by omega)) ?_);rintro v_10 w5 ⟨e5,h10⟩;have z5:=e5.size;refine O.o ⟨(Ext.T t0 e5),?_⟩;have h10b:=h10.bk_ge;obtain ⟨s10,rfl⟩:=h10.sl.slv;have hf10:=h10.fre (F:=λj=>w.heap.size<=j∧j≠b2∧j<w5.heap.size) (λj hj=>by have:=h10b j hj;(try dsimp only);omega);refine D.many [8,11] (by kernel_rfl) (by decide) ⟨?_,?_,trivial⟩
 ·
  refine D.stepU rfl rfl (O.build (cells:=#[slv s6,slv s10]) rfl (by kernel_rfl) (O.o ⟨(Ext.T t0 e5),D.on 11 rfl rfl (O.call call124 (args1 rfl) (icopy_spec _ a.2 raw _ _ (((((hraw.L e1).L e2).L e3).L e4).L e5) (((((hit.L e1).L e2).L e3).L e4).L e5) hn hS) ?_)⟩));rintro v_14 w6 ⟨e6,h14⟩;have z6:=e6.size;have t1:=Ext.T (Ext.T t0 e5) e6;refine O.o ⟨t1,?_⟩;obtain ⟨s14,rfl⟩:=h14.sl.slv;refine D.on 12 rfl rfl (O.build (cells:=#[slv s6,slv s10,slv s14]) rfl (by kernel_rfl) (O.o ⟨t1,D.on 13 rfl rfl (O.storeA (vs:=[slv s6,slv s10,slv s14]) Z47 rfl rfl rfl (by intro u hu;simp only[List.mem_cons,List.not_mem_nil,or_false] at hu;rcases hu with rfl|rfl|rfl<;>rfl) ((((h2.L e3).L e4).L e5).L e6) (leB rfl) (λw7 hs7 e7 z7=>O.o ⟨(Ext.nr t1 e7),D.dn (K2 (C.ret (Outs.cellA rfl isAgg47 Z47 rfl hs7 rfl ?_)))⟩))⟩));exact ⟨(Ext.nr (Ext.T (Ext.T (Ext.T (Ext.T (Ext.T e1 e2) e3) e4) e5) e6) e7),slv s6,slv s10,slv s14,rfl,((((hf6.L e5).L e6).keepA e7)).weakA,(((hf10.L e6).keepA e7)).weakA,((h14.keepA e7)).weakA⟩
 refine D.stepU rfl rfl (O.call call124 (args1 rfl) (icopy_spec _ a.2 raw _ _ (((((hraw.L e1).L e2).L e3).L e4).L e5) (((((hit.L e1).L e2).L e3).L e4).L e5) hn hS) ?_);rintro v_14 w8 ⟨e8,h14⟩;have z8:=e8.size;have t2:=Ext.T (Ext.T t0 e5) e8;refine O.o ⟨t2,?_⟩;obtain ⟨s14,rfl⟩:=h14.sl.slv;refine D.on 8 rfl rfl (O.build (cells:=#[slv s6,slv s10]) rfl (by kernel_rfl) (O.o ⟨t2,D.on 12 rfl rfl (O.build (cells:=#[slv s6,slv s10,slv s14]) rfl (by kernel_rfl) (O.o ⟨t2,D.on 13 rfl rfl (O.storeA (vs:=[slv s6,slv s10,slv s14]) Z47 rfl rfl rfl (by intro u hu;simp only[List.mem_cons,List.not_mem_nil,or_false] at hu;rcases hu with rfl|rfl|rfl<;>rfl) ((((h2.L e3).L e4).L e5).L e8) (leB rfl) (λw9 hs9 e9 z9=>O.o ⟨(Ext.nr t2 e9),D.dn (K2 (C.ret (Outs.cellA rfl isAgg47 Z47 rfl hs9 rfl ?_)))⟩))⟩))⟩));exact ⟨(Ext.nr (Ext.T (Ext.T (Ext.T (Ext.T (Ext.T e1 e2) e3) e4) e5) e8) e9),slv s6,slv s10,slv s14,rfl,((((hf6.L e5).L e8).keepA e9)).weakA,(((hf10.L e8).keepA e9)).weakA,((h14.keepA e9)).weakA⟩
theorem cmpB_scmp:∀a b:List UInt8,Lib.compareBytes a b=Jn.scmp a b:=by
 intro a
 induction a with
 |nil=>
  intro b;cases b with
  |nil=>rfl
  |cons b y=>rfl
 |cons a x ih=>
  intro b;cases b with
  |nil=>rfl
  |cons b y=>
   unfold Lib.compareBytes;have h1:=@Jn.bl_cons a b x y;have h2:=@Jn.bl_cons b a y x;have ih:=ih y;unfold Jn.scmp at ih ⊢;simp only[UInt8.lt_iff_toNat_lt] at*
   by_cases p:a.toNat<b.toNat
   ·rw [if_pos p,if_pos (h1.2 (.inl p))]
   ·by_cases q:b.toNat<a.toNat
    ·rw [if_neg p,if_pos q,if_neg (λh=>by rcases h1.1 h with g|⟨g,_⟩<;>omega),if_pos (h2.2 (.inl q))]
    ·rw [if_neg p,if_neg q,ih]
     have e:a.toNat=b.toNat:=by omega
     have g1:Jn.BL x y↔Jn.BL (a::x) (b::y):=⟨λh=>h1.2 (.inr ⟨e,h⟩),λh=>by rcases h1.1 h with g|⟨_,g⟩;omega;exact g⟩
     have g2:Jn.BL y x↔Jn.BL (b::y) (a::x):=⟨λh=>h2.2 (.inr ⟨e.symm,h⟩),λh=>by rcases h2.1 h with g|⟨_,g⟩;omega;exact g⟩
     simp only[g1,g2]
theorem strcmp_spec (a b:List UInt8)(w:World):Ret prog 76 #[str a,str b] w (λv w'=>v=.int .i64 (Jn.scmp a b)∧w'=w):=by
 refine Ret.of (Tryz.strings_Compare ⟨a.toArray⟩ ⟨b.toArray⟩ w) ?_;rintro e w' ⟨rfl,rfl⟩;exact ⟨_,rfl,cI (cmpB_scmp a b),rfl⟩
theorem sIsNaN_spec (x:List UInt8)(w:World):
 Ret prog 136 #[str (x)] w (λv w'=>v=.bool false∧w'=w):=by
 refine enT [str (x)] 6 func136 rfl rfl (C.sr λK1=>O.j (K1 (C.sr λK2=>O.mv (O.mv (O.neqS rfl rfl (O.cast (v':=.bool false) (cB (by exact dF (λh=>h rfl))) (O.j (K2 (C.ret (Outs.one rfl rfl ?_))))))))));exact ⟨rfl,rfl⟩
theorem lessS_spec (x y:List UInt8)(w:World):
 Ret prog 135 #[str (x),str (y)] w (λv w'=>v=.bool (Op.bytesLess x y)∧w'=w):=by
 refine enT [str (x),str (y)] 17 func135 rfl rfl (C.sr λK1=>O.j (K1 (C.sr λK2=>O.mv (O.call call110 (args1 rfl) (isNaNS_spec _ _) ?_))));rintro v_6 w1 ⟨rfl,hw_⟩;replace hw_:=hw_.symm;subst hw_;refine O.mv (O.no rfl (noB rfl rfl) (O.no rfl (noB rfl rfl) (O.no rfl (noB rfl rfl) (O.pickF rfl (O.mv (O.yes rfl rfl (O.mv (O.yes rfl rfl (O.mv (O.yes rfl rfl (O.lssS rfl rfl (O.pickF rfl (O.j (K2 (C.ret (Outs.one rfl rfl ?_))))))))))))))));exact ⟨rfl,rfl⟩
theorem bss_spec (v0:Value)(d:List Jn.Name)(F:Nat->Prop)(k:List UInt8)(w:World)(hs:Sl strF.enc w F v0 d)(hp:d.Pairwise Jn.BL)(hn:d.length<=1000000000):
 Ret prog 88 #[v0,str (k)] w (λv w'=>∃i:Nat,v=.tuple #[.int .i64 (i:Int),.bool (decide (k∈d))]∧Ob.At d k i∧w'=w):=by
 refine enT [v0,str (k)] 54 func88 rfl rfl (C.sr λK1=>O.j (O.j (K1 (C.sr λK2=>O.mv (O.len U69 rfl hs (O.j (K2 (C.sr λK3=>O.mv (O.j (O.j (K3 (C.sq λK4=>C.bl λK5=>C.loop0 (σ:=Nat×Nat) (λf0 w0 ⟨i,j⟩ f w=>f 7=.int .i64 ((i:Int))∧f 8=.int .i64 ((j:Int))∧f 0=f0 0∧f 1=f0 1∧f 4=f0 4∧f 5=f0 5∧f 6=f0 6∧w=w0∧(i<=j∧j<=d.length)∧(∀a,∀h:a<d.length,a<i->Jn.BL d[a] k)∧(∀a,∀h:a<d.length,j<=a->¬Jn.BL d[a] k)) (λ⟨i,j⟩=>j-i) (0,d.length) ?_ ?_))))))))))))
 ·
  refine ⟨rfl,rfl,rfl,rfl,rfl,rfl,rfl,rfl,?_⟩;exact ⟨⟨Nat.zero_le _,Nat.le_refl _⟩,λa h k=>absurd k (Nat.not_lt_zero _),λa h k=>by omega⟩
 rintro ⟨i,j⟩ f_1 wx ⟨s7_1,s8_1,s0_1,s1_1,s4_1,s5_1,s6_1,rfl,⟨hij,hlo,hhi⟩⟩;refine C.sq λK6=>C.sr λK7=>O.mv (O.mv (O.lssI s7_1 s8_1 (K7 (C.condD rfl (λc15=>?_) (λc15=>?_)))))
 ·
  refine C.skip (K6 (C.bl λK8=>C.sr λK9=>O.mv (O.mv (O.ad s7_1 s8_1 (O.convIU (m':=64) U3 U135 rfl rfl rfl (O.shrU (m:=64) (c:=1) rfl rfl rfl rfl (O.convU64I U135 U3 rfl (O.cast (v':=.int .i64 (((i+j)/2:Nat):Int)) (cI ((Ob.half64 (by omega) (by omega)).trans (by omega))) (O.j (K9 (C.sr λK10=>O.mv (O.mv (O.idx U69 Z9 rfl s0_1 hs rfl (by omega) (λa24 h24=>O.load1F (G:=strF) isAgg9 rfl rfl rfl h24 (O.mv (O.call call135 (args2 rfl s1_1) (lessS_spec _ _ _) ?_))))))))))))))));rintro v_27 w1 ⟨rfl,hw_⟩;replace hw_:=hw_.symm;subst hw_;refine K10 (C.cond rfl (λc27=>?_) (λc27=>?_))
  ·
   have e9:((((i+j)/2:Nat)):Int).toNat=(i+j)/2:=Int.toNat_natCast _;simp only[e9] at c27;have hb9:Jn.BL (d[(i+j)/2]'(by omega)) k:=by unfold Jn.BL;simpa using c27
   refine C.region (O.mv (O.ad rfl rfl (O.j (O.o (K8 (⟨((i+j)/2+1,j),⟨rfl,s8_1,s0_1,s1_1,s4_1,s5_1,s6_1,rfl,?_⟩,by first|omega|(simp only[];omega)⟩))))));exact ⟨⟨by omega,hij.2⟩,Ob.half_lo hp (by omega) hb9,hhi⟩
  have e9:((((i+j)/2:Nat)):Int).toNat=(i+j)/2:=Int.toNat_natCast _;simp only[e9] at c27;have hb9:¬Jn.BL (d[(i+j)/2]'(by omega)) k:=by unfold Jn.BL;simpa using c27
  refine C.region (O.mv (O.j (O.o (K8 (⟨(i,(i+j)/2),⟨s7_1,rfl,s0_1,s1_1,s4_1,s5_1,s6_1,rfl,?_⟩,by first|omega|(simp only[];omega)⟩)))))
  first
  |exact ⟨⟨by omega,hij.2⟩,Ob.half_lo hp (by omega) hb9,hhi⟩
  |exact ⟨⟨by omega,by omega⟩,hlo,Ob.half_hi hp (by omega) hb9⟩
 have hA:Ob.At d k i:=⟨by omega,hlo,λa h q=>hhi a h (by omega)⟩
 refine C.exit (K5 (K4 (C.sr λK11=>O.mv (O.mv (O.mv (O.lssI s7_1 s6_1 (O.mv (O.splitD (x:=.tmp 35) rfl (λc35=>?_) (λc35=>?_)))))))))
 ·
  refine O.yes rfl (isT rfl c35) (O.mv (O.yes rfl (isT rfl c35) (O.mv (O.yes rfl (isT rfl c35) (O.idx U69 Z9 rfl s0_1 hs s7_1 (by omega) (λa38 h38=>O.yes rfl (isT rfl c35) (O.load1F (G:=strF) isAgg9 rfl rfl rfl h38 (O.yes rfl (isT rfl c35) (O.mv (O.yes rfl (isT rfl c35) (O.eqlS rfl s1_1 (O.yes rfl (isT rfl c35) (O.mv (O.splitD (x:=.tmp 42) rfl (λc42=>?_) (λc42=>?_)))))))))))))))
  ·
   refine O.no rfl (noB (isT rfl c42) rfl) (O.no rfl (noB (isT rfl c42) rfl) (O.no rfl (noB (isT rfl c42) rfl) (O.no rfl (noB (isT rfl c42) rfl) (O.no rfl (noB (isT rfl c42) rfl) (O.no rfl (noB (isT rfl c42) rfl) (O.no rfl (noU rfl) (O.no rfl (noU rfl) (O.no rfl (noB (isT rfl c42) rfl) (O.yes rfl (isT rfl c35) (O.pickT (isT rfl c42) (O.pickT (isT rfl c35) (O.j (O.j (K11 (C.ret (Outs.two rfl s7_1 rfl ?_))))))))))))))));exact ⟨i,congrArg (λb=>Value.tuple #[.int .i64 (i:Int),.bool b]) (dT ((hA.found hp).2 ⟨by omega,by simpa using c42⟩)).symm,hA,rfl⟩
  refine O.yes rfl (isF rfl c42) (O.mv (O.yes rfl (isF rfl c42) (O.mv (O.yes rfl (isF rfl c42) (O.idx U69 Z9 rfl s0_1 hs s7_1 (by omega) (λa45 h45=>O.yes rfl (isF rfl c42) (O.load1F (G:=strF) isAgg9 rfl rfl rfl h45 (O.yes rfl (isF rfl c42) (O.call call136 (args1 rfl) (sIsNaN_spec _ _) ?_)))))))));rintro v_47 w1 ⟨rfl,hw_⟩;replace hw_:=hw_.symm;subst hw_;refine O.yes rfl (isF rfl c42) (O.mv (O.no rfl (noB rfl rfl) (O.no rfl (noB rfl rfl) (O.yes rfl (isF rfl c42) (O.pickF rfl (O.yes rfl (isT rfl c35) (O.pickF (isF rfl c42) (O.pickT (isT rfl c35) (O.j (O.j (K11 (C.ret (Outs.two rfl s7_1 rfl ?_)))))))))))))
  first
  |exact ⟨i,congrArg (λb=>Value.tuple #[.int .i64 (i:Int),.bool b]) (dT ((hA.found hp).2 ⟨by omega,by simpa using c42⟩)).symm,hA,rfl⟩
  |exact ⟨i,congrArg (λb=>Value.tuple #[.int .i64 (i:Int),.bool b]) (dF (λh=>by obtain ⟨q,e⟩:=(hA.found hp).1 h;exact c42 (by simpa using e))).symm,hA,rfl⟩
 refine O.no rfl (noB (isF rfl c35) rfl) (O.no rfl (noB (isF rfl c35) rfl) (O.no rfl (noB (isF rfl c35) rfl) (O.no rfl (noB (isF rfl c35) rfl) (O.no rfl (noB (isF rfl c35) rfl) (O.no rfl (noB (isF rfl c35) rfl) (O.no rfl (noB (isF rfl c35) rfl) (O.no rfl (noU rfl) (O.no rfl (noU rfl) (O.no rfl (noU rfl) (O.no rfl (noU rfl) (O.no rfl (noU rfl) (O.no rfl (noU rfl) (O.no rfl (noU rfl) (O.no rfl (noU rfl) (O.no rfl (noU rfl) (O.no rfl (noB (isF rfl c35) rfl) (O.pickF (isF rfl c35) (O.j (O.j (K11 (C.ret (Outs.two rfl s7_1 rfl ?_))))))))))))))))))))))
 first
 |exact ⟨i,congrArg (λb=>Value.tuple #[.int .i64 (i:Int),.bool b]) (dT ((hA.found hp).2 ⟨by omega,by simpa using c42⟩)).symm,hA,rfl⟩
 |exact ⟨i,congrArg (λb=>Value.tuple #[.int .i64 (i:Int),.bool b]) (dF (λh=>by obtain ⟨q,e⟩:=(hA.found hp).1 h;exact c42 (by simpa using e))).symm,hA,rfl⟩
 |exact ⟨i,congrArg (λb=>Value.tuple #[.int .i64 (i:Int),.bool b]) (dF (λh=>by obtain ⟨q,e⟩:=(hA.found hp).1 h;omega)).symm,hA,rfl⟩
theorem find1_spec (r:EntR)(k:List UInt8)(w:World):
 Ret prog 138 #[.agg #[str r.1,slv r.2.1.1,slv r.2.1.2,slv r.2.2],str (k)] w (λv w'=>v=.int .i64 (Jn.scmp r.1 k)∧Le w w'):=by
 refine enT [.agg #[str r.1,slv r.2.1.1,slv r.2.1.2,slv r.2.2],str (k)] 9 func138 rfl rfl (C.sr λK1=>O.box (v:=.agg #[str r.1,slv r.2.1.1,slv r.2.1.2,slv r.2.2]) rfl (λb2 w1 hb2 hz2 e1=>?_));have z1:=e1.size;have h2:=hz2.own;have hl2:=h2.lt;refine O.j (K1 (C.sr λK2=>O.fa U50 rfl Z9 rfl (O.loadO isAgg9 rfl h2 rfl (O.mv (O.call call76 (args2 rfl rfl) (strcmp_spec r.1 k _) ?_)))));rintro v_8 w2 ⟨rfl,hw_⟩;replace hw_:=hw_.symm;subst hw_;refine O.j (K2 (C.ret (Outs.one rfl rfl ?_)));exact ⟨rfl,e1⟩
theorem bsf_spec (v0:Value)(raw:List EntR)(l:List EntT)(F:Nat->Prop)(k:List UInt8)(w:World)(hr:Sl entF.enc w F v0 raw)(he:EntL w F raw l)(hp:(Ob.keys l).Pairwise Jn.BL)(hn:l.length<=1000000000):
 Ret prog 137 #[v0,str (k),.func (.func 138) #[] #[]] w (λv w'=>∃i:Nat,v=.tuple #[.int .i64 (i:Int),.bool (decide (k∈Ob.keys l))]∧Ob.At (Ob.keys l) k i∧Le w w'):=by
 have hl:=he.1;have hrl:=hr.le;refine enT [v0,str (k),.func (.func 138) #[] #[]] 49 func137 rfl rfl (C.sr λK1=>O.j (O.j (K1 (C.sr λK2=>O.mv (O.len U22 rfl hr (O.j (K2 (C.sr λK3=>O.mv (O.j (O.j (K3 (C.sq λK4=>C.bl λK5=>C.loop0 (σ:=Nat×Nat) (λf0 w0 ⟨i,j⟩ f w=>f 9=.int .i64 ((i:Int))∧f 10=.int .i64 ((j:Int))∧f 0=f0 0∧f 1=f0 1∧f 2=f0 2∧f 6=f0 6∧f 7=f0 7∧f 8=f0 8∧Le w0 w∧(i<=j∧j<=raw.length)∧(∀a,∀h:a<(Ob.keys l).length,a<i->Jn.BL (Ob.keys l)[a] k)∧(∀a,∀h:a<(Ob.keys l).length,j<=a->¬Jn.BL (Ob.keys l)[a] k)) (λ⟨i,j⟩=>j-i) (0,raw.length) ?_ ?_))))))))))))
 ·
  refine ⟨rfl,rfl,rfl,rfl,rfl,rfl,rfl,rfl,Le.refl _,?_⟩;exact ⟨⟨Nat.zero_le _,Nat.le_refl _⟩,λa h k=>absurd k (Nat.not_lt_zero _),λa h k=>by rw[Ob.keys_len] at h;omega⟩
 rintro ⟨i,j⟩ f_1 w1 ⟨s9_1,s10_1,s0_1,s1_1,s2_1,s6_1,s7_1,s8_1,e_1,⟨hij,hlo,hhi⟩⟩;have z_1:=e_1.size;refine C.sq λK6=>C.sr λK7=>O.mv (O.mv (O.lssI s9_1 s10_1 (K7 (C.condD rfl (λc17=>?_) (λc17=>?_)))))
 ·
  have hjl:=hij.2;refine C.skip (K6 (C.bl λK8=>C.sr λK9=>O.mv (O.mv (O.ad s9_1 s10_1 (O.convIU (m':=64) U3 U135 rfl rfl rfl (O.shrU (m:=64) (c:=1) rfl rfl rfl rfl (O.convU64I U135 U3 rfl (O.cast (v':=.int .i64 (((i+j)/2:Nat):Int)) (cI ((Ob.half64 (by omega) (by omega)).trans (by omega))) (O.j (K9 (C.sr λK10=>O.mv (O.mv (O.mv (O.idx U22 Z50 rfl s0_1 (hr.L e_1) rfl (by omega) (λa27 h27=>O.loadG (G:=entF) isAgg50 Z50 rfl h27 ?_)))))))))))))));have hEr:=((he.L e_1)).at (k:=((i+j)/2)) (by have q9:=((he.L e_1)).1;omega);obtain ⟨hk9r,r,x,hrr,hxr,hkxr,hca⟩:=hEr;refine O.cast (v':=.agg #[str r.1,slv r.2.1.1,slv r.2.1.2,slv r.2.2]) (by rw[hrr];rfl) (O.mv (O.callV (vs:=[.agg #[str r.1,slv r.2.1.1,slv r.2.1.2,slv r.2.2],str k]) call138 s2_1 (args2 rfl s1_1) (find1_spec r k _) ?_));rintro v_30 w2 ⟨rfl,e2⟩;have z2:=e2.size;refine O.lssI rfl rfl (K10 (C.condD rfl (λc31=>?_) (λc31=>?_)))
  ·
   have hb9:Jn.BL ((Ob.keys l)[(i+j)/2]'(by rw[Ob.keys_len];omega)) k:=by rw[Ob.keys_get,<-hxr,<-hkxr];exact (Jn.scmp_lt _ _).1 c31
   refine C.region (O.mv (O.ad rfl rfl (O.j (O.o (K8 (⟨((i+j)/2+1,j),⟨rfl,s10_1,s0_1,s1_1,s2_1,s6_1,s7_1,s8_1,(Ext.T e_1 e2),?_⟩,by first|omega|(simp only[];omega)⟩))))));exact ⟨⟨by omega,hij.2⟩,Ob.half_lo hp (by rw[Ob.keys_len];omega) hb9,hhi⟩
  have hb9:¬Jn.BL ((Ob.keys l)[(i+j)/2]'(by rw[Ob.keys_len];omega)) k:=by rw[Ob.keys_get,<-hxr,<-hkxr];exact (λh=>c31 ((Jn.scmp_lt _ _).2 h))
  refine C.region (O.mv (O.j (O.o (K8 (⟨(i,(i+j)/2),⟨s9_1,rfl,s0_1,s1_1,s2_1,s6_1,s7_1,s8_1,(Ext.T e_1 e2),?_⟩,by first|omega|(simp only[];omega)⟩)))))
  first
  |exact ⟨⟨by omega,hij.2⟩,Ob.half_lo hp (by rw[Ob.keys_len];omega) hb9,hhi⟩
  |exact ⟨⟨by omega,by omega⟩,hlo,Ob.half_hi hp (by rw[Ob.keys_len];omega) hb9⟩
 have hA:Ob.At (Ob.keys l) k i:=⟨by rw[Ob.keys_len];omega,hlo,λa h q=>hhi a h (by omega)⟩
 refine C.exit (K5 (K4 (C.sr λK11=>O.mv (O.mv (O.mv (O.lssI s9_1 s8_1 (O.mv (O.splitD (x:=.tmp 39) rfl (λc39=>?_) (λc39=>?_)))))))))
 ·
  have hil:i<l.length:=by omega
  refine O.yes rfl (isT rfl c39) (O.mv (O.yes rfl (isT rfl c39) (O.mv (O.yes rfl (isT rfl c39) (O.mv (O.yes rfl (isT rfl c39) (O.idx U22 Z50 rfl s0_1 (hr.L e_1) s9_1 (by omega) (λa43 h43=>O.yes rfl (isT rfl c39) (O.loadG (G:=entF) isAgg50 Z50 rfl h43 ?_)))))))));have hEs:=((he.L e_1)).at (k:=i) (by have q9:=((he.L e_1)).1;omega);obtain ⟨hk9s,s,y,hrs,hxs,hkxs,hca⟩:=hEs;refine O.cast (v':=.agg #[str s.1,slv s.2.1.1,slv s.2.1.2,slv s.2.2]) (by rw[hrs];rfl) (O.yes rfl (isT rfl c39) (O.mv (O.yes rfl (isT rfl c39) (O.callV (vs:=[.agg #[str s.1,slv s.2.1.1,slv s.2.1.2,slv s.2.2],str k]) call138 s2_1 (args2 rfl s1_1) (find1_spec s k _) ?_))));rintro v_46 w3 ⟨rfl,e3⟩;have z3:=e3.size;refine O.yes rfl (isT rfl c39) (O.eqlI rfl rfl (O.pickT (isT rfl c39) (O.j (O.j (K11 (C.ret (Outs.two rfl s9_1 rfl ?_)))))));exact ⟨i,congrArg (λb=>Value.tuple #[.int .i64 (i:Int),.bool b]) (decide_eq_decide.2 ⟨λh=>(hA.found hp).2 ⟨by rw[Ob.keys_len];omega,((Ob.keys_get l i (by rw[Ob.keys_len];omega)).trans ((congrArg Prod.fst hxs.symm).trans (hkxs.symm.trans ((Jn.scmp_zero _ _).1 h))))⟩,λh=>by obtain ⟨q,e⟩:=(hA.found hp).1 h;exact (Jn.scmp_zero _ _).2 (hkxs.trans ((congrArg Prod.fst hxs).trans ((Ob.keys_get l i q).symm.trans e)))⟩),hA,(Ext.T e_1 e3)⟩
 refine O.no rfl (noB (isF rfl c39) rfl) (O.no rfl (noB (isF rfl c39) rfl) (O.no rfl (noB (isF rfl c39) rfl) (O.no rfl (noB (isF rfl c39) rfl) (O.no rfl (noB (isF rfl c39) rfl) (O.no rfl (noB (isF rfl c39) rfl) (O.no rfl (noB (isF rfl c39) rfl) (O.no rfl (noB (isF rfl c39) rfl) (O.pickF (isF rfl c39) (O.j (O.j (K11 (C.ret (Outs.two rfl s9_1 rfl ?_)))))))))))))
 first
 |exact ⟨i,congrArg (λb=>Value.tuple #[.int .i64 (i:Int),.bool b]) (decide_eq_decide.2 ⟨λh=>(hA.found hp).2 ⟨by rw[Ob.keys_len];omega,((Ob.keys_get l i (by rw[Ob.keys_len];omega)).trans ((congrArg Prod.fst hxs.symm).trans (hkxs.symm.trans ((Jn.scmp_zero _ _).1 h))))⟩,λh=>by obtain ⟨q,e⟩:=(hA.found hp).1 h;exact (Jn.scmp_zero _ _).2 (hkxs.trans ((congrArg Prod.fst hxs).trans ((Ob.keys_get l i q).symm.trans e)))⟩),hA,e_1⟩
 |exact ⟨i,congrArg (λb=>Value.tuple #[.int .i64 (i:Int),.bool b]) (dF (λh=>by obtain ⟨q,e⟩:=(hA.found hp).1 h;rw[Ob.keys_len] at q;omega)).symm,hA,e_1⟩
theorem ofind_spec (v0:Value)(raw:List EntR)(l:List EntT)(F:Nat->Prop)(k:List UInt8)(w:World)(hr:Sl entF.enc w F v0 raw)(he:EntL w F raw l)(hp:(Ob.keys l).Pairwise Jn.BL)(hn:l.length<=1000000000):
 Ret prog 89 #[v0,str (k)] w (λv w'=>∃i:Nat,v=.tuple #[.int .i64 (i:Int),.bool (decide (k∈Ob.keys l))]∧Ob.At (Ob.keys l) k i∧Le w w'):=by
 refine enT [v0,str (k)] 11 func89 rfl rfl (C.sr λK1=>O.j (O.j (K1 (C.sr λK2=>O.mv (O.mv (O.call call137 (args3 rfl rfl rfl) (bsf_spec v0 raw l F k _ hr he hp hn) ?_))))));rintro v_8 w1 ⟨iv8,rfl,hAv8,e1⟩;have z1:=e1.size;refine O.extract rfl rfl (O.extract rfl rfl (O.j (O.j (K2 (C.ret (Outs.two rfl rfl rfl ?_))))));exact ⟨iv8,rfl,hAv8,e1⟩
end Go.Proofs.YtpbcafkcfobngaaGreatDoor
end
section
namespace Go.Proofs.YtpbcafkcfobngaaGreatDoor
open Go.Pn Go.RowKit _root_.Go.Proofs.Tryz
theorem zeroTab (w:World):(zeroValue 207).run prog w=.ok (.agg (Array.replicate 256 (.int .u32 0))) w:=by kernel_rfl
theorem tmade_spec (w:World):
 Ret prog 104 #[] w (λv w'=>∃b,v=.pointer (some ⟨b,0,none⟩)∧Le w w'∧Row u32E w' (λk=>k=b) b 0 Crc.table):=by
 refine enT [] 25 func104 rfl rfl (C.sr λK1=>O.j (K1 (C.sr λK2=>O.alloc zeroTab (λb1 w1 hb1 hz1 e1=>?_))));have z1:=e1.size;have h1:=hz1.own;have hl1:=h1.lt;replace h1:Own w1 b1 207 (Crc.part 0):=Crc.part0 ▸ h1;refine K2 (C.sq λK3=>C.sr λK4=>O.mv (K4 (C.bl λK5=>C.loop0 (σ:=Nat) (λf0 w0 k f w=>f 5=.int .i64 (k)∧f 0=f0 0∧f 1=f0 1∧Ext (λk=>k=b1) w0 w∧Own w b1 207 (Crc.part k)∧k<=256) (λk=>256-k) 0 ?_ ?_)))
 ·
  refine ⟨rfl,rfl,rfl,Ext.L _ _,h1,?_⟩
  omega
 rintro k f_1 w2 ⟨s5_1,s0_1,s1_1,e_1,r0_1,hk⟩;have z_1:=e_1.size;refine C.sr λK6=>O.lssI s5_1 rfl (K6 (C.sq λK7=>C.condD rfl (λc6=>?_) (λc6=>?_)))
 ·
  refine C.skip (K7 (C.sq λK8=>C.bl λK9=>C.sr λK10=>O.mv (O.j (K10 (C.sr λK11=>O.mv (O.convIU (m':=32) U3 U34 rfl rfl s5_1 (O.j (K11 (C.sq λK12=>C.sr λK13=>O.mv (K13 (C.bl λK14=>C.loop0 (σ:=Nat×BitVec 32) (λf0 w0 ⟨j,m⟩ f w=>f 3=.int .u32 ((m).toNat:Int)∧f 10=.int .i64 (j)∧f 0=f0 0∧f 1=f0 1∧f 2=f0 2∧f 5=f0 5∧w=w0∧j<=8∧m=Crc.bits j (BitVec.ofInt 32 k)) (λ⟨j,m⟩=>8-j) (0,BitVec.ofInt 32 k) ?_ ?_)))))))))))
  ·
   refine ⟨rfl,rfl,rfl,rfl,rfl,rfl,rfl,?_⟩;exact ⟨Nat.zero_le _,rfl⟩
  rintro ⟨j,m⟩ f_2 wx ⟨s3_2,s10_2,s0_2,s1_2,s2_2,s5_2,rfl,⟨hj,hm⟩⟩;refine C.sr λK15=>O.lssI s10_2 rfl (K15 (C.sq λK16=>C.condD rfl (λc11=>?_) (λc11=>?_)))
  ·
   refine C.skip (K16 (C.sq λK17=>C.bl λK18=>C.sr λK19=>O.mv (O.andU (m:=32) (b:=1#32) rfl rfl s3_2 rfl (O.j (K19 (C.sr λK20=>O.mv (O.shrU (m:=32) (c:=1) rfl rfl s3_2 rfl (O.j (K20 (C.sr λK21=>O.mv (O.eqlU (m:=32) (b:=1#32) rfl rfl (K21 (C.condD rfl (λc17=>?_) (λc17=>?_))))))))))))))
   ·
    refine C.region (O.mv (O.xorU (m:=32) (b:=3988292384#32) rfl rfl rfl rfl (O.j (O.o (K18 (K17 (C.region (O.ad s10_2 rfl (O.mv (O.o (⟨(j+1,_),⟨rfl,rfl,s0_2,s1_2,s2_2,s5_2,rfl,?_⟩,by first|omega|(simp only[];omega)⟩)))))))))));refine ⟨by omega,?_⟩;rw[hm] at*;simp only[Crc.bits]
    first|exact (Crc.bit_odd (by assumption)).symm|exact (Crc.bit_even (by assumption)).symm
   refine C.skip (K18 (K17 (C.region (O.ad s10_2 rfl (O.mv (O.o (⟨(j+1,_),⟨rfl,rfl,s0_2,s1_2,s2_2,s5_2,rfl,?_⟩,by first|omega|(simp only[];omega)⟩)))))));refine ⟨by omega,?_⟩;rw[hm] at*;simp only[Crc.bits]
   first|exact (Crc.bit_odd (by assumption)).symm|exact (Crc.bit_even (by assumption)).symm
  refine C.exit (K14 (K12 (C.region (O.mv (O.mv (O.idxA underlying207 sizeOf34 (Eq.trans s1_2 s1_1) (Eq.trans s2_2 s5_1) (by omega) (O.store sizeOf34 rfl s3_2 rfl r0_1 (by rw[Crc.part_length];omega) (λw3 hs3 e3 z3=>?_))))))))
  (try simp only[Int.toNat_natCast] at hs3);(try simp only[Nat.zero_add] at hs3);(try simp only[Nat.mul_one] at hs3)
  obtain rfl:j=8:=by omega
  rw[hm] at hs3;replace hs3:Own w3 b1 207 (Crc.part (k+1)):=by rw[<-Crc.part_set k (by omega)];exact hs3
  refine O.o (K9 (K8 (C.region (O.ad (Eq.trans s5_2 s5_1) rfl (O.mv (O.o (⟨k+1,⟨rfl,(Eq.trans s0_2 s0_1),(Eq.trans s1_2 s1_1),(Ext.T e_1 (e3)),hs3,?_⟩,by first|omega|(simp only[];omega)⟩)))))))
  omega
 refine C.exit (K5 (K3 (C.sr λK22=>O.j (K22 (C.ret (Outs.one rfl s1_1 ?_))))));obtain rfl:k=256:=by omega
 exact ⟨b1,rfl,(Ext.nr e1 e_1),Row.of_own (G:=u32F) r0_1 Crc.part_all⟩
theorem pstep_spec (b:Nat)(n:BitVec 32)(x:BitVec 8)(F:Nat->Prop)(w:World)(ht:Row u32E w F b 0 Crc.table):
 Ret prog 105 #[.pointer (some ⟨b,0,none⟩),.int .u32 ((n).toNat:Int),.int .u8 ((x).toNat:Int)] w (λv w'=>v=.int .u32 ((Crc.step n x).toNat:Int)∧w'=w):=by
 have hlt:=(n.setWidth 8^^^x).isLt;refine enT [.pointer (some ⟨b,0,none⟩),.int .u32 ((n).toNat:Int),.int .u8 ((x).toNat:Int)] 18 func105 rfl rfl (C.sr λK1=>O.j (K1 (C.sr λK2=>O.mv (O.mv (O.convUU (m:=32) (m':=8) U34 U5 rfl rfl rfl (O.mv (O.xorU (m:=8) rfl rfl rfl rfl (O.nilChk rfl (O.idxA underlying207 sizeOf34 rfl rfl (by omega) (O.loadR isAgg34 rfl rfl ht (by rw[Crc.table_length];omega) (λv14 h14=>?_)))))))))));obtain rfl:=u32E.inv h14;refine O.mv (O.shrU (m:=32) (c:=8) rfl rfl rfl rfl (O.xorU (m:=32) rfl rfl rfl rfl (O.j (K2 (C.ret (Outs.one rfl rfl (⟨?_,rfl⟩)))))));rw[Crc.step_tab];simp only[Int.toNat_natCast,Nat.mul_one];rw[Crc.table_get (by omega)];rfl
theorem cupdate_spec (s:BitVec 32)(v1:Value)(l:List UInt8)(F:Nat->Prop)(w:World)(hl:Sl byteE w F v1 l):
 Ret prog 64 #[.int .u32 ((s).toNat:Int),v1] w (λv w'=>v=.int .u32 ((Crc.update s l).toNat:Int)∧Le w w'):=by
 have hle:=hl.le;refine enT [.int .u32 ((s).toNat:Int),v1] 25 func64 rfl rfl (C.sr λK1=>O.j (K1 (C.sr λK2=>O.call call104 (argsN) (tmade_spec _) ?_)));rintro v_9 w1 ⟨bv9,rfl,e1,h9⟩;have z1:=e1.size;refine O.mv (O.notU rfl rfl rfl (O.j (O.j (K2 (C.sq λK3=>C.sr λK4=>O.mv (O.len U30 rfl (hl.L e1) (O.mv (K4 (C.bl λK5=>C.loop0 (σ:=Nat×BitVec 32) (λf0 w0 ⟨k,m⟩ f w=>f 6=.int .u32 ((m).toNat:Int)∧f 14=.int .i64 (k)∧f 4=f0 4∧f 5=f0 5∧f 12=f0 12∧f 13=f0 13∧w=w0∧k<=l.length∧m=Crc.steps (~~~ s) (l.take k)) (λ⟨k,m⟩=>l.length-k) (0, ~~~ s) ?_ ?_)))))))))
 ·
  refine ⟨rfl,rfl,rfl,rfl,rfl,rfl,rfl,?_⟩;exact ⟨Nat.zero_le _,rfl⟩
 rintro ⟨k,m⟩ f_1 wx ⟨s6_1,s14_1,s4_1,s5_1,s12_1,s13_1,rfl,⟨hk,hm⟩⟩;refine C.sr λK6=>O.lssI s14_1 s13_1 (K6 (C.sq λK7=>C.condD rfl (λc15=>?_) (λc15=>?_)))
 ·
  refine C.skip (K7 (C.sq λK8=>C.bl λK9=>C.sr λK10=>O.idx U30 Z5 rfl s12_1 (hl.L e1) s14_1 (by omega) (λa16 h16=>O.loadB isAgg5 rfl h16 (O.j (K10 (C.region (O.mv (O.mv (O.mv (O.call call105 (args3 s5_1 s6_1 rfl) (pstep_spec _ _ _ _ _ h9) ?_))))))))));rintro v_21 w2 ⟨rfl,hw_⟩;replace hw_:=hw_.symm;subst hw_;refine O.j (O.o (K9 (K8 (C.region (O.ad s14_1 rfl (O.mv (O.o (⟨(k+1,_),⟨rfl,rfl,s4_1,s5_1,s12_1,s13_1,rfl,?_⟩,by first|omega|(simp only[];omega)⟩))))))));refine ⟨by omega,?_⟩;rw[hm,Crc.steps_take _ _ (by omega)];rfl
 refine C.exit (K5 (K3 (C.sr λK11=>O.mv (O.notU rfl rfl s6_1 (O.j (K11 (C.ret (Outs.one rfl rfl (⟨?_,e1⟩)))))))));obtain rfl:k=l.length:=by omega
 rw[hm,List.take_length];rfl
theorem csum_spec (v0:Value)(l:List UInt8)(F:Nat->Prop)(w:World)(hl:Sl byteE w F v0 l):
 Ret prog 25 #[v0] w (λv w'=>v=.int .u32 ((Crc.update 0#32 l).toNat:Int)∧Le w w'):=by
 refine enT [v0] 5 func25 rfl rfl (C.sr λK1=>O.j (K1 (C.sr λK2=>O.mv (O.call call64 (args2 rfl rfl) (cupdate_spec 0#32 _ _ _ _ hl) ?_))));rintro v_4 w1 ⟨rfl,e1⟩;have z1:=e1.size;refine O.j (K2 (C.ret (Outs.one rfl rfl ?_)));exact ⟨rfl,e1⟩
end Go.Proofs.YtpbcafkcfobngaaGreatDoor
end
section
namespace Go.Proofs.YtpbcafkcfobngaaGreatDoor
open Go.Pn Go.RowKit Go.Proofs _root_.Go.Proofs.Tryz
attribute [local irreducible] O C D
theorem inf5:∃ie,prog.info? 5=some ie∧ie.size=1∧ie.bytes=1∧ie.zero=some (.int .u8 0):=by
 have h:(prog.info? 5).isSome=true:=by kernel_rfl
 exact ⟨(prog.info? 5).get h,(Option.some_get h).symm,by kernel_rfl,by kernel_rfl,by kernel_rfl⟩
theorem inf30:∃ie,prog.info? 30=some ie∧ie.size=1∧ie.bytes=24∧ie.zero=some (.slice none 0 0):=by
 have h:(prog.info? 30).isSome=true:=by kernel_rfl
 exact ⟨(prog.info? 30).get h,(Option.some_get h).symm,by kernel_rfl,by kernel_rfl,by kernel_rfl⟩
theorem number_spec (n:BitVec 64)(w:World):
 Ret prog 106 #[.int .u64 ((n).toNat:Int)] w (λv w'=>Le w w'∧OwnF byteF 5 w.heap.size w' v (Cn.num n.toNat)):=by
 obtain ⟨ie5,ti5,ts5,tb5,tz5⟩:=inf5;refine enT [.int .u64 ((n).toNat:Int)] 19 func106 rfl rfl (C.sr λK1=>O.j (K1 (C.sr λK2=>O.j (K2 (C.sq λK3=>C.bl λK4=>C.loop0 (σ:=BitVec 64×Value×List UInt8) (λf0 w0 ⟨m,o,xs⟩ f wz=>f 0=.int .u64 ((m).toNat:Int)∧f 3=o∧f 2=f0 2∧Le w wz∧OwnF byteF 5 w.heap.size wz o (xs)∧xs++Cn.num m.toNat=Cn.num n.toNat) (λ⟨m,o,xs⟩=>m.toNat) (n,.slice none 0 0,[]) ?_ ?_)))))
 ·
  refine ⟨rfl,rfl,rfl,leR,(OwnF.nil _ _ _ _),?_⟩
  rfl
 rintro ⟨m,o,xs⟩ f_1 w1 ⟨s0_1,s3_1,s2_1,e_1,r0_1,hI⟩;have z_1:=e_1.size;have r0_1s:=r0_1.sl;have hxl:xs.length<=10:=by
  have h1:=Cn.num_u n;rw[<-hI,List.length_append] at h1
  omega
 refine C.sq λK5=>C.sr λK6=>O.mv (O.geqU (m:=64) (b:=128#64) s0_1 rfl (K6 (C.condD rfl (λc5=>?_) (λc5=>?_))))
 ·
  have hs5:¬m.toNat<128:=by simpa[BitVec.le_def,BitVec.lt_def] using c5
  refine C.skip (K5 (C.sq λK7=>C.bl λK8=>C.region (O.mv (O.mv (O.convUU (m:=64) (m':=8) U110 U5 rfl rfl s0_1 (O.orU (m:=8) (b:=128#8) rfl rfl rfl rfl (O.lit1 U30 ti5 ts5 tz5 rfl rfl (λb12 w2 hb12 hz12 e2=>?_))))))));have z2:=e2.size;have h12:=hz12.own;have hl12:=h12.lt;refine O.appF (G:=byteF) U30 ti5 tz5 ts5 rfl s3_1 rfl (r0_1.L e2) (Sl.one (G:=byteF) (x:=UInt8.ofBitVec (m.setWidth 8|||128#8)) h12 rfl rfl) (by rw[tb5];simp;omega) (by unfold maxLen;simp;omega) (by omega) (λv13 w3 h13 e3=>?_);have z3:=e3.size;have h13s:=h13.sl;refine O.j (O.o (K8 (K7 (C.region (O.mv (O.shrU (m:=64) (c:=7) rfl rfl s0_1 rfl (O.j (O.o (⟨(m>>>7,_,_),⟨rfl,rfl,s2_1,(Ext.new (Ext.T e_1 e2) e3 (by intro i hi h;have:=(r0_1.L e2).bk_ge i h;omega)),h13,?_⟩,by show (m>>>7).toNat<m.toNat;rw[BitVec.toNat_ushiftRight,Nat.shiftRight_eq_div_pow];omega⟩)))))))));rw[<-hI,Cn.num_step hs5,List.append_assoc]
  rfl
 have hs5:m.toNat<128:=by simpa[BitVec.le_def,BitVec.lt_def] using c5
 refine C.exit (K4 (K3 (C.sr λK9=>O.mv (O.mv (O.convUU (m:=64) (m':=8) U110 U5 rfl rfl s0_1 (O.lit1 U30 ti5 ts5 tz5 rfl rfl (λb17 w4 hb17 hz17 e4=>?_)))))));have z4:=e4.size;have h17:=hz17.own;have hl17:=h17.lt;refine O.appF (G:=byteF) U30 ti5 tz5 ts5 rfl s3_1 rfl (r0_1.L e4) (Sl.one (G:=byteF) (x:=UInt8.ofBitVec (m.setWidth 8)) h17 rfl rfl) (by rw[tb5];simp;omega) (by unfold maxLen;simp;omega) (by omega) (λv18 w5 h18 e5=>?_);have z5:=e5.size;have h18s:=h18.sl;refine O.j (K9 (C.ret (Outs.one rfl rfl ?_)));exact ⟨(Ext.new (Ext.T e_1 e4) e5 (by intro i hi h;have:=(r0_1.L e4).bk_ge i h;omega)),h18.lst (by rw[<-hI,Cn.num_last hs5])⟩
theorem grow_spec (m:Nat)(w:World)(hm:m<=139000000000000):
 Ret prog 242 #[.slice none 0 0,.int .i64 ((m:Int))] w (λv w'=>Le w w'∧OwnF byteF 5 w.heap.size w' v ([])):=by
 obtain ⟨ie5,ti5,ts5,tb5,tz5⟩:=inf5;refine enT [.slice none 0 0,.int .i64 ((m:Int))] 27 func242 rfl rfl (C.sr λK1=>O.j (K1 (C.sq λK2=>C.sr λK3=>O.mv (O.lssI rfl rfl (O.cast (v':=.bool false) (cB (by exact dF (by omega))) (K3 (C.condF rfl (C.skip (K2 (C.sq λK4=>C.sr λK5=>O.mv (O.mv (O.capL U30 rfl (O.mv (O.lenL U30 rfl (O.sb rfl rfl (O.sb rfl rfl (O.cast (v':=.int .i64 (m:Int)) (cI (by omega)) (O.j (K5 (C.sr λK6=>O.mv (O.gtrI rfl rfl (K6 (C.condD rfl (λc16=>?_) (λc16=>?_))))))))))))))))))))))))
 ·
  have hm0:0<m:=by omega
  refine C.region (O.mv (O.mv (O.capL U30 rfl (O.subNil U30 Z5 rfl rfl (O.mv (O.appZ (G:=byteF) (zx:=(0:UInt8)) (m:=m) U30 U3 ti5 tz5 ts5 rfl rfl rfl (by omega) (by rw[tb5];omega) (by unfold maxLen;omega) (Nat.le_refl _) (λb22 cap22 w1 hb22 hcap22 h22 e1=>?_)))))));have z1:=e1.size;have h22s:=h22.sl;refine O.mv (O.lenL U30 rfl (O.subLo U30 Z5 rfl rfl (by omega) (by omega) (O.j (O.o (K4 (C.sr λK7=>O.mv (O.j (K7 (C.ret (Outs.one rfl rfl ?_))))))))))
  (have hf:=h22
   have hq:(List.replicate m (0:UInt8)).length=m:=by simp
   rw[show Value.slice (some ⟨b22,0,none⟩) m cap22=Value.slice (some ⟨b22,0,none⟩) (List.replicate m (0:UInt8)).length cap22 from by rw[hq]] at hf;exact ⟨e1,((hf.first (k:=0) (Nat.zero_le _)).low (by omega)).lst rfl⟩)
 refine C.skip (K4 (C.sr λK8=>O.mv (O.j (K8 (C.ret (Outs.one rfl rfl ?_))))))
 first
 |(have hf:={app:22}
   have hq:(List.replicate m (0:UInt8)).length=m:=by simp
   rw[show Value.slice (some ⟨b22,0,none⟩) m cap22=Value.slice (some ⟨b22,0,none⟩) (List.replicate m (0:UInt8)).length cap22 from by rw[hq]] at hf;exact ⟨leR,((hf.first (k:=0) (Nat.zero_le _)).low (by omega)).lst rfl⟩)
 |exact ⟨leR,OwnF.nil _ _ _ _⟩
theorem concat_spec (v0:Value)(ps:List (List UInt8))(F:Nat->Prop)(w:World)(hl:Sl (sliE byteE) w F v0 ps)(hn:ps.flatten.length<=139000000000000):
 Ret prog 186 #[v0] w (λv w'=>Le w w'∧OwnF byteF 5 w.heap.size w' v (ps.flatten)):=by
 have hle:=hl.le;obtain ⟨ie5,ti5,ts5,tb5,tz5⟩:=inf5;refine enT [v0] 36 func186 rfl rfl (C.sr λK1=>O.j (K1 (C.sr λK2=>O.j (K2 (C.sq λK3=>C.sr λK4=>O.mv (O.len U38 rfl hl (O.mv (K4 (C.bl λK5=>C.loop0 (σ:=Nat) (λf0 w0 k f wz=>f 3=.int .i64 (((ps.take k).flatten.length:Nat))∧f 11=.int .i64 (k)∧f 0=f0 0∧f 2=f0 2∧f 9=f0 9∧f 10=f0 10∧Le w wz∧k<=ps.length) (λk=>ps.length-k) 0 ?_ ?_)))))))))
 ·
  refine ⟨rfl,rfl,rfl,rfl,rfl,rfl,leR,?_⟩;exact Nat.zero_le _
 rintro k f_1 w1 ⟨s3_1,s11_1,s0_1,s2_1,s9_1,s10_1,e_1,hk⟩;have z_1:=e_1.size;refine C.sr λK6=>O.lssI s11_1 s10_1 (K6 (C.sq λK7=>C.condD rfl (λc12=>?_) (λc12=>?_)))
 ·
  have hk2:k<ps.length:=by omega
  have hfk:=Cn.flatten_take_le ps (k+1);refine C.skip (K7 (C.sq λK8=>C.bl λK9=>C.sr λK10=>O.idx U38 Z30 rfl s9_1 (hl.L e_1) s11_1 (by omega) (λa13 h13=>O.loadSl isAgg30 rfl h13 (λv14 h14=>O.j (K10 (C.sr λK11=>O.mv (O.mv (O.len U30 rfl h14 (O.addI s3_1 rfl (by have h9:=Cn.flatten_take hk2;have h8:(ps.take (k+1)).flatten.length=(ps.take k).flatten.length+ps[k].length:=(by rw[h9,List.length_append]);simp only[Int.toNat_natCast];unfold InI;omega) ?_)))))))));refine O.cast (v':=.int .i64 (((ps.take (k+1)).flatten.length:Nat):Int)) (cI (by rw[Cn.flatten_take hk2,List.length_append,Int.natCast_add];rfl)) (O.j (K11 (C.sr λK12=>O.mv (O.lssI rfl rfl (O.cast (v':=.bool false) (cB (by exact dF (by omega))) (K12 (C.condF rfl (C.skip (K9 (K8 (C.region (O.ad s11_1 rfl (O.mv (O.o (⟨k+1,⟨rfl,rfl,s0_1,s2_1,s9_1,s10_1,e_1,?_⟩,by first|omega|(simp only[];omega)⟩)))))))))))))))
  omega
 have hfk:=Cn.flatten_take_le ps k;refine C.exit (K5 (K3 (C.sr λK13=>O.mv (O.call call242 (args2 rfl s3_1) (grow_spec _ _ (by omega)) ?_))));rintro v_24 w2 ⟨e2,h24⟩;have z2:=e2.size;have h24s:=h24.sl;refine O.j (K13 (C.sq λK14=>C.sr λK15=>O.mv (O.len U38 s0_1 ((hl.L e_1).L e2) (O.mv (K15 (C.bl λK16=>C.loop0 (σ:=Nat×Value) (λf0 w0 ⟨k,o⟩ f wz=>f 6=o∧f 27=.int .i64 (k)∧f 2=f0 2∧f 25=f0 25∧f 26=f0 26∧Le w wz∧OwnF byteF 5 w.heap.size wz o ((ps.take k).flatten)∧k<=ps.length) (λ⟨k,o⟩=>ps.length-k) (0,v_24) ?_ ?_))))))
 ·
  refine ⟨rfl,rfl,rfl,rfl,rfl,(Ext.T e_1 e2),(h24.low (by omega)),?_⟩;exact Nat.zero_le _
 rintro ⟨k,o⟩ f_2 w3 ⟨s6_2,s27_2,s2_2,s25_2,s26_2,e_2,r0_2,hk⟩;have z_2:=e_2.size;have r0_2s:=r0_2.sl;refine C.sr λK17=>O.lssI s27_2 s26_2 (K17 (C.sq λK18=>C.condD rfl (λc28=>?_) (λc28=>?_)))
 ·
  have hk2:k<ps.length:=by omega
  have hfk:=Cn.flatten_take_le ps (k+1);rw[Cn.flatten_take hk2,List.length_append] at hfk;refine C.skip (K18 (C.sq λK19=>C.bl λK20=>C.sr λK21=>O.idx U38 Z30 rfl (Eq.trans s25_2 s0_1) (hl.L e_2) s27_2 (by omega) (λa29 h29=>O.loadSl isAgg30 rfl h29 (λv30 h30=>O.j (K21 (C.region (O.mv (O.mv (O.appF (G:=byteF) U30 ti5 tz5 ts5 rfl s6_2 rfl r0_2 h30 (by rw[tb5];simp only[Int.toNat_natCast];omega) (by unfold maxLen;simp only[Int.toNat_natCast];omega) (by omega) (λv33 w4 h33 e4=>?_))))))))));have z4:=e4.size;have h33s:=h33.sl;refine O.j (O.o (K20 (K19 (C.region (O.ad s27_2 rfl (O.mv (O.o (⟨(k+1,_),⟨rfl,rfl,s2_2,s25_2,s26_2,(Ext.new e_2 e4 (by intro i hi h;have:=r0_2.bk_ge i h;omega)),(h33.lst (Cn.flatten_take hk2).symm),?_⟩,by first|omega|(simp only[];omega)⟩))))))))
  omega
 refine C.exit (K16 (K14 (C.sr λK22=>O.mv (O.j (K22 (C.ret (Outs.one rfl s6_2 ?_)))))));obtain rfl:k=ps.length:=by omega
 rw[List.take_length] at r0_2;exact ⟨e_2,r0_2⟩
theorem hgw_of {v:Value}{bw:Nat}(h:∀k,bk v k->k≠bw):bk v bw->False:=λq=>h bw q rfl
theorem ones3 {v v':Value}(h:v.oneCell'=true)(h':v'.oneCell'=true):∀u∈[v,v'],u.oneCell'=true:=by
 intro u hu;simp only[List.mem_cons,List.not_mem_nil,or_false] at hu;rcases hu with rfl|rfl
 ·exact h
 ·exact h'
theorem write_spec (bw g:Nat)(xs:List UInt8)(v1:Value)(ps:List (List UInt8))(F:Nat->Prop)(w:World)(hw:Wr 129 5 w bw g (xs))(hp:Sl (sliE byteE) w F v1 ps)(hx:xs.length<=138000000000000)(hn:ps.flatten.length<=1000000000000):
 Ret prog 125 #[.pointer (some ⟨bw,0,none⟩),v1] w (λv w'=>v=.tuple #[]∧∃g',Wr 129 5 w' bw g' (xs++(ps.flatten))∧(g'=g∨g'=bw∨w.heap.size<=g')∧(bw<w'.heap.size∧g'<w'.heap.size)∧Ext (λk=>k=bw∨k=g) w w'):=by
 obtain ⟨vw,hb,ho,hg,hgb⟩:=hw.cell;have hwl:=hw.lt;have hgw:=hgw_of hgb;obtain ⟨ie5,ti5,ts5,tb5,tz5⟩:=inf5;refine enT [.pointer (some ⟨bw,0,none⟩),v1] 16 func125 rfl rfl (C.sr λK1=>O.mv (O.neqP0 underlying172 rfl (K1 (C.condT rfl (C.drawB (wB:=(bare w)) (by kernel_rfl) λw1 e1=>?_)))));have z1:=e1.size;refine D.mv 0 rfl (Ext.bare (Ext.nt (Ext.L (λ_=>True) _) e1)) (D.mv 1 rfl (Ext.bare (Ext.nt (Ext.L (λ_=>True) _) e1)) (D.tk 2 rfl rfl rfl rfl (Ext.bare (Ext.nt (Ext.L (λ_=>True) _) e1)) (nil_form rfl) (λ_ hw_ _ hN=>O.nilChk rfl (O.o hN)) (D.t 3 rfl (Ext.bare (Ext.nt (Ext.L (λ_=>True) _) e1)) (λ_ _ _ hN=>O.fa U129 rfl Z30 rfl (O.o hN)) (D.mv 5 rfl (Ext.bare (Ext.nt (Ext.L (λ_=>True) _) e1)) (D.many [4,6] (by kernel_rfl) (by decide) ⟨?_,?_,trivial⟩)))))
 ·
  refine D.stepU rfl rfl (O.loadO isAgg30 rfl (hb.L e1) rfl (O.o ⟨(Ext.bare (Ext.nt (Ext.L (λ_=>True) _) e1)),D.on 6 rfl rfl (O.call call186 (args1 rfl) (concat_spec _ ps _ _ (hp.L e1) (by omega)) ?_)⟩));rintro v_12 w2 ⟨e2,h12⟩;have z2:=e2.size;refine O.o ⟨(Ext.bare (Ext.nt (Ext.nt (Ext.L (λ_=>True) _) e1) e2)),?_⟩;have h12s:=h12.sl;refine D.on 7 rfl rfl (O.appW (G:=byteF) U30 ti5 tz5 ts5 rfl rfl rfl ((ho.L e1).L e2) h12s (by rw[tb5];omega) (by unfold maxLen;omega) (Nat.zero_le _) (λv13 w3 h13 e3 hw13=>?_));have e3m:Ext (λk=>k=g) w2 w3:=e3.mono (λk _ hk=>hg k hk);have z3:=e3.size;have h13s:=h13.sl;refine O.o ⟨(Ext.bare (Ext.nt (Ext.nt (Ext.nt (Ext.L (λ_=>True) _) e1) e2) e3)),?_⟩;have hput:∀k,bk v13 k->k≠bw:=by
   intro k hk h0;rcases hw13 k hk with q|q
   ·exact hgb k q h0
   ·omega
  refine D.tk 8 rfl rfl rfl rfl (Ext.bare (Ext.nt (Ext.nt (Ext.nt (Ext.L (λ_=>True) _) e1) e2) e3)) (nil_form rfl) (λ_ hw_ _ hN=>O.nilChk rfl (O.o hN)) (D.t 9 rfl (Ext.bare (Ext.nt (Ext.nt (Ext.nt (Ext.L (λ_=>True) _) e1) e2) e3)) (λ_ _ _ hN=>O.fa U129 rfl Z30 rfl (O.o hN)) (D.on 10 rfl rfl (O.store Z30 rfl rfl h13.one (((hb.L e1).L e2).kM e3 (λh=>hgw h)) (by simp) (λw4 hs4 e4 z4=>?_))))
  try simp only[Nat.zero_add] at hs4
  refine O.o ⟨(Ext.bare (Ext.nt (Ext.nt (Ext.nt (Ext.nt (Ext.L (λ_=>True) _) e1) e2) e3) e4)),D.dn (Outs.none rfl ?_)⟩;obtain ⟨g',hq,hgp⟩:=Wr.put (ty:=129) hs4 (h13.kM e4 (λk hk h=>hput k hk h)) hput;refine ⟨rfl,g',hq,?_,hq.lt,(Ext.nw (Ext.nw (Ext.nw (Ext.nw (Ext.L _ _) e1) e2) e3m) e4)⟩;rcases hgp with ⟨q,_⟩|q
  ·rcases hw13 g' q with q2|q2
   ·exact .inl (hg g' q2)
   ·exact .inr (.inr (by omega))
  ·exact .inr (.inl q)
 refine D.stepU rfl rfl (O.call call186 (args1 rfl) (concat_spec _ ps _ _ (hp.L e1) (by omega)) ?_);rintro v_12 w5 ⟨e5,h12⟩;have z5:=e5.size;refine O.o ⟨(Ext.bare (Ext.nt (Ext.nt (Ext.L (λ_=>True) _) e1) e5)),?_⟩;have h12s:=h12.sl;refine D.on 4 rfl rfl (O.loadO isAgg30 rfl ((hb.L e1).L e5) rfl (O.o ⟨(Ext.bare (Ext.nt (Ext.nt (Ext.L (λ_=>True) _) e1) e5)),D.on 7 rfl rfl (O.appW (G:=byteF) U30 ti5 tz5 ts5 rfl rfl rfl ((ho.L e1).L e5) h12s (by rw[tb5];omega) (by unfold maxLen;omega) (Nat.zero_le _) (λv13 w6 h13 e6 hw13=>?_))⟩));have e6m:Ext (λk=>k=g) w5 w6:=e6.mono (λk _ hk=>hg k hk);have z6:=e6.size;have h13s:=h13.sl;refine O.o ⟨(Ext.bare (Ext.nt (Ext.nt (Ext.nt (Ext.L (λ_=>True) _) e1) e5) e6)),?_⟩;have hput:∀k,bk v13 k->k≠bw:=by
  intro k hk h0;rcases hw13 k hk with q|q
  ·exact hgb k q h0
  ·omega
 refine D.tk 8 rfl rfl rfl rfl (Ext.bare (Ext.nt (Ext.nt (Ext.nt (Ext.L (λ_=>True) _) e1) e5) e6)) (nil_form rfl) (λ_ hw_ _ hN=>O.nilChk rfl (O.o hN)) (D.t 9 rfl (Ext.bare (Ext.nt (Ext.nt (Ext.nt (Ext.L (λ_=>True) _) e1) e5) e6)) (λ_ _ _ hN=>O.fa U129 rfl Z30 rfl (O.o hN)) (D.on 10 rfl rfl (O.store Z30 rfl rfl h13.one (((hb.L e1).L e5).kM e6 (λh=>hgw h)) (by simp) (λw7 hs7 e7 z7=>?_))))
 try simp only[Nat.zero_add] at hs7
 refine O.o ⟨(Ext.bare (Ext.nt (Ext.nt (Ext.nt (Ext.nt (Ext.L (λ_=>True) _) e1) e5) e6) e7)),D.dn (Outs.none rfl ?_)⟩;obtain ⟨g',hq,hgp⟩:=Wr.put (ty:=129) hs7 (h13.kM e7 (λk hk h=>hput k hk h)) hput;refine ⟨rfl,g',hq,?_,hq.lt,(Ext.nw (Ext.nw (Ext.nw (Ext.nw (Ext.L _ _) e1) e5) e6m) e7)⟩;rcases hgp with ⟨q,_⟩|q
 ·rcases hw13 g' q with q2|q2
  ·exact .inl (hg g' q2)
  ·exact .inr (.inr (by omega))
 ·exact .inr (.inl q)
theorem wnum_spec (bw g:Nat)(xs:List UInt8)(n:BitVec 64)(w:World)(hw:Wr 129 5 w bw g (xs))(hx:xs.length<=136000000000000):
 Ret prog 79 #[.pointer (some ⟨bw,0,none⟩),.int .u64 ((n).toNat:Int)] w (λv w'=>v=.tuple #[]∧∃g',Wr 129 5 w' bw g' (xs++(Cn.num n.toNat))∧(g'=g∨g'=bw∨w.heap.size<=g')∧(bw<w'.heap.size∧g'<w'.heap.size)∧Ext (λk=>k=bw∨k=g) w w'):=by
 have hwl:=hw.lt;obtain ⟨ie30,ti30,ts30,tb30,tz30⟩:=inf30;refine enT [.pointer (some ⟨bw,0,none⟩),.int .u64 ((n).toNat:Int)] 9 func79 rfl rfl (C.region (O.mv (O.mv (O.call call106 (args1 rfl) (number_spec n _) ?_))));rintro v_6 w1 ⟨e1,h6⟩;have z1:=e1.size;have h6s:=h6.sl;replace h6:=h6;refine O.lit1 U38 ti30 ts30 tz30 rfl h6.one (λb7 w2 hb7 hz7 e2=>?_);have z2:=e2.size;have h7:=hz7.own;have hl7:=h7.lt;refine O.call call125 (args2 rfl rfl) (write_spec bw g xs _ [Cn.num n.toNat] _ _ ((hw.L e1).L e2) (Sl.lits1 h7 (h6s.L e2)) (by omega) (by have:=Cn.num_u n;simp;omega)) ?_;rintro v_8 w3 ⟨rfl,gv8,hv8,hgv8,hlv8,e3⟩;have z3:=e3.size;refine O.o (Outs.none rfl ?_);exact ⟨rfl,gv8,by simpa using hv8,by omega,hlv8,(Ext.nw (Ext.nw (Ext.nw (Ext.L _ _) e1) e2) e3)⟩
theorem wput_spec (bw g:Nat)(xs:List UInt8)(v1:Value)(ys:List UInt8)(F:Nat->Prop)(w:World)(hw:Wr 129 5 w bw g (xs))(hx:xs.length<=136000000000000)(hy:Sl byteE w F v1 ys)(hn:ys.length<=10000000):
 Ret prog 82 #[.pointer (some ⟨bw,0,none⟩),v1] w (λv w'=>v=.tuple #[]∧∃g',Wr 129 5 w' bw g' (xs++(ys))∧(g'=g∨g'=bw∨w.heap.size<=g')∧(bw<w'.heap.size∧g'<w'.heap.size)∧Ext (λk=>k=bw∨k=g) w w'):=by
 have hwl:=hw.lt;obtain ⟨ie30,ti30,ts30,tb30,tz30⟩:=inf30;refine enT [.pointer (some ⟨bw,0,none⟩),v1] 8 func82 rfl rfl (C.region (O.mv (O.mv (O.lit1 U38 ti30 ts30 tz30 rfl hy.oneC (λb6 w1 hb6 hz6 e1=>?_)))));have z1:=e1.size;have h6:=hz6.own;have hl6:=h6.lt;refine O.call call125 (args2 rfl rfl) (write_spec bw g xs _ [ys] _ _ (hw.L e1) (Sl.lits1 h6 (hy.L e1)) (by omega) (by simp;omega)) ?_;rintro v_7 w2 ⟨rfl,gv7,hv7,hgv7,hlv7,e2⟩;have z2:=e2.size;refine O.o (Outs.none rfl ?_);exact ⟨rfl,gv7,by simpa using hv7,by omega,hlv7,(Ext.nw (Ext.nw (Ext.L _ _) e1) e2)⟩
theorem wstr_spec (bw g:Nat)(xs:List UInt8)(s:List UInt8)(w:World)(hw:Wr 129 5 w bw g (xs))(hx:xs.length<=136000000000000)(hn:s.length<=1000000):
 Ret prog 80 #[.pointer (some ⟨bw,0,none⟩),str (s)] w (λv w'=>v=.tuple #[]∧∃g',Wr 129 5 w' bw g' (xs++(Cn.strB s))∧(g'=g∨g'=bw∨w.heap.size<=g')∧(bw<w'.heap.size∧g'<w'.heap.size)∧Ext (λk=>k=bw∨k=g) w w'):=by
 have hwl:=hw.lt;obtain ⟨ie30,ti30,ts30,tb30,tz30⟩:=inf30;refine enT [.pointer (some ⟨bw,0,none⟩),str (s)] 13 func80 rfl rfl (C.region (O.mv (O.mv (O.lenS U9 rfl (O.convIU (m':=64) U3 U110 rfl rfl rfl (O.call call106 (args1 rfl) (number_spec (BitVec.ofInt 64 (s.length:Int)) _) ?_))))));rintro v_8 w1 ⟨e1,h8⟩;have z1:=e1.size;have h8s:=h8.sl;refine O.mv (O.strB U9 U30 U5 rfl (by unfold maxLen;omega) (λb10 cap10 w2 hb10 hc10 h10 hs10 e2=>?_));have z2:=e2.size;refine O.litn [v_8,.slice (some ⟨b10,0,none⟩) s.length cap10] U38 ti30 ts30 tz30 rfl (by decide) (by decide) rfl (ones3 h8.one rfl) (λb11 w3 hb11 hz11 e3=>?_);have z3:=e3.size;have h11:=hz11.own;have hl11:=h11.lt;refine O.call call125 (args2 rfl rfl) (write_spec bw g xs _ [Cn.num (BitVec.ofInt 64 (s.length:Int)).toNat,s] _ _ (((hw.L e1).L e2).L e3) (Sl.lits2 h11 ((h8s.L e2).L e3) (hs10.L e3)) (by omega) (by have:=Cn.num_u (BitVec.ofInt 64 (s.length:Int));simp only[List.flatten_cons,List.flatten_nil,List.length_append,List.length_nil];omega)) ?_;rintro v_12 w4 ⟨rfl,gv12,hv12,hgv12,hlv12,e4⟩;have z4:=e4.size;refine O.o (Outs.none rfl (⟨rfl,gv12,hv12.lst ?_,by omega,hlv12,(Ext.nw (Ext.nw (Ext.nw (Ext.nw (Ext.L _ _) e1) e2) e3) e4)⟩));unfold Cn.strB;rw[Cn.u_def,Cn.u_nat (by omega)]
 simp
theorem cloneB_spec (v0:Value)(l:List UInt8)(F:Nat->Prop)(w:World)(hl:Sl byteE w F v0 l)(hn:l.length<=139000000000000):
 Ret prog 127 #[v0] w (λv w'=>Le w w'∧OwnF byteF 5 w.heap.size w' v (l)):=by
 have hle:=hl.le;obtain ⟨ie5,ti5,ts5,tb5,tz5⟩:=inf5;refine enT [v0] 8 func127 rfl rfl (C.sr λK1=>O.j (K1 (C.sq λK2=>C.sr λK3=>O.mv (O.eqlNilS U30 rfl hl (K3 (C.cond rfl (λc4=>?_) (λc4=>?_)))))))
 ·
  refine C.sr λK4=>O.j (K4 (C.ret (Outs.one rfl rfl ?_)))
  (obtain rfl:=isNilS_nil hl c4
   exact ⟨leR,OwnF.nil _ _ _ _⟩)
 refine C.skip (K2 (C.sr λK5=>O.lit0 U30 ti5 (λb5 w1 hb5 hz5 e1=>?_)));have z1:=e1.size;have hl5:=hz5.own.lt;have h1005:OwnF byteF 5 w.heap.size w1 _ []:=OwnF.lit0 hz5 hb5;refine O.mv (O.appF (G:=byteF) U30 ti5 tz5 ts5 rfl rfl rfl h1005 (hl.L e1) (by rw[tb5];simp;omega) (by unfold maxLen;simp;omega) (by omega) (λv7 w2 h7 e2=>?_));have z2:=e2.size;have h7s:=h7.sl;refine O.j (K5 (C.ret (Outs.one rfl rfl ?_)))
 first
 |(obtain rfl:=isNilS_nil hl c4
   exact ⟨(Ext.new e1 e2 (by intro i hi h;have:=h1005.bk_ge i h;omega)),OwnF.nil _ _ _ _⟩)
 |exact ⟨(Ext.new e1 e2 (by intro i hi h;have:=h1005.bk_ge i h;omega)),h7⟩
theorem wbytes_spec (bw g:Nat)(xs:List UInt8)(w:World)(hw:Wr 129 5 w bw g (xs))(hx:xs.length<=139000000000000):
 Ret prog 83 #[.pointer (some ⟨bw,0,none⟩)] w (λv w'=>Le w w'∧OwnF byteF 5 w.heap.size w' v (xs)):=by
 obtain ⟨vw,hb,ho,hg,hgb⟩:=hw.cell;have hsl:=ho.sl;refine enT [.pointer (some ⟨bw,0,none⟩)] 10 func83 rfl rfl (C.sr λK1=>O.j (K1 (C.sq λK2=>C.sr λK3=>O.mv (O.eqlP0 underlying172 rfl (K3 (C.condF rfl (C.skip (K2 (C.sr λK4=>O.mv (O.nilChk rfl (O.fa U129 rfl Z30 rfl (O.loadO isAgg30 rfl hb rfl (O.call call127 (args1 rfl) (cloneB_spec _ xs _ _ hsl hx) ?_)))))))))))));rintro v_9 w1 ⟨e1,h9⟩;have z1:=e1.size;refine O.j (K4 (C.ret (Outs.one rfl rfl ?_)));exact ⟨e1,h9.low (by omega)⟩
theorem seen1_spec (v0:Value)(l:List Dt.Dot)(F:Nat->Prop)(bc bw g:Nat)(xs:List UInt8)(w:World)(hl:Sl Dt.dotF.enc w F v0 l)(ho:Own w bc 172 [.pointer (some ⟨bw,0,none⟩)])(hw:Wr 129 5 w bw g (xs))(hx:xs.length<=135000000000000)(hF:∀k,F k->k≠bw∧k≠g∧k<w.heap.size)(hbc:bc≠bw∧bc≠g)(hn:l.length<=1000000):
 Ret prog 264 #[v0,.pointer (some ⟨bc,0,none⟩)] w (λv w'=>v=.tuple #[]∧∃g',Wr 129 5 w' bw g' (xs++(Cn.dotsB l))∧(g'=g∨g'=bw∨w.heap.size<=g')∧(bw<w'.heap.size∧g'<w'.heap.size)∧Ext (λk=>k=bw∨k=g) w w'):=by
 have hwl:=hw.lt;have hle:=hl.le;have hol:=ho.lt;have hnl:=Cn.num_le l.length (by omega);refine enT [v0,.pointer (some ⟨bc,0,none⟩)] 27 func264 rfl rfl (C.sr λK1=>O.loadO isAgg172 rfl ho rfl (O.mv (O.len U41 rfl hl (O.convIU (m':=64) U3 U110 rfl rfl rfl (O.call call79 (args2 rfl rfl) (wnum_spec bw g xs (BitVec.ofInt 64 (l.length:Int)) _ hw (by omega)) ?_)))));rintro v_9 w1 ⟨rfl,gv9,hv9,hgv9,hlv9,e1⟩;have z1:=e1.size;refine K1 (C.sr λK2=>O.mv (O.len U41 rfl (hl.keepA e1) (O.mv (K2 (C.bl λK3=>C.loop0 (σ:=Nat×Nat) (λf0 w0 ⟨k,gl⟩ f w=>f 12=.int .i64 (k)∧f 1=f0 1∧f 10=f0 10∧f 11=f0 11∧Ext (λk=>k=bw∨k=gv9) w0 w∧Wr 129 5 w bw gl (xs++(Cn.num l.length++(l.take k).flatMap Cn.dotB))∧k<=l.length∧(gl=gv9∨gl=bw∨w0.heap.size<=gl)∧bw<w.heap.size∧gl<w.heap.size) (λ⟨k,gl⟩=>l.length-k) (0,gv9) ?_ ?_)))))
 ·
  refine ⟨rfl,rfl,rfl,rfl,Ext.L _ _,(hv9.lst (by rw[Cn.u_def,Cn.u_nat (by omega)];simp)),?_⟩;exact ⟨Nat.zero_le _,.inl rfl,by omega,by omega⟩
 rintro ⟨k,gl⟩ f_1 w2 ⟨s12_1,s1_1,s10_1,s11_1,e_1,r0_1,⟨hk,hgl,hgl2,hgl3⟩⟩;have z_1:=e_1.size;have hfl:=Cn.flatMap_take_le (f:=Cn.dotB) (b:=20) (l:=l) (λx _=>Cn.dotB_le x) hk;refine C.sr λK4=>O.lssI s12_1 s11_1 (K4 (C.sq λK5=>C.condD rfl (λc13=>?_) (λc13=>?_)))
 ·
  have hk2:k<l.length:=by omega
  refine C.skip (K5 (C.sq λK6=>C.bl λK7=>C.sr λK8=>O.idx U41 Z112 rfl s10_1 ((hl.keepA e1).keepA e_1) s12_1 (by omega) (λa14 h14=>O.loadG (G:=Dt.dotF) isAgg112 Z112 rfl h14 ?_)));obtain ⟨u,hu⟩:∃u:Dt.Dot,u=l[k]:=⟨_,rfl⟩
  refine O.cast (v':=Dt.dv u) (by rw[hu];rfl) (O.alloc zeroValue112 (λb4 w3 hb4 hz4 e3=>?_));have z3:=e3.size;have h4:=hz4.own;have hl4:=h4.lt;refine O.storeA (vs:=[.int .i64 u.1,.int .i64 u.2]) Z112 rfl rfl rfl (by simp[Value.oneCell']) h4 (leB rfl) (λw4 hs4 e4 z4=>K8 (C.sr λK9=>O.loadO isAgg172 s1_1 ((((ho.kO e1).kO e_1).L e3).kO e4) rfl (O.fa U112 rfl Z3 rfl (O.loadO isAgg3 rfl hs4 rfl (O.convIU (m':=64) U3 U110 rfl rfl rfl (O.call call79 (args2 rfl rfl) (wnum_spec bw gl _ (BitVec.ofInt 64 u.1) _ ((r0_1.L e3).keepA e4) (by simp only[List.length_append];omega)) ?_))))));rintro v_20 w5 ⟨rfl,gv20,hv20,hgv20,hlv20,e5⟩;have z5:=e5.size;refine K9 (C.region (O.loadO isAgg172 s1_1 (((((ho.kO e1).kO e_1).L e3).kO e4).kO e5) rfl (O.fa U112 rfl Z3 rfl (O.loadO isAgg3 rfl (hs4.kO e5) rfl (O.convIU (m':=64) U3 U110 rfl rfl rfl (O.call call79 (args2 rfl rfl) (wnum_spec bw gv20 _ (BitVec.ofInt 64 u.2) _ hv20 (by have:=Cn.num_u (BitVec.ofInt 64 u.1);simp only[List.length_append];omega)) ?_))))));rintro v_25 w6 ⟨rfl,gv25,hv25,hgv25,hlv25,e6⟩;have z6:=e6.size;refine O.o (K7 (K6 (C.region (O.ad s12_1 rfl (O.mv (O.o (⟨(k+1,gv25),⟨rfl,s1_1,s10_1,s11_1,(Ext.nw (Ext.nw (Ext.nw (Ext.nw (Ext.nw (Ext.L _ _) e_1) e3) e4) e5) e6),(hv25.lst (by rw[Cn.flatMap_take _ hk2,<-hu,Cn.u_def,Cn.u_def];unfold Cn.dotB;simp only[List.append_assoc])),?_⟩,by first|omega|(simp only[];omega)⟩)))))));refine ⟨by omega,by omega,by omega,by omega⟩
 refine C.exit (K3 (Outs.none rfl ?_));obtain rfl:k=l.length:=by omega
 refine ⟨rfl,gl,r0_1.lst ?_,by omega,⟨by omega,by omega⟩,(Ext.nw (Ext.nw (Ext.L _ _) e1) e_1)⟩;rw[List.take_length]
 rfl
theorem seen_spec (bw g:Nat)(xs:List UInt8)(v1 v2:Value)(x:Cn.Ctx)(F:Nat->Prop)(w:World)(hv:Sl Dt.dotF.enc w F v1 x.1)(hc:Sl Dt.dotF.enc w F v2 x.2)(hw:Wr 129 5 w bw g (xs))(hx:xs.length<=90000000000000)(hF:∀k,F k->k≠bw∧k≠g∧k<w.heap.size)(hn1:x.1.length<=1000000)(hn2:x.2.length<=1000000):
 Ret prog 243 #[.pointer (some ⟨bw,0,none⟩),.agg #[v1,v2]] w (λv w'=>v=.tuple #[]∧∃g',Wr 129 5 w' bw g' (xs++(Cn.ctxB x))∧(g'=g∨g'=bw∨w.heap.size<=g')∧(bw<w'.heap.size∧g'<w'.heap.size)∧Ext (λk=>k=bw∨k=g) w w'):=by
 have hwl:=hw.lt;have hd1:=Cn.dotsB_le hn1;refine enT [.pointer (some ⟨bw,0,none⟩),.agg #[v1,v2]] 14 func243 rfl rfl (C.sr λK1=>O.box (v:=.pointer (some ⟨bw,0,none⟩)) rfl (λb2 w1 hb2 hz2 e1=>?_));have z1:=e1.size;have h2:=hz2.own;have hl2:=h2.lt;refine O.box (v:=.agg #[v1,v2]) rfl (λb3 w2 hb3 hz3 e2=>?_);have z2:=e2.size;have h3:=hz3.own;have hl3:=h3.lt;refine K1 (C.sr λK2=>O.makeF (v1:=[]) rfl rfl (O.j (K2 (C.sr λK3=>O.mv (O.fa U44 rfl Z42 rfl (O.loadO isAgg42 rfl h3 rfl (O.callV (vs:=[v1]) call264 rfl (args1 rfl) (seen1_spec v1 x.1 F b2 bw g xs _ ((hv.L e1).L e2) (h2.L e2) ((hw.L e1).L e2) (by omega) (λk hk=>by have q1:=hF k hk;omega) (by omega) hn1) ?_)))))));rintro v_9 w3 ⟨rfl,gv9,hv9,hgv9,hlv9,e3⟩;have z3:=e3.size;refine K3 (C.region (O.mv (O.fa U44 rfl Z41 rfl (O.loadO isAgg41 rfl (h3.kO e3) rfl (O.callV (vs:=[v2]) call264 rfl (args1 rfl) (seen1_spec v2 x.2 F b2 bw gv9 _ _ (((hc.L e1).L e2).keepA e3) ((h2.L e2).kO e3) hv9 (by simp only[List.length_append];omega) (λk hk=>by have q1:=hF k hk;omega) (by omega) hn2) ?_)))));rintro v_13 w4 ⟨rfl,gv13,hv13,hgv13,hlv13,e4⟩;have z4:=e4.size;refine O.o (Outs.none rfl (⟨rfl,gv13,hv13.lst ?_,by omega,hlv13,(Ext.nw (Ext.nw (Ext.nw (Ext.nw (Ext.L _ _) e1) e2) e3) e4)⟩));unfold Cn.ctxB;rw[List.append_assoc]
theorem arr_get (ys:List (BitVec 64))(i:Nat)(h:i<ys.length):(ys.map λx=>Value.int .u64 (x.toNat:Int))[((i:Nat):Int).toNat]? =some (.int .u64 (ys[i].toNat:Int)):=by
 rw[Int.toNat_natCast,List.getElem?_map,List.getElem?_eq_getElem h]
 rfl
theorem whole_spec (bw g:Nat)(xs:List UInt8)(va1 va2 va3:Value)(a:Cn.Cart)(F:Nat->Prop)(w:World)(hav:Sl Dt.dotF.enc w F va1 a.1.1)(hac:Sl Dt.dotF.enc w F va2 a.1.2)(hai:Sl itemE w F va3 a.2)(hw:Wr 129 5 w bw g (xs))(hx:xs.length<=1000000)(hF:∀k,F k->k≠bw∧k≠g∧k<w.heap.size)(hn:a.2.length<=1000000)(hS:∀x∈a.2,x.1.length<=1000000∧x.2.length<=1000000)(hn1:a.1.1.length<=1000000)(hn2:a.1.2.length<=1000000):
 Ret prog 187 #[.pointer (some ⟨bw,0,none⟩),.agg #[va1,va2,va3]] w (λv w'=>v=.tuple #[]∧∃g',Wr 129 5 w' bw g' (xs++(Cn.bytes a))∧(g'=g∨g'=bw∨w.heap.size<=g')∧(bw<w'.heap.size∧g'<w'.heap.size)∧Ext (λk=>k=bw∨k=g) w w'):=by
 have hwl:=hw.lt;have hle:=hai.le;have hd1:=Cn.dotsB_le hn1;have hd2:=Cn.dotsB_le hn2;have hcl:(Cn.ctxB a.1).length<=40000020:=by unfold Cn.ctxB;rw[List.length_append];omega
 have hnl:=Cn.num_le a.2.length (by omega);refine enT [.pointer (some ⟨bw,0,none⟩),.agg #[va1,va2,va3]] 67 func187 rfl rfl (C.sr λK1=>O.box (v:=.agg #[va1,va2,va3]) rfl (λb3 w1 hb3 hz3 e1=>?_));have z1:=e1.size;have h3:=hz3.own;have hl3:=h3.lt;refine K1 (C.sr λK2=>O.mv (O.fa U47 rfl Z44 rfl (O.loadOA isAgg44 Z44 rfl h3 (leB rfl) (O.call call243 (args2 rfl rfl) (seen_spec bw g xs va1 va2 a.1 F _ (hav.L e1) (hac.L e1) (hw.L e1) (by omega) (λk hk=>by have q1:=hF k hk;omega) hn1 hn2) ?_))));rintro v_13 w2 ⟨rfl,gv13,hv13,hgv13,hlv13,e2⟩;have z2:=e2.size;refine K2 (C.sr λK3=>O.mv (O.fa U47 rfl Z45 rfl (O.loadO isAgg45 rfl (h3.kO e2) rfl ?_)));have t0:=(hai.L e1).keepA e2;refine O.len U45 rfl t0 (O.convIU (m':=64) U3 U110 rfl rfl rfl (O.call call79 (args2 rfl rfl) (wnum_spec bw gv13 _ (BitVec.ofInt 64 (a.2.length:Int)) _ hv13 (by simp only[List.length_append];omega)) ?_));rintro v_19 w3 ⟨rfl,gv19,hv19,hgv19,hlv19,e3⟩;have z3:=e3.size;rw[Cn.u_def,Cn.u_nat (by omega)] at hv19;refine K3 (C.sr λK4=>O.fa U47 rfl Z45 rfl (O.loadO isAgg45 rfl ((h3.kO e2).kO e3) rfl (O.len U45 rfl (t0.keepA e3) (O.mv (K4 (C.bl λK5=>C.loop0 (σ:=Nat×Nat) (λf0 w0 ⟨k,gl⟩ f w=>f 23=.int .i64 (k)∧f 0=f0 0∧f 21=f0 21∧f 22=f0 22∧Ext (λk=>k=bw∨k=gv19) w0 w∧Wr 129 5 w bw gl (xs++(Cn.ctxB a.1++(Cn.num a.2.length++(a.2.take k).flatMap Cn.itemB)))∧k<=a.2.length∧(gl=gv19∨gl=bw∨w0.heap.size<=gl)∧bw<w.heap.size∧gl<w.heap.size) (λ⟨k,gl⟩=>a.2.length-k) (0,gv19) ?_ ?_))))))
 ·
  refine ⟨rfl,rfl,rfl,rfl,Ext.L _ _,(hv19.lst (by simp)),?_⟩;exact ⟨Nat.zero_le _,.inl rfl,by omega,by omega⟩
 rintro ⟨k,gl⟩ f_1 w4 ⟨s23_1,s0_1,s21_1,s22_1,e_1,r0_1,⟨hkk,hgk,hgbk,hgck⟩⟩;have z_1:=e_1.size;have hfl:=Cn.flatMap_take_le (f:=Cn.itemB) (b:=41000020) (l:=a.2) (λx hx=>Cn.itemB_le (hS x hx)) hkk;refine C.sr λK6=>O.lssI s23_1 s22_1 (K6 (C.sq λK7=>C.condD rfl (λc24=>?_) (λc24=>?_)))
 ·
  have hk2:k<a.2.length:=by omega
  refine C.skip (K7 (C.sq λK8=>C.bl λK9=>C.sr λK10=>O.idx U45 Z117 rfl s21_1 ((t0.keepA e3).keepA e_1) s23_1 (by omega) (λa25 h25=>O.loadE (E:=itemE) isAgg117 Z117 rfl rfl h25 (λcs26 hcs26=>?_))));obtain ⟨vm26,rfl,hm26⟩:=hcs26;obtain ⟨u,hu⟩:∃u:ItemT,u=a.2[k]:=⟨_,rfl⟩
  have hSu:=hS u (by rw[hu];exact List.getElem_mem _);refine O.cast (v':=.agg #[str u.1,vm26]) (by rw[hu];rfl) ?_;have hm26:Sl markF.enc w4 F vm26 u.2:=by rw[hu];exact hm26
  refine O.alloc zeroValue117 (λb5 w5 hb5 hz5 e5=>?_);have z5:=e5.size;have h5:=hz5.own;have hl5:=h5.lt;refine O.storeA (vs:=[str u.1,vm26]) Z117 rfl rfl rfl (ones2 hm26.oneC) h5 (leB rfl) (λw6 hs6 e6 z6=>K10 (C.sr λK11=>O.mv (O.fa U117 rfl Z9 rfl (O.loadO isAgg9 rfl hs6 rfl (O.call call80 (args2 s0_1 rfl) (wstr_spec bw gl _ u.1 _ ((r0_1.L e5).keepA e6) (by simp only[List.length_append];omega) (by omega)) ?_)))));rintro v_30 w7 ⟨rfl,gv30,hv30,hgv30,hlv30,e7⟩;have z7:=e7.size;have hsl30:(Cn.strB u.1).length<=1000010:=by have:=Cn.num_le u.1.length (by omega);unfold Cn.strB;rw[List.length_append];omega
  refine K11 (C.sr λK12=>O.mv (O.fa U117 rfl Z115 rfl (O.loadO isAgg115 rfl (hs6.kO e7) rfl ?_)));have t1:=(hm26.L e5).keepA e6;refine O.len U115 rfl (t1.keepA e7) (O.convIU (m':=64) U3 U110 rfl rfl rfl (O.call call79 (args2 s0_1 rfl) (wnum_spec bw gv30 _ (BitVec.ofInt 64 (u.2.length:Int)) _ hv30 (by simp only[List.length_append];omega)) ?_));rintro v_36 w8 ⟨rfl,gv36,hv36,hgv36,hlv36,e8⟩;have z8:=e8.size;have hnl36:=Cn.num_le u.2.length (by omega);rw[Cn.u_def,Cn.u_nat (by omega)] at hv36;refine K12 (C.sr λK13=>O.fa U117 rfl Z115 rfl (O.loadO isAgg115 rfl ((hs6.kO e7).kO e8) rfl (O.len U115 rfl ((t1.keepA e7).keepA e8) (O.mv (K13 (C.bl λK14=>?_))))));refine C.loop0 (σ:=Nat×Nat) (λf0 w0 ⟨j,gm⟩ f w=>f 40=.int .i64 (j)∧f 0=f0 0∧f 21=f0 21∧f 22=f0 22∧f 23=f0 23∧f 38=f0 38∧f 39=f0 39∧Ext (λk=>k=bw∨k=gv36) w0 w∧Wr 129 5 w bw gm (xs++(Cn.ctxB a.1++(Cn.num a.2.length++(a.2.take k).flatMap Cn.itemB))++Cn.strB u.1++(Cn.num u.2.length++(u.2.take j).flatMap Cn.markB))∧j<=u.2.length∧(gm=gv36∨gm=bw∨w0.heap.size<=gm)∧bw<w.heap.size∧gm<w.heap.size) (λ⟨j,gm⟩=>u.2.length-j) (0,gv36) ?_ ?_
  ·
   refine ⟨rfl,rfl,rfl,rfl,rfl,rfl,rfl,Ext.L _ _,(hv36.lst (by simp)),?_⟩;exact ⟨Nat.zero_le _,.inl rfl,by omega,by omega⟩
  rintro ⟨j,gm⟩ f_2 w9 ⟨s40_2,s0_2,s21_2,s22_2,s23_2,s38_2,s39_2,e_2,r0_2,⟨hkj,hgj,hgbj,hgcj⟩⟩;have z_2:=e_2.size;have hfm:=Cn.flatMap_take_le (f:=Cn.markB) (b:=40) (l:=u.2) (λx _=>Cn.markB_le x) hkj;refine C.sr λK15=>O.lssI s40_2 s39_2 (K15 (C.sq λK16=>C.condD rfl (λc41=>?_) (λc41=>?_)))
  ·
   have hj2:j<u.2.length:=by omega
   refine C.skip (K16 (C.sq λK17=>C.bl λK18=>C.sr λK19=>O.idx U115 Z114 rfl s38_2 (((t1.keepA e7).keepA e8).keepA e_2) s40_2 (by omega) (λa42 h42=>O.loadG (G:=markF) isAgg114 Z114 rfl h42 ?_)));obtain ⟨m,hm⟩:∃m:MarkT,m=u.2[j]:=⟨_,rfl⟩
   refine O.cast (v':=mv m) (by rw[hm];rfl) (O.alloc zeroValue114 (λb7 w10 hb7 hz7 e10=>?_));have z10:=e10.size;have h7:=hz7.own;have hl7:=h7.lt;refine O.storeA (vs:=[.int .i64 m.1.1,.int .i64 m.1.2,.int .i64 m.2.1,.int .u64 (m.2.2.toNat:Int)]) Z114 rfl rfl rfl (by simp[Value.oneCell']) h7 (leB rfl) (λw11 hs11 e11 z11=>K19 (C.sr λK20=>O.fa U114 rfl Z112 rfl (O.fa U112 rfl Z3 rfl (O.loadO isAgg3 rfl hs11 rfl (O.convIU (m':=64) U3 U110 rfl rfl rfl (O.fa U114 rfl Z112 rfl (O.fa U112 rfl Z3 rfl (O.loadO isAgg3 rfl hs11 rfl (O.convIU (m':=64) U3 U110 rfl rfl rfl (O.fa U114 rfl Z3 rfl ?_))))))))));refine O.loadO isAgg3 rfl hs11 rfl (O.convIU (m':=64) U3 U110 rfl rfl rfl (O.fa U114 rfl Z110 rfl (O.loadO isAgg110 rfl hs11 rfl (O.build (cells:=#[.int .u64 ((BitVec.ofInt 64 m.1.1).toNat:Int),.int .u64 ((BitVec.ofInt 64 m.1.2).toNat:Int),.int .u64 ((BitVec.ofInt 64 m.2.1).toNat:Int),.int .u64 (m.2.2.toNat:Int)]) rfl (by kernel_rfl) ?_))));obtain ⟨ys,hys⟩:∃ys:List (BitVec 64),ys=[BitVec.ofInt 64 m.1.1,BitVec.ofInt 64 m.1.2,BitVec.ofInt 64 m.2.1,m.2.2]:=⟨_,rfl⟩
   have hy4:ys.length=4:=by rw[hys];rfl
   refine O.cast (v':=.agg (ys.map λx=>Value.int .u64 (x.toNat:Int)).toArray) (by rw[hys];rfl) (O.mv (K20 (C.bl λK21=>?_)));refine C.loop0 (σ:=Nat×Nat) (λf0 w0 ⟨i,gq⟩ f w=>f 58=.int .i64 (i)∧f 0=f0 0∧f 21=f0 21∧f 22=f0 22∧f 23=f0 23∧f 38=f0 38∧f 39=f0 39∧f 40=f0 40∧f 57=f0 57∧Ext (λk=>k=bw∨k=gm) w0 w∧Wr 129 5 w bw gq (xs++(Cn.ctxB a.1++(Cn.num a.2.length++(a.2.take k).flatMap Cn.itemB))++Cn.strB u.1++(Cn.num u.2.length++(u.2.take j).flatMap Cn.markB)++(ys.take i).flatMap (λx:BitVec 64=>Cn.num x.toNat))∧i<=ys.length∧(gq=gm∨gq=bw∨w0.heap.size<=gq)∧bw<w.heap.size∧gq<w.heap.size) (λ⟨i,gq⟩=>ys.length-i) (0,gm) ?_ ?_
   ·
    refine ⟨rfl,rfl,rfl,rfl,rfl,rfl,rfl,rfl,rfl,Ext.L _ _,(((r0_2.L e10).keepA e11).lst (by simp)),?_⟩;exact ⟨Nat.zero_le _,.inl rfl,by omega,by omega⟩
   rintro ⟨i,gq⟩ f_3 w12 ⟨s58_3,s0_3,s21_3,s22_3,s23_3,s38_3,s39_3,s40_3,s57_3,e_3,r0_3,⟨hki,hgi,hgbi,hgci⟩⟩;have z_3:=e_3.size;have hfi:=Cn.flatMap_take_le (f:=λx:BitVec 64=>Cn.num x.toNat) (b:=10) (l:=ys) (λx _=>Cn.num_u x) hki;refine C.sr λK22=>O.lssI s58_3 rfl (K22 (C.sq λK23=>C.condD rfl (λc59=>?_) (λc59=>?_)))
   ·
    have hi2:i<ys.length:=by omega
    refine C.skip (K23 (C.sq λK24=>C.bl λK25=>C.sr λK26=>O.indexA underlying278 isAgg110 Z110 s57_3 s58_3 (by omega) (arr_get ys i (by omega)) (O.j (K26 (C.region (O.mv (O.mv (O.call call79 (args2 (Eq.trans s0_3 (Eq.trans s0_2 s0_1)) rfl) (wnum_spec bw gq _ ys[i] _ r0_3 (by simp only[List.length_append];omega)) ?_))))))));rintro v_63 w13 ⟨rfl,gv63,hv63,hgv63,hlv63,e13⟩;have z13:=e13.size;refine O.o (K25 (K24 (C.region (O.ad s58_3 rfl (O.mv (O.o (⟨(i+1,gv63),⟨rfl,s0_3,s21_3,s22_3,s23_3,s38_3,s39_3,s40_3,s57_3,(Ext.nw (Ext.nw (Ext.L _ _) e_3) e13),(hv63.lst (by rw[Cn.flatMap_take _ hi2,List.append_assoc])),?_⟩,by first|omega|(simp only[];omega)⟩)))))));refine ⟨by omega,by omega,by omega,by omega⟩
   have hi4:i=ys.length:=by omega
   refine C.exit (K21 (K18 (K17 (C.region (O.ad (Eq.trans s40_3 s40_2) rfl (O.mv (O.o (⟨(j+1,gq),⟨rfl,(Eq.trans s0_3 s0_2),(Eq.trans s21_3 s21_2),(Eq.trans s22_3 s22_2),(Eq.trans s23_3 s23_2),(Eq.trans s38_3 s38_2),(Eq.trans s39_3 s39_2),(Ext.nw (Ext.nw (Ext.nw (Ext.nw (Ext.L _ _) e_2) e10) e11) e_3),(r0_3.lst (by rw[Cn.flatMap_take _ hj2,<-hm,hi4,List.take_length,hys];unfold Cn.markB Cn.u;simp)),?_⟩,by first|omega|(simp only[];omega)⟩))))))));refine ⟨by omega,by omega,by omega,by omega⟩
  have hj3:j=u.2.length:=by omega
  refine C.exit (K14 (K9 (K8 (C.region (O.ad (Eq.trans s23_2 s23_1) rfl (O.mv (O.o (⟨(k+1,gm),⟨rfl,(Eq.trans s0_2 s0_1),(Eq.trans s21_2 s21_1),(Eq.trans s22_2 s22_1),(Ext.nw (Ext.nw (Ext.nw (Ext.nw (Ext.nw (Ext.nw (Ext.L _ _) e_1) e5) e6) e7) e8) e_2),(r0_2.lst (by rw[Cn.flatMap_take _ hk2,<-hu,hj3,List.take_length];unfold Cn.itemB;simp only[List.append_assoc])),?_⟩,by first|omega|(simp only[];omega)⟩))))))));refine ⟨by omega,by omega,by omega,by omega⟩
 have hk3:k=a.2.length:=by omega
 refine C.exit (K5 (Outs.none rfl (⟨rfl,gl,r0_1.lst ?_,by omega,⟨by omega,by omega⟩,(Ext.nw (Ext.nw (Ext.nw (Ext.nw (Ext.L _ _) e1) e2) e3) e_1)⟩)));rw[hk3,List.take_length]
 rfl
theorem append_spec (v0:Value)(bs:List UInt8)(F2:Nat->Prop)(va1 va2 va3:Value)(a:Cn.Cart)(F:Nat->Prop)(w:World)(hb:Sl byteE w F2 v0 bs)(hbn:bs.length<=1000000)(hav:Sl Dt.dotF.enc w F va1 a.1.1)(hac:Sl Dt.dotF.enc w F va2 a.1.2)(hai:Sl itemE w F va3 a.2)(hF:∀k,F k->k<w.heap.size)(hn:a.2.length<=1000000)(hS:∀x∈a.2,x.1.length<=1000000∧x.2.length<=1000000)(hp:a.1.1.length<=1000000)(hq:a.1.2.length<=1000000)(mx:Mx w):
 Ret prog 126 #[v0,.agg #[va1,va2,va3]] w (λv w'=>∃r:Value,v=.tuple #[r,.int .i64 (if Cn.valid a then 0 else 2)]∧OwnF byteF 5 w.heap.size w' r (if Cn.valid a then bs++Cn.bytes a else [])∧Le w w'):=by
 have hbl:=Cn.bytes_le hn hS hp hq;refine enT [v0,.agg #[va1,va2,va3]] 15 func126 rfl rfl (C.sr λK1=>O.box (v:=.agg #[va1,va2,va3]) rfl (λb3 w1 hb3 hz3 e1=>?_));have z1:=e1.size;have h3:=hz3.own;have hl3:=h3.lt;refine O.j (O.j (K1 (C.sq λK2=>C.sr λK3=>O.loadOA isAgg47 Z47 rfl h3 (leB rfl) (O.call call61 (args1 rfl) (cartValid_spec va1 va2 va3 a F _ (hav.L e1) (hac.L e1) (hai.L e1) (λk hk=>by have q1:=hF k hk;omega) hn hS (mx.L e1)) ?_))));rintro v_8 w2 ⟨rfl,e2⟩;have z2:=e2.size;refine O.not rfl (K3 (C.cond rfl (λc9=>?_) (λc9=>?_)))
 ·
  have hva:Cn.valid a=false:=by simpa using c9
  refine C.sr λK4=>O.j (O.j (K4 (C.ret (Outs.two rfl rfl rfl ?_))))
  (refine ⟨_,by rw[hva];rfl,?_,(Ext.T e1 e2)⟩
   rw[hva];exact OwnF.nil _ _ _ _)
 have hva:Cn.valid a=true:=by simpa using c9
 refine C.skip (K2 (C.sr λK5=>O.alloc zeroValue129 (λb6 w3 hb6 hz6 e3=>?_)));have z3:=e3.size;have h6:=hz6.own;have hl6:=h6.lt;have hwr6:Wr 129 5 w3 b6 b6 []:=Wr.new h6;refine K5 (C.sr λK6=>O.mv (O.call call82 (args2 rfl rfl) (wput_spec b6 b6 [] v0 bs F2 _ hwr6 (by simp) (((hb.L e1).L e2).L e3) (by omega)) ?_));rintro v_11 w4 ⟨rfl,gv11,hv11,hgv11,hlv11,e4⟩;have z4:=e4.size;refine K6 (C.sr λK7=>O.loadOA isAgg47 Z47 rfl (((h3.L e2).L e3).kO e4) (leB rfl) ?_);have t0:=Ext.T (Ext.T e1 e2) e3;have t1:=Ext.new t0 e4 (by intro i hi h;(try dsimp only at h);omega);refine O.call call187 (args2 rfl rfl) (whole_spec b6 gv11 _ va1 va2 va3 a F _ (hav.L t1) (hac.L t1) (hai.L t1) hv11 (by simp;omega) (λk hk=>by have q1:=hF k hk;omega) hn hS hp hq) ?_;rintro v_13 w5 ⟨rfl,gv13,hv13,hgv13,hlv13,e5⟩;have z5:=e5.size;refine K7 (C.sr λK8=>O.call call83 (args1 rfl) (wbytes_spec b6 gv13 _ _ hv13 (by simp only[List.length_append,List.length_nil];omega)) ?_);rintro v_14 w6 ⟨e6,h14⟩;have z6:=e6.size;refine O.j (O.j (K8 (C.ret (Outs.two rfl rfl rfl ?_))))
 first
 |(refine ⟨_,by rw[hva];rfl,?_,(Ext.T (Ext.new t1 e5 (by intro i hi h;(try dsimp only at h);omega)) e6)⟩
   rw[hva];exact OwnF.nil _ _ _ _)
 |(refine ⟨_,by rw[hva];rfl,?_,(Ext.T (Ext.new t1 e5 (by intro i hi h;(try dsimp only at h);omega)) e6)⟩
   rw[hva];exact ((h14).low (by omega)).lst rfl)
theorem encode_spec (va1 va2 va3:Value)(a:Cn.Cart)(F:Nat->Prop)(w:World)(hav:Sl Dt.dotF.enc w F va1 a.1.1)(hac:Sl Dt.dotF.enc w F va2 a.1.2)(hai:Sl itemE w F va3 a.2)(hF:∀k,F k->k<w.heap.size)(hn:a.2.length<=1000000)(hS:∀x∈a.2,x.1.length<=1000000∧x.2.length<=1000000)(hp:a.1.1.length<=1000000)(hq:a.1.2.length<=1000000)(mx:Mx w):
 Ret prog 81 #[.agg #[va1,va2,va3]] w (λv w'=>∃r:Value,v=.tuple #[r,.int .i64 (if Cn.valid a then 0 else 2)]∧OwnF byteF 5 w.heap.size w' r (if Cn.valid a then Cn.bytes a else [])∧Le w w'):=by
 refine enT [.agg #[va1,va2,va3]] 8 func81 rfl rfl (C.sr λK1=>O.box (v:=.agg #[va1,va2,va3]) rfl (λb1 w1 hb1 hz1 e1=>?_));have z1:=e1.size;have h1:=hz1.own;have hl1:=h1.lt;refine O.j (O.j (K1 (C.sr λK2=>O.loadOA isAgg47 Z47 rfl h1 (leB rfl) (O.call call126 (args2 rfl rfl) (append_spec (.slice none 0 0) [] (λ_=>False) va1 va2 va3 a F _ (Sl.nil _ _ _) (by simp) (hav.L e1) (hac.L e1) (hai.L e1) (λk hk=>by have q1:=hF k hk;omega) hn hS hp hq (mx.L e1)) ?_))));rintro v_5 w2 ⟨rv5,rfl,hv5,e2⟩;have z2:=e2.size;refine O.extract rfl rfl (O.extract rfl rfl (O.j (O.j (K2 (C.ret (Outs.two rfl rfl rfl ?_))))));exact ⟨_,rfl,hv5.low (by omega),(Ext.T e1 e2)⟩
theorem size_spec (va1 va2 va3:Value)(a:Cn.Cart)(F:Nat->Prop)(w:World)(hav:Sl Dt.dotF.enc w F va1 a.1.1)(hac:Sl Dt.dotF.enc w F va2 a.1.2)(hai:Sl itemE w F va3 a.2)(hF:∀k,F k->k<w.heap.size)(hn:a.2.length<=1000000)(hS:∀x∈a.2,x.1.length<=1000000∧x.2.length<=1000000)(hp:a.1.1.length<=1000000)(hq:a.1.2.length<=1000000)(mx:Mx w):
 Ret prog 65 #[.agg #[va1,va2,va3]] w (λv w'=>v=.tuple #[.int .i64 (if Cn.valid a then ((Cn.bytes a).length:Int) else 0),.int .i64 (if Cn.valid a then 0 else 2)]∧Le w w'):=by
 refine enT [.agg #[va1,va2,va3]] 14 func65 rfl rfl (C.sr λK1=>O.box (v:=.agg #[va1,va2,va3]) rfl (λb1 w1 hb1 hz1 e1=>?_));have z1:=e1.size;have h1:=hz1.own;have hl1:=h1.lt;refine O.j (O.j (K1 (C.sr λK2=>O.loadOA isAgg47 Z47 rfl h1 (leB rfl) (O.call call81 (args1 rfl) (encode_spec va1 va2 va3 a F _ (hav.L e1) (hac.L e1) (hai.L e1) (λk hk=>by have q1:=hF k hk;omega) hn hS hp hq (mx.L e1)) ?_))));rintro v_8 w2 ⟨rv8,rfl,hv8,e2⟩;have z2:=e2.size;have h8s:=hv8.sl;refine O.mv (O.extract rfl rfl (O.extract rfl rfl (O.j (O.j (K2 (C.sr λK3=>O.mv (O.len U30 rfl h8s (O.mv (O.j (O.j (K3 (C.ret (Outs.two rfl rfl rfl (⟨?_,(Ext.T e1 e2)⟩))))))))))))))
 by_cases hva:Cn.valid a=true
 ·rw [if_pos hva,if_pos hva,if_pos hva];rfl
 ·rw [if_neg hva,if_neg hva,if_neg hva];rfl
theorem same_spec (va1 va2 va3:Value)(a:Cn.Cart)(F:Nat->Prop)(vb1 vb2 vb3:Value)(b:Cn.Cart)(F2:Nat->Prop)(w:World)(hav:Sl Dt.dotF.enc w F va1 a.1.1)(hac:Sl Dt.dotF.enc w F va2 a.1.2)(hai:Sl itemE w F va3 a.2)(hbv:Sl Dt.dotF.enc w F2 vb1 b.1.1)(hbc:Sl Dt.dotF.enc w F2 vb2 b.1.2)(hbi:Sl itemE w F2 vb3 b.2)(hF:∀k,F k->k<w.heap.size)(hF2:∀k,F2 k->k<w.heap.size):
 Ret prog 55 #[.agg #[va1,va2,va3],.agg #[vb1,vb2,vb3]] w (λv w'=>v=.bool (decide (a=b))∧Le w w'):=by
 have hle:=hai.le;have hle2:=hbi.le;refine enT [.agg #[va1,va2,va3],.agg #[vb1,vb2,vb3]] 85 func55 rfl rfl (C.sr λK1=>O.box (v:=.agg #[va1,va2,va3]) rfl (λb2 w1 hb2 hz2 e1=>?_));have z1:=e1.size;have h2:=hz2.own;have hl2:=h2.lt;refine O.box (v:=.agg #[vb1,vb2,vb3]) rfl (λb3 w2 hb3 hz3 e2=>?_);have z2:=e2.size;have h3:=hz3.own;have hl3:=h3.lt;refine O.j (K1 (C.sq λK2=>C.sr λK3=>O.fa U47 rfl Z44 rfl (O.fa U44 rfl Z42 rfl (O.loadO isAgg42 rfl (h2.L e2) rfl (O.fa U47 rfl Z44 rfl (O.fa U44 rfl Z42 rfl (O.loadO isAgg42 rfl h3 rfl (O.call call96 (args2 rfl rfl) (sameD_spec va1 a.1.1 vb1 b.1.1 F F2 _ ((hav.L e1).L e2) ((hbv.L e1).L e2)) ?_))))))));rintro v_15 w3 ⟨rfl,e3⟩;have z3:=e3.size;refine O.not rfl (O.mv (O.split (x:=.tmp 17) rfl (λc17=>?_) (λc17=>?_)))
 ·
  refine O.no rfl (noB (isT' rfl c17) rfl) (O.no rfl (noB (isT' rfl c17) rfl) (O.no rfl (noB (isT' rfl c17) rfl) (O.no rfl (noB (isT' rfl c17) rfl) (O.no rfl (noB (isT' rfl c17) rfl) (O.no rfl (noB (isT' rfl c17) rfl) (O.no rfl (noB (isT' rfl c17) rfl) (O.no rfl (noB (isT' rfl c17) rfl) (O.pickT (isT' rfl c17) (O.mv (O.no rfl (noB rfl rfl) (O.no rfl (noB rfl rfl) (O.no rfl (noB rfl rfl) (O.no rfl (noB rfl rfl) (O.no rfl (noB rfl rfl) (O.no rfl (noB rfl rfl) (O.no rfl (noB rfl rfl) (O.pickT rfl (K3 (C.condT rfl (C.sr λK4=>O.j (K4 (C.ret (Outs.one rfl rfl ?_)))))))))))))))))))))));exact ⟨cB (dF (λh=>Cn.ne_of c17 (congrArg (λx:Cn.Cart=>x.1.1) h))).symm,(Ext.T (Ext.T e1 e2) e3)⟩
 refine O.yes rfl (isF' rfl c17) (O.fa U47 rfl Z44 rfl (O.yes rfl (isF' rfl c17) (O.fa U44 rfl Z41 rfl (O.yes rfl (isF' rfl c17) ?_))));have t0:=(h2.L e2).L e3;refine O.loadO isAgg41 rfl t0 rfl (O.yes rfl (isF' rfl c17) (O.fa U47 rfl Z44 rfl (O.yes rfl (isF' rfl c17) (O.fa U44 rfl Z41 rfl (O.yes rfl (isF' rfl c17) (O.loadO isAgg41 rfl (h3.L e3) rfl (O.yes rfl (isF' rfl c17) (O.call call96 (args2 rfl rfl) (sameD_spec va2 a.1.2 vb2 b.1.2 F F2 _ (((hac.L e1).L e2).L e3) (((hbc.L e1).L e2).L e3)) ?_))))))));rintro v_24 w4 ⟨rfl,e4⟩;have z4:=e4.size;refine O.yes rfl (isF' rfl c17) (O.not rfl (O.pickF (isF' rfl c17) (O.mv (O.split (x:=.tmp 27) rfl (λc27=>?_) (λc27=>?_)))))
 ·
  refine O.no rfl (noB (isT' rfl c27) rfl) (O.no rfl (noB (isT' rfl c27) rfl) (O.no rfl (noB (isT' rfl c27) rfl) (O.no rfl (noB (isT' rfl c27) rfl) (O.no rfl (noB (isT' rfl c27) rfl) (O.no rfl (noB (isT' rfl c27) rfl) (O.no rfl (noB (isT' rfl c27) rfl) (O.pickT (isT' rfl c27) (K3 (C.condT rfl (C.sr λK5=>O.j (K5 (C.ret (Outs.one rfl rfl ?_)))))))))))))
  first
  |exact ⟨cB (dF (λh=>Cn.ne_of c17 (congrArg (λx:Cn.Cart=>x.1.1) h))).symm,(Ext.T (Ext.T (Ext.T e1 e2) e3) e4)⟩
  |exact ⟨cB (dF (λh=>Cn.ne_of c27 (congrArg (λx:Cn.Cart=>x.1.2) h))).symm,(Ext.T (Ext.T (Ext.T e1 e2) e3) e4)⟩
 refine O.yes rfl (isF' rfl c27) (O.fa U47 rfl Z45 rfl (O.yes rfl (isF' rfl c27) (O.loadO isAgg45 rfl (t0.L e4) rfl (O.yes rfl (isF' rfl c27) ?_))));have t1:=(hai.L e1).L e2;have t2:=(t1.L e3).L e4;refine O.len U45 rfl t2 (O.yes rfl (isF' rfl c27) (O.fa U47 rfl Z45 rfl (O.yes rfl (isF' rfl c27) (O.loadO isAgg45 rfl ((h3.L e3).L e4) rfl (O.yes rfl (isF' rfl c27) ?_)))));have t3:=((hbi.L e1).L e2).L e3;refine O.len U45 rfl (t3.L e4) (O.yes rfl (isF' rfl c27) (O.neqI rfl rfl (O.pickF (isF' rfl c27) (K3 (C.condD rfl (λc35=>?_) (λc35=>?_))))))
 ·
  refine C.sr λK6=>O.j (K6 (C.ret (Outs.one rfl rfl ?_)))
  first
  |exact ⟨cB (dF (λh=>Cn.ne_of c17 (congrArg (λx:Cn.Cart=>x.1.1) h))).symm,(Ext.T (Ext.T (Ext.T e1 e2) e3) e4)⟩
  |exact ⟨cB (dF (λh=>Cn.ne_of c27 (congrArg (λx:Cn.Cart=>x.1.2) h))).symm,(Ext.T (Ext.T (Ext.T e1 e2) e3) e4)⟩
  |exact ⟨cB (dF (λh=>c35 (congrArg (λx:Cn.Cart=>(x.2.length:Int)) h))).symm,(Ext.T (Ext.T (Ext.T e1 e2) e3) e4)⟩
 have q1:a.1.1=b.1.1:=by simpa using c17
 have q2:a.1.2=b.1.2:=by simpa using c27
 have q3:a.2.length=b.2.length:=by omega
 refine C.skip (K2 (C.sq λK7=>C.sr λK8=>O.j (K8 (C.bl λK9=>C.loop0 (σ:=Nat) (λf0 w0 i f w=>f 5=.int .i64 (i)∧f 2=f0 2∧f 3=f0 3∧Le w0 w∧i<=a.2.length∧a.2.take i=b.2.take i) (λi=>a.2.length-i) 0 ?_ ?_))))
 ·
  refine ⟨rfl,rfl,rfl,Le.refl _,?_⟩;exact ⟨Nat.zero_le _,rfl⟩
 rintro i f_1 w5 ⟨s5_1,s2_1,s3_1,e_1,⟨hi,hI⟩⟩;have z_1:=e_1.size;refine C.sq λK10=>C.sr λK11=>O.mv (O.fa U47 rfl Z45 s2_1 (O.loadO isAgg45 rfl ((t0.L e4).L e_1) rfl (O.len U45 rfl (t2.L e_1) (O.lssI s5_1 rfl (K11 (C.condD rfl (λc40=>?_) (λc40=>?_)))))))
 ·
  have hi2:i<a.2.length:=by omega
  have hi3:i<b.2.length:=by omega
  refine C.skip (K10 (C.sq λK12=>C.bl λK13=>C.sq λK14=>C.join (λf w f' w'=>Le w w'∧f' 2=f 2∧f' 3=f 3∧f' 5=f 5∧∃(b6:Nat) (b7:Nat) (vx:Value) (vy:Value),f' 6=.pointer (some ⟨b6,0,none⟩)∧f' 7=.pointer (some ⟨b7,0,none⟩)∧Own w' b6 117 [str (a.2[i]'hi2).1,vx]∧Own w' b7 117 [str (b.2[i]'hi3).1,vy]∧Sl markF.enc w' F vx (a.2[i]'hi2).2∧Sl markF.enc w' F2 vy (b.2[i]'hi3).2) ?_ ?_))
  ·
   refine C.draw (by kernel_rfl) λw6 e6=>?_
   have z6:=e6.size;refine D.t 0 rfl leR (λ_ _ _ hN=>O.fa U47 rfl Z45 s2_1 (O.o hN)) (D.t 1 rfl leR (λ_ hw_ _ hN=>O.loadO isAgg45 rfl ((((t0.L e4).L e_1).L e6).L hw_) rfl (O.o hN)) (D.mv 2 rfl leR ?_));obtain ⟨a46,h46,hr46⟩:=Sl.at (i:=(i:Int)) (P:=prog) U45 Z117 rfl ((t2.L e_1).L e6) (by omega);refine D.t 3 rfl leR (λ_ _ _ hN=>O.idxR rfl s5_1 hr46 (O.o hN)) ?_;obtain ⟨s47,ha47,hm47⟩:=At.raw h46;refine D.t 4 rfl leR (λ_ hw_ _ hN=>O.loadG (G:=itemF) isAgg117 Z117 rfl (ha47.L hw_) (O.o hN)) (D.t 5 rfl leR (λ_ _ _ hN=>O.fa U47 rfl Z45 s3_1 (O.o hN)) (D.t 6 rfl leR (λ_ hw_ _ hN=>O.loadO isAgg45 rfl (((((h3.L e3).L e4).L e_1).L e6).L hw_) rfl (O.o hN)) (D.mv 7 rfl leR ?_)));obtain ⟨a51,h51,hr51⟩:=Sl.at (i:=(i:Int)) (P:=prog) U45 Z117 rfl (((t3.L e4).L e_1).L e6) (by omega);refine D.t 8 rfl leR (λ_ _ _ hN=>O.idxR rfl s5_1 hr51 (O.o hN)) ?_;obtain ⟨s52,ha52,hm52⟩:=At.raw h51;refine D.t 9 rfl leR (λ_ hw_ _ hN=>O.loadG (G:=itemF) isAgg117 Z117 rfl (ha52.L hw_) (O.o hN)) (D.many [10,11] (by kernel_rfl) (by decide) ⟨?_,?_,trivial⟩)
   ·
    refine D.stepU rfl rfl (O.alloc zeroValue117 (λb6 w7 hb6 hz6 e7=>?_));have z7:=e7.size;have h6:=hz6.own;have hl6:=h6.lt;refine O.o ⟨e7,D.on 11 rfl rfl (O.alloc zeroValue117 (λb7 w8 hb7 hz7 e8=>?_))⟩;have z8:=e8.size;have h7:=hz7.own;have hl7:=h7.lt;refine O.o ⟨(Ext.T e7 e8),D.on 12 rfl rfl (O.storeA (vs:=[str (a.2[i]'hi2).1,slv s47]) Z117 rfl rfl rfl (ones2 rfl) (h6.L e8) (leB rfl) (λw9 hs9 e9 z9=>O.o ⟨(Ext.nr (Ext.T e7 e8) e9),D.on 13 rfl rfl (O.storeA (vs:=[str (b.2[i]'hi3).1,slv s52]) Z117 rfl rfl rfl (ones2 rfl) (h7.kO e9) (leB rfl) (λw10 hs10 e10 z10=>O.o ⟨(Ext.nr (Ext.nr (Ext.T e7 e8) e9) e10),D.dn ?_⟩))⟩))⟩;exact ⟨(Ext.nr (Ext.nr (Ext.T (Ext.T e6 e7) e8) e9) e10),rfl,rfl,rfl,⟨_,_,_,_,rfl,rfl,(hs9.kO e10),hs10,((((hm47.L e7).L e8).keepA e9).keepA e10),((((hm52.L e7).L e8).keepA e9).keepA e10)⟩⟩
   refine D.stepU rfl rfl (O.alloc zeroValue117 (λb7 w11 hb7 hz7 e11=>?_));have z11:=e11.size;have h7:=hz7.own;have hl7:=h7.lt;refine O.o ⟨e11,D.on 10 rfl rfl (O.alloc zeroValue117 (λb6 w12 hb6 hz6 e12=>?_))⟩;have z12:=e12.size;have h6:=hz6.own;have hl6:=h6.lt;have t4:=Ext.T e11 e12;refine O.o ⟨t4,D.on 12 rfl rfl (O.storeA (vs:=[str (a.2[i]'hi2).1,slv s47]) Z117 rfl rfl rfl (ones2 rfl) h6 (leB rfl) (λw13 hs13 e13 z13=>O.o ⟨(Ext.nr t4 e13),D.on 13 rfl rfl (O.storeA (vs:=[str (b.2[i]'hi3).1,slv s52]) Z117 rfl rfl rfl (ones2 rfl) ((h7.L e12).kO e13) (leB rfl) (λw14 hs14 e14 z14=>O.o ⟨(Ext.nr (Ext.nr t4 e13) e14),D.dn ?_⟩))⟩))⟩;exact ⟨(Ext.nr (Ext.nr (Ext.T (Ext.T e6 e11) e12) e13) e14),rfl,rfl,rfl,⟨_,_,_,_,rfl,rfl,(hs13.kO e14),hs14,((((hm47.L e11).L e12).keepA e13).keepA e14),((((hm52.L e11).L e12).keepA e13).keepA e14)⟩⟩
  rintro f_2 w15 ⟨e_2,s2_2,s3_2,s5_2,⟨b6,b7,vx,vy,s6_2,s7_2,q0_2,q1_2,q2_2,q3_2⟩⟩;have z_2:=e_2.size;have hlx:=q2_2.le;have hly:=q3_2.le;refine K14 (C.sq λK15=>C.sr λK16=>O.fa U117 rfl Z9 s6_2 (O.loadO isAgg9 rfl q0_2 rfl (O.fa U117 rfl Z9 s7_2 (O.loadO isAgg9 rfl q1_2 rfl (O.neqS rfl rfl (O.mv (O.splitD (x:=.tmp 58) rfl (λc58=>?_) (λc58=>?_))))))))
  ·
   refine O.no rfl (noB (isT rfl c58) rfl) (O.no rfl (noB (isT rfl c58) rfl) (O.no rfl (noB (isT rfl c58) rfl) (O.no rfl (noB (isT rfl c58) rfl) (O.no rfl (noB (isT rfl c58) rfl) (O.no rfl (noB (isT rfl c58) rfl) (O.no rfl (noB (isT rfl c58) rfl) (O.pickT (isT rfl c58) (K16 (C.condT rfl (C.sr λK17=>O.j (K17 (C.ret (Outs.one rfl rfl ?_)))))))))))))
   first
   |exact ⟨cB (dF (λh=>Cn.ne_of c17 (congrArg (λx:Cn.Cart=>x.1.1) h))).symm,(Ext.T (Ext.T (Ext.T (Ext.T (Ext.T e1 e2) e3) e4) e_1) e_2)⟩
   |exact ⟨cB (dF (λh=>Cn.ne_of c27 (congrArg (λx:Cn.Cart=>x.1.2) h))).symm,(Ext.T (Ext.T (Ext.T (Ext.T (Ext.T e1 e2) e3) e4) e_1) e_2)⟩
   |exact ⟨cB (dF (λh=>c35 (congrArg (λx:Cn.Cart=>(x.2.length:Int)) h))).symm,(Ext.T (Ext.T (Ext.T (Ext.T (Ext.T e1 e2) e3) e4) e_1) e_2)⟩
   |exact ⟨cB (dF (λh=>c58 (congrArg Prod.fst (Cn.item_of h hi2 hi3)))).symm,(Ext.T (Ext.T (Ext.T (Ext.T (Ext.T e1 e2) e3) e4) e_1) e_2)⟩
  refine O.yes rfl (isF rfl c58) (O.fa U117 rfl Z115 s6_2 (O.yes rfl (isF rfl c58) (O.loadO isAgg115 rfl q0_2 rfl (O.yes rfl (isF rfl c58) (O.len U115 rfl q2_2 (O.yes rfl (isF rfl c58) (O.fa U117 rfl Z115 s7_2 (O.yes rfl (isF rfl c58) (O.loadO isAgg115 rfl q1_2 rfl (O.yes rfl (isF rfl c58) (O.len U115 rfl q3_2 (O.yes rfl (isF rfl c58) (O.neqI rfl rfl (O.pickF (isF rfl c58) (K16 (C.condD rfl (λc66=>?_) (λc66=>?_)))))))))))))))))
  ·
   refine C.sr λK18=>O.j (K18 (C.ret (Outs.one rfl rfl ?_)))
   first
   |exact ⟨cB (dF (λh=>Cn.ne_of c17 (congrArg (λx:Cn.Cart=>x.1.1) h))).symm,(Ext.T (Ext.T (Ext.T (Ext.T (Ext.T e1 e2) e3) e4) e_1) e_2)⟩
   |exact ⟨cB (dF (λh=>Cn.ne_of c27 (congrArg (λx:Cn.Cart=>x.1.2) h))).symm,(Ext.T (Ext.T (Ext.T (Ext.T (Ext.T e1 e2) e3) e4) e_1) e_2)⟩
   |exact ⟨cB (dF (λh=>c35 (congrArg (λx:Cn.Cart=>(x.2.length:Int)) h))).symm,(Ext.T (Ext.T (Ext.T (Ext.T (Ext.T e1 e2) e3) e4) e_1) e_2)⟩
   |exact ⟨cB (dF (λh=>c58 (congrArg Prod.fst (Cn.item_of h hi2 hi3)))).symm,(Ext.T (Ext.T (Ext.T (Ext.T (Ext.T e1 e2) e3) e4) e_1) e_2)⟩
   |exact ⟨cB (dF (λh=>c66 (congrArg (λx:ItemT=>(x.2.length:Int)) (Cn.item_of h hi2 hi3)))).symm,(Ext.T (Ext.T (Ext.T (Ext.T (Ext.T e1 e2) e3) e4) e_1) e_2)⟩
  have q4:(a.2[i]'hi2).1=(b.2[i]'hi3).1:=Decidable.of_not_not c58;have q5:(a.2[i]'hi2).2.length=(b.2[i]'hi3).2.length:=by omega
  refine C.skip (K15 (C.sr λK19=>O.j (K19 (C.bl λK20=>C.loop0 (σ:=Nat) (λf0 w0 j f w=>f 8=.int .i64 (j)∧f 2=f0 2∧f 3=f0 3∧f 5=f0 5∧f 6=f0 6∧f 7=f0 7∧Le w0 w∧j<=(a.2[i]'hi2).2.length∧(a.2[i]'hi2).2.take j=(b.2[i]'hi3).2.take j) (λj=>(a.2[i]'hi2).2.length-j) 0 ?_ ?_))))
  ·
   refine ⟨rfl,rfl,rfl,rfl,rfl,rfl,Le.refl _,?_⟩;exact ⟨Nat.zero_le _,rfl⟩
  rintro j f_3 w16 ⟨s8_3,s2_3,s3_3,s5_3,s6_3,s7_3,e_3,⟨hj,hJ⟩⟩;have z_3:=e_3.size;refine C.sq λK21=>C.sr λK22=>O.mv (O.fa U117 rfl Z115 (Eq.trans s6_3 s6_2) (O.loadO isAgg115 rfl (q0_2.L e_3) rfl (O.len U115 rfl (q2_2.L e_3) (O.lssI s8_3 rfl (K22 (C.condD rfl (λc71=>?_) (λc71=>?_)))))))
  ·
   have hj2:j<(a.2[i]'hi2).2.length:=by omega
   have hj3:j<(b.2[i]'hi3).2.length:=by omega
   refine C.skip (K21 (C.sq λK23=>C.bl λK24=>C.sd λK25 w17 e17 z17=>D.t 0 rfl leR (λ_ _ _ hN=>O.fa U117 rfl Z115 (Eq.trans s6_3 s6_2) (O.o hN)) (D.t 1 rfl leR (λ_ hw_ _ hN=>O.loadO isAgg115 rfl (((q0_2.L e_3).L e17).L hw_) rfl (O.o hN)) (D.mv 2 rfl leR ?_))));obtain ⟨a77,h77,hr77⟩:=Sl.at (i:=(j:Int)) (P:=prog) U115 Z114 rfl ((q2_2.L e_3).L e17) (by omega);refine D.t 3 rfl leR (λ_ _ _ hN=>O.idxR rfl s8_3 hr77 (O.o hN)) (D.t 4 rfl leR (λ_ hw_ _ hN=>O.loadG (G:=markF) isAgg114 Z114 rfl (h77.L hw_) (O.o hN)) (D.t 5 rfl leR (λ_ _ _ hN=>O.fa U117 rfl Z115 (Eq.trans s7_3 s7_2) (O.o hN)) (D.t 6 rfl leR (λ_ hw_ _ hN=>O.loadO isAgg115 rfl (((q1_2.L e_3).L e17).L hw_) rfl (O.o hN)) (D.mv 7 rfl leR ?_))));obtain ⟨a82,h82,hr82⟩:=Sl.at (i:=(j:Int)) (P:=prog) U115 Z114 rfl ((q3_2.L e_3).L e17) (by omega);refine D.t 8 rfl leR (λ_ _ _ hN=>O.idxR rfl s8_3 hr82 (O.o hN)) (D.t 9 rfl leR (λ_ hw_ _ hN=>O.loadG (G:=markF) isAgg114 Z114 rfl (h82.L hw_) (O.o hN)) (D.t 10 rfl leR (λ_ _ _ hN=>O.neqM (a:=(a.2[i]'hi2).2[j]'hj2) (b:=(b.2[i]'hi3).2[j]'hj3) (λa b=>run_eq_mark U114 (by decide) (by decide) (by decide) rfl rfl rfl U112 (by decide) (by decide) rfl rfl U3 U3 U3 U110 isAgg3 isAgg3 isAgg112 Z112 isAgg3 isAgg110 (by kernel_rfl) (by kernel_rfl) a b) (by kernel_rfl) rfl rfl (O.o hN)) (K25 ?_)));refine C.condD rfl (λc84=>?_) (λc84=>?_)
   ·
    try simp only[Int.toNat_natCast] at c84
    refine C.sr λK26=>O.j (K26 (C.ret (Outs.one rfl rfl ?_)))
    first
    |exact ⟨cB (dF (λh=>Cn.ne_of c17 (congrArg (λx:Cn.Cart=>x.1.1) h))).symm,(Ext.T (Ext.T (Ext.T (Ext.T (Ext.T (Ext.T (Ext.T e1 e2) e3) e4) e_1) e_2) e_3) e17)⟩
    |exact ⟨cB (dF (λh=>Cn.ne_of c27 (congrArg (λx:Cn.Cart=>x.1.2) h))).symm,(Ext.T (Ext.T (Ext.T (Ext.T (Ext.T (Ext.T (Ext.T e1 e2) e3) e4) e_1) e_2) e_3) e17)⟩
    |exact ⟨cB (dF (λh=>c35 (congrArg (λx:Cn.Cart=>(x.2.length:Int)) h))).symm,(Ext.T (Ext.T (Ext.T (Ext.T (Ext.T (Ext.T (Ext.T e1 e2) e3) e4) e_1) e_2) e_3) e17)⟩
    |exact ⟨cB (dF (λh=>c58 (congrArg Prod.fst (Cn.item_of h hi2 hi3)))).symm,(Ext.T (Ext.T (Ext.T (Ext.T (Ext.T (Ext.T (Ext.T e1 e2) e3) e4) e_1) e_2) e_3) e17)⟩
    |exact ⟨cB (dF (λh=>c66 (congrArg (λx:ItemT=>(x.2.length:Int)) (Cn.item_of h hi2 hi3)))).symm,(Ext.T (Ext.T (Ext.T (Ext.T (Ext.T (Ext.T (Ext.T e1 e2) e3) e4) e_1) e_2) e_3) e17)⟩
    |exact ⟨cB (dF (λh=>c84 (Cn.mark_of (Cn.item_of h hi2 hi3) hj2 hj3))).symm,(Ext.T (Ext.T (Ext.T (Ext.T (Ext.T (Ext.T (Ext.T e1 e2) e3) e4) e_1) e_2) e_3) e17)⟩
   refine C.skip (K24 (K23 (C.region (O.mv (O.ad s8_3 rfl (O.j (O.o (⟨j+1,⟨rfl,s2_3,s3_3,s5_3,s6_3,s7_3,(Ext.T e_3 e17),?_⟩,by first|omega|(simp only[];omega)⟩))))))));refine ⟨by omega,?_⟩;rw[List.take_succ_eq_append_getElem hj2,List.take_succ_eq_append_getElem hj3,hJ,Decidable.of_not_not c84]
  have hj4:j=(a.2[i]'hi2).2.length:=by omega
  refine C.exit (K20 (K13 (K12 (C.region (O.mv (O.ad (Eq.trans s5_3 (Eq.trans s5_2 s5_1)) rfl (O.j (O.o (⟨i+1,⟨rfl,(Eq.trans s2_3 (Eq.trans s2_2 s2_1)),(Eq.trans s3_3 (Eq.trans s3_2 s3_1)),(Ext.T (Ext.T e_1 e_2) e_3),?_⟩,by first|omega|(simp only[];omega)⟩)))))))));refine ⟨by omega,?_⟩;have q6:(a.2[i]'hi2).2=(b.2[i]'hi3).2:=by rw[hj4,List.take_length,List.take_of_length_le (by omega)] at hJ;exact hJ
  rw[List.take_succ_eq_append_getElem hi2,List.take_succ_eq_append_getElem hi3,hI,show (a.2[i]'hi2)=(b.2[i]'hi3) from Prod.ext q4 q6]
 refine C.exit (K9 (K7 (C.sr λK27=>O.j (K27 (C.ret (Outs.one rfl rfl ?_))))))
 first
 |exact ⟨cB (dF (λh=>Cn.ne_of c17 (congrArg (λx:Cn.Cart=>x.1.1) h))).symm,(Ext.T (Ext.T (Ext.T (Ext.T e1 e2) e3) e4) e_1)⟩
 |exact ⟨cB (dF (λh=>Cn.ne_of c27 (congrArg (λx:Cn.Cart=>x.1.2) h))).symm,(Ext.T (Ext.T (Ext.T (Ext.T e1 e2) e3) e4) e_1)⟩
 |exact ⟨cB (dF (λh=>c35 (congrArg (λx:Cn.Cart=>(x.2.length:Int)) h))).symm,(Ext.T (Ext.T (Ext.T (Ext.T e1 e2) e3) e4) e_1)⟩
 |exact ⟨cB (dF (λh=>c58 (congrArg Prod.fst (Cn.item_of h hi2 hi3)))).symm,(Ext.T (Ext.T (Ext.T (Ext.T e1 e2) e3) e4) e_1)⟩
 |exact ⟨cB (dF (λh=>c66 (congrArg (λx:ItemT=>(x.2.length:Int)) (Cn.item_of h hi2 hi3)))).symm,(Ext.T (Ext.T (Ext.T (Ext.T e1 e2) e3) e4) e_1)⟩
 |exact ⟨cB (dF (λh=>c84 (Cn.mark_of (Cn.item_of h hi2 hi3) hj2 hj3))).symm,(Ext.T (Ext.T (Ext.T (Ext.T e1 e2) e3) e4) e_1)⟩
 |(obtain rfl:i=a.2.length:=by omega
   rw[List.take_length,List.take_of_length_le (by omega)] at hI;exact ⟨cB (dT (Prod.ext (Prod.ext q1 q2) hI)).symm,(Ext.T (Ext.T (Ext.T (Ext.T e1 e2) e3) e4) e_1)⟩)
end Go.Proofs.YtpbcafkcfobngaaGreatDoor
end
section
namespace Go.Proofs
open Go.Shelf
def Tryz.lays119_ren:Go.Shelf.Ren:=⟨λ|119=>203|n=>n,λ|21=>21|4=>4|n=>n,λ|n=>n⟩
theorem Tryz.lays119:Go.Proofs.Lays.n119 Tryz.prog Tryz.lays119_ren:={
 mixed:=by kernel_rfl
 f119:=Tryz.func203.trans (congrArg some (by kernel_rfl))
 t4:=Tryz.underlying4
 a4:=Tryz.isAgg4
 z4:=Tryz.sizeOf4
 v4:=Tryz.zeroValue4
 t21:=Tryz.underlying21
 a21:=Tryz.isAgg21
 z21:=Tryz.sizeOf21
 v21:=Tryz.zeroValue21}
theorem Tryz.utf8_ValidRune (r:Int)(w:World):
 Calls Tryz.prog 203 #[.int .i32 r] w λe w'=>e=.returned (.bool (Lib.validRune r))∧w'=w:=Any.utf8_ValidRune Tryz.lays119 r w
def Tryz.lays137_ren:Go.Shelf.Ren:=⟨λ|137=>202|217=>251|266=>268|n=>n,λ|9=>9|5=>5|3=>3|n=>n,λ|n=>n⟩
theorem Tryz.lays137:Go.Proofs.Lays.n137 Tryz.prog Tryz.lays137_ren:={
 mixed:=by kernel_rfl
 f137:=Tryz.func202.trans (congrArg some (by kernel_rfl))
 f217:=Tryz.func251.trans (congrArg some (by kernel_rfl))
 f266:=Tryz.func268.trans (congrArg some (by kernel_rfl))
 t3:=U3
 a3:=Tryz.isAgg3
 z3:=Z3
 v3:=Tryz.zeroValue3
 t5:=U5
 a5:=Tryz.isAgg5
 z5:=Z5
 v5:=Tryz.zeroValue5
 t9:=U9
 a9:=Tryz.isAgg9
 z9:=Z9
 v9:=Tryz.zeroValue9}
open Go.RowKit in
theorem Tryz.strings_IndexByte (s:ByteArray)(c:Int)(w:World):
 Calls Tryz.prog 202 #[.string s,.int .u8 c] w λe w'=>e=.returned (.int .i64 (Lib.indexByte s.data.toList c.toNat.toUInt8))∧w'=w:=Any.strings_IndexByte Tryz.lays137 s c w
end Go.Proofs
end
section
namespace Go.Proofs.YtpbcafkcfobngaaGreatDoor
open Go.Pn Go.RowKit Go.Proofs _root_.Go.Proofs.Tryz
attribute [local irreducible] O C D
theorem two_ne (c:Nat):(95:UInt8).toBitVec≠(UInt8.ofNat (128+c%64)).toBitVec:=λh=>by
 have h:=congrArg BitVec.toNat h;have e:(UInt8.ofNat (128+c%64)).toBitVec.toNat=(128+c%64)%256:=rfl;rw[e] at h;have e2:(95:UInt8).toBitVec.toNat=95:=rfl;rw[e2] at h
 omega
theorem two_idx (c:Nat):Lib.indexByte [46,47] (UInt8.ofNat (128+c%64))= -1:=by
 have e:∀n:UInt8,n.toNat<128->(n==UInt8.ofNat (128+c%64))=false:=λn hn=>by
  have:n≠UInt8.ofNat (128+c%64):=λh=>by
   rw[h] at hn;have e:(UInt8.ofNat (128+c%64)).toNat=(128+c%64)%256:=rfl
   omega
  simpa using this
 unfold Lib.indexByte Lib.indexByte Lib.indexByte;rw[e 46 (by decide),e 47 (by decide)]
 rfl
theorem indexByte_spec (s:List UInt8)(c:BitVec 8)(w:World):Ret prog 202 #[str s,.int .u8 (c.toNat:Int)] w (λv w'=>v=.int .i64 (Lib.indexByte s ⟨c⟩)∧w'=w):=by
 refine Ret.of (Tryz.strings_IndexByte ⟨s.toArray⟩ (c.toNat:Int) w) ?_;rintro e w' ⟨rfl,rfl⟩;refine ⟨_,rfl,?_,rfl⟩;have e:((c.toNat:Int)).toNat.toUInt8=(⟨c⟩:UInt8):=by
  rw[Int.toNat_natCast];exact UInt8.toNat_inj.1 (by show c.toNat%256=c.toNat;have:=c.isLt;omega)
 rw[e]
theorem validRune_spec (r:Int)(w:World):Ret prog 203 #[.int .i32 r] w (λv w'=>v=.bool (Lib.validRune r)∧w'=w):=by
 refine Ret.of (Tryz.utf8_ValidRune r w) ?_;rintro e w' ⟨rfl,rfl⟩;exact ⟨_,rfl,rfl,rfl⟩
theorem irune_spec (c:Nat)(w:World)(h1:128<=c)(h2:c<256):
 Ret prog 143 #[str ([45,95,46,47]),.int .i32 ((c:Int))] w (λv w'=>v=.int .i64 (-1)∧Le w w'):=by
 have hlast:(two c)[1]! =UInt8.ofNat (128+c%64):=rfl;refine enT [str ([45,95,46,47]),.int .i32 ((c:Int))] 187 func143 rfl rfl (C.sr λK1=>O.j (K1 (C.bl λK2=>C.sr λK3=>O.mv (O.leqK rfl rfl (O.cast (v':=.bool true) (cB (by exact dT (by omega))) (O.mv (O.yes rfl rfl (O.mv (O.yes rfl rfl (O.lssK rfl rfl (O.cast (v':=.bool false) (cB (by exact dF (by omega))) (O.pickT rfl (O.j (K3 (C.condF rfl (C.sr λK4=>O.mv (O.eqlK rfl rfl (O.cast (v':=.bool false) (cB (by exact dF (by omega))) (O.j (K4 (C.condF rfl (C.sr λK5=>O.mv (O.call call203 (args1 rfl) (validRune_spec _ _) ?_)))))))))))))))))))))));rintro v_185 w1 ⟨rfl,hw_⟩;replace hw_:=hw_.symm;subst hw_;refine O.cast (v':=.bool true) (cB (by unfold Lib.validRune;exact dT (by omega))) (O.not rfl (O.cast (v':=.bool false) rfl (O.j (K5 (C.condF rfl (C.scope (C.sr λK6=>O.mv (O.convKS (l:=two c) underlying21 U9 rfl (encode_two h1 h2) (O.j (K6 (C.sr λK7=>O.mv (O.lenS U9 rfl (O.cast (v':=.int .i64 2) rfl (O.sb rfl rfl (O.cast (v':=.int .i64 (1)) rfl (O.j (K7 (C.sr λK8=>O.mv (O.j (K8 (C.sr λK9=>O.j (K9 (C.sq λK10=>C.bl λK11=>?_)))))))))))))))))))))));refine C.loop0 (σ:=Nat) (λf0 w0 q f w=>f 9=.int .i64 (1)∧f 0=f0 0∧f 1=f0 1∧f 7=f0 7∧f 8=f0 8∧Le w0 w) (λq=>q) 0 ?_ ?_
 ·
  exact ⟨rfl,rfl,rfl,rfl,rfl,Le.refl _⟩
 rintro q f_1 w1 ⟨s9_1,s0_1,s1_1,s7_1,s8_1,e_1⟩;have z_1:=e_1.size;refine C.sq λK12=>C.sr λK13=>O.mv (O.mv (O.lenS U9 s0_1 (O.lssI s9_1 rfl (O.cast (v':=.bool true) (cB (by exact dT (by decide))) (K13 (C.condT rfl (C.skip (K12 (C.bl λK14=>C.scope (C.sq λK15=>C.sd λK16 w2 e2 z2=>D.mv 0 rfl leR (D.mv 1 rfl leR (D.t 2 rfl leR (λ_ _ _ hN=>O.indexS U9 s0_1 s9_1 ⟨by decide,by decide⟩ (O.o hN)) (D.mv 3 rfl leR (D.mv 4 rfl leR (D.t 5 rfl leR (λ_ _ _ hN=>O.indexS U9 s7_1 s8_1 ⟨by decide,(by decide:(1:Int)<2)⟩ (O.o hN)) ?_)))))))))))))))
 refine D.t 6 rfl leR (λ_ _ _ hN=>O.neqU (m:=8) rfl rfl (O.o hN)) (D.cast (v':=.bool true) (cB (by exact dT (two_ne c))) (K16 (C.condT rfl (C.sd λK17 w3 e3 z3=>D.mv 0 rfl leR (D.mv 1 rfl leR (D.t 2 rfl leR (λ_ _ _ hN=>O.ad s9_1 rfl (O.cast (v':=.int .i64 (2)) rfl (O.o hN))) (D.t 3 rfl leR (λ_ _ _ hN=>O.subS U9 s0_1 (.inr ⟨_,_,rfl,rfl⟩) (.inl ⟨rfl,rfl⟩) (by simp) (O.o hN)) (D.mv 4 rfl leR (D.mv 5 rfl leR (D.t 6 rfl leR (λ_ _ _ hN=>O.indexS U9 s7_1 s8_1 ⟨by decide,(by decide:(1:Int)<2)⟩ (O.o hN)) ?_))))))))));refine D.on 7 rfl rfl (O.call call202 (args2 rfl rfl) (indexByte_spec _ _ _) ?_);rintro v_41 w4 ⟨rfl,hw_⟩;replace hw_:=hw_.symm;subst hw_;refine O.o ⟨leR,D.cast (v':=.int .i64 (-1)) (cI (two_idx c)) (D.as 8 rfl leR (K17 (C.sq λK18=>C.sr λK19=>O.mv (O.lssI rfl rfl (O.cast (v':=.bool true) (cB (by exact dT (by omega))) (K19 (C.condT rfl (C.sr λK20=>O.j (K20 (C.ret (Outs.one rfl rfl ?_)))))))))))⟩;exact ⟨rfl,(Ext.T (Ext.T e_1 e2) e3)⟩
theorem cruneH_spec (c:Nat)(w:World)(h1:128<=c)(h2:c<256):
 Ret prog 97 #[str ([45,95,46,47]),.int .i32 ((c:Int))] w (λv w'=>v=.bool (false)∧Le w w'):=by
 refine enT [str ([45,95,46,47]),.int .i32 ((c:Int))] 9 func97 rfl rfl (C.sr λK1=>O.j (K1 (C.sr λK2=>O.mv (O.mv (O.call call143 (args2 rfl rfl) (irune_spec c _ h1 h2) ?_)))));rintro v_7 w1 ⟨rfl,e1⟩;have z1:=e1.size;refine O.geqI rfl rfl (O.cast (v':=.bool false) (cB (by exact dF (by omega))) (O.j (K2 (C.ret (Outs.one rfl rfl ?_)))));exact ⟨rfl,e1⟩
theorem crune_spec (c:BitVec 8)(w:World):Ret prog 97 #[str [45,95,46,47],.int .i32 (c.toNat:Int)] w (λv w'=>v=.bool (Bt.sepB ⟨c⟩)∧Le w w'):=by
 have hc:=c.isLt
 by_cases h:c.toNat<128
 ·refine Ret.of (Tryz.strings_ContainsRune_ascii ⟨#[45,95,46,47]⟩ (c.toNat:Int) w (by omega) (by omega)) ?_
  rintro e w' ⟨rfl,rfl⟩;refine ⟨_,rfl,congrArg Value.bool ?_,Le.refl _⟩;have e:((c.toNat:Int)).toNat.toUInt8=(⟨c⟩:UInt8):=by
   rw[Int.toNat_natCast];exact UInt8.toNat_inj.1 (by show c.toNat%256=c.toNat;omega)
  rw[e];exact Bt.index_sep _
 ·refine (cruneH_spec c.toNat w (by omega) (by omega)).mono ?_
  rintro v w' ⟨rfl,e⟩;exact ⟨cB (Bt.sep_hi (c:=⟨c⟩) (by show 128<=c.toNat;omega)).symm,e⟩
theorem okKey_spec (s:List UInt8)(w:World)(hl:s.length<=1000000):
 Ret prog 60 #[str (s)] w (λv w'=>v=.bool (Bt.okKey s)∧Le w w'):=by
 refine enT [str (s)] 41 func60 rfl rfl (C.sr λK1=>O.j (K1 (C.sq λK2=>C.sr λK3=>O.mv (O.strB U9 U30 U5 rfl (by unfold maxLen;omega) (λb6 cap6 w1 hb6 hc6 h6 hs6 e1=>?_)))));have z1:=e1.size;refine O.len U30 rfl hs6 (O.mv (K3 (C.bl λK4=>C.loop0 (σ:=Nat) (λf0 w0 k f w=>f 8=.int .i64 (k)∧f 0=f0 0∧f 6=f0 6∧f 7=f0 7∧Le w0 w∧k<=s.length∧∀i,∀h:i<s.length,i<k->Bt.keyB s[i]=true) (λk=>s.length-k) 0 ?_ ?_)))
 ·
  refine ⟨rfl,rfl,rfl,rfl,Le.refl _,?_⟩;exact ⟨Nat.zero_le _,λi h k=>absurd k (Nat.not_lt_zero _)⟩
 rintro k f_1 w2 ⟨s8_1,s0_1,s6_1,s7_1,e_1,⟨hk,hI⟩⟩;have z_1:=e_1.size;refine C.sr λK5=>O.lssI s8_1 s7_1 (K5 (C.sq λK6=>C.condD rfl (λc9=>?_) (λc9=>?_)))
 ·
  have hk2:k<s.length:=by omega
  refine C.skip (K6 (C.sq λK7=>C.bl λK8=>C.sr λK9=>O.idx U30 Z5 rfl s6_1 (hs6.L e_1) s8_1 (by omega) (λa10 h10=>O.loadB isAgg5 rfl h10 ?_)));have sp1_:∃y:UInt8,y=s[k]:=⟨_,rfl⟩
  obtain ⟨y,hy⟩:=sp1_;refine O.cast (v':=.int .u8 (y.toBitVec.toNat:Int)) (by rw[hy];rfl) (O.j (K9 (C.sr λK10=>O.mv (O.lssU (m:=8) (b:=97#8) rfl rfl (O.mv (O.cut 3 (λf f'=>f' 17=.bool (decide (y.toBitVec<97#8∨122#8<y.toBitVec))∧f' 0=f 0∧f' 4=f 4∧f' 6=f 6∧f' 7=f 7∧f' 8=f 8) ?_ ?_))))))
  ·
   refine O.splitD (x:=.tmp 14) rfl (λc14=>?_) (λc14=>?_)
   ·
    refine O.no rfl (noB (isT rfl c14) rfl) (O.no rfl (noB (isT rfl c14) rfl) (O.pickT (isT rfl c14) (O.o (⟨⟨?_,rfl,rfl,rfl,rfl,rfl⟩,rfl⟩))));exact dJ rfl
   refine O.yes rfl (isF rfl c14) (O.mv (O.yes rfl (isF rfl c14) (O.gtrU (m:=8) (b:=122#8) rfl rfl (O.pickF (isF rfl c14) (O.o (⟨⟨?_,rfl,rfl,rfl,rfl,rfl⟩,rfl⟩))))));exact dJ rfl
  rintro f_2 ⟨s17_2,s0_2,s4_2,s6_2,s7_2,s8_2⟩;refine O.mv (O.cut 7 (λf f'=>f' 25=.bool (decide (Bt.oddB y))∧f' 0=f 0∧f' 4=f 4∧f' 6=f 6∧f' 7=f 7∧f' 8=f 8) ?_ ?_)
  ·
   refine O.splitD (x:=.tmp 18) s17_2 (λc18=>?_) (λc18=>?_)
   ·
    refine O.yes rfl (isT s17_2 c18) (O.mv (O.yes rfl (isT s17_2 c18) (O.lssU (m:=8) (b:=48#8) s4_2 rfl (O.yes rfl (isT s17_2 c18) (O.mv (O.splitD (x:=.tmp 21) rfl (λc21=>?_) (λc21=>?_)))))))
    ·
     refine O.no rfl (noB (isT rfl c21) rfl) (O.no rfl (noB (isT rfl c21) rfl) (O.yes rfl (isT s17_2 c18) (O.pickT (isT rfl c21) (O.pickT (isT s17_2 c18) (O.o (⟨⟨?_,rfl,rfl,rfl,rfl,rfl⟩,rfl⟩))))))
     first
     |exact rfl
     |(refine Eq.trans rfl (congrArg Value.bool ?_);unfold Bt.oddB;first|simp[c18,c21]|simp[c18])
    refine O.yes rfl (isF rfl c21) (O.mv (O.yes rfl (isF rfl c21) (O.gtrU (m:=8) (b:=57#8) s4_2 rfl (O.yes rfl (isT s17_2 c18) (O.pickF (isF rfl c21) (O.pickT (isT s17_2 c18) (O.o (⟨⟨?_,rfl,rfl,rfl,rfl,rfl⟩,rfl⟩))))))))
    first
    |exact rfl
    |(refine Eq.trans rfl (congrArg Value.bool ?_);unfold Bt.oddB;first|simp[c18,c21]|simp[c18])
   refine O.no rfl (noB (isF s17_2 c18) rfl) (O.no rfl (noB (isF s17_2 c18) rfl) (O.no rfl (noB (isF s17_2 c18) rfl) (O.no rfl (noU rfl) (O.no rfl (noU rfl) (O.no rfl (noB (isF s17_2 c18) rfl) (O.pickF (isF s17_2 c18) (O.o (⟨⟨?_,rfl,rfl,rfl,rfl,rfl⟩,rfl⟩))))))))
   first
   |exact rfl
   |(refine Eq.trans rfl (congrArg Value.bool ?_);unfold Bt.oddB;first|simp[c18,c21]|simp[c18])
  rintro f_3 ⟨s25_3,s0_3,s4_3,s6_3,s7_3,s8_3⟩;refine O.mv (O.splitD (x:=.tmp 26) s25_3 (λc26=>?_) (λc26=>?_))
  ·
   refine O.yes rfl (isT s25_3 c26) (O.mv (O.yes rfl (isT s25_3 c26) (O.convBK U5 underlying21 (Eq.trans s4_3 s4_2) (O.yes rfl (isT s25_3 c26) (O.call call97 (args2 rfl rfl) (crune_spec y.toBitVec _) ?_)))));rintro v_29 w3 ⟨rfl,e3⟩;have z3:=e3.size;refine O.yes rfl (isT s25_3 c26) (O.not rfl (O.pickT (isT s25_3 c26) (K10 (C.cond rfl (λc31=>?_) (λc31=>?_)))))
   ·
    refine C.sr λK11=>O.j (K11 (C.ret (Outs.one rfl rfl ?_)))
    exact ⟨cB (Bt.okKey_no hk2 (by rw[<-hy];exact Bt.keyB_no c26 (by simpa using c31))).symm,(Ext.T (Ext.T e1 e_1) e3)⟩
   refine C.skip (K8 (K7 (C.region (O.ad (Eq.trans s8_3 (Eq.trans s8_2 s8_1)) rfl (O.mv (O.o (⟨k+1,⟨rfl,(Eq.trans s0_3 (Eq.trans s0_2 s0_1)),(Eq.trans s6_3 (Eq.trans s6_2 s6_1)),(Eq.trans s7_3 (Eq.trans s7_2 s7_1)),(Ext.T e_1 e3),?_⟩,by first|omega|(simp only[];omega)⟩)))))));refine ⟨by omega,λi hi hik=>?_⟩;rcases Nat.lt_or_eq_of_le (Nat.le_of_lt_succ hik) with h|rfl
   ·exact hI i hi h
   ·rw [<-hy]
    first
    |exact Bt.keyB_of c26
    |exact Bt.keyB_sep (by simpa using c31)
  refine O.no rfl (noB (isF s25_3 c26) rfl) (O.no rfl (noB (isF s25_3 c26) rfl) (O.no rfl (noB (isF s25_3 c26) rfl) (O.no rfl (noB (isF s25_3 c26) rfl) (O.pickF (isF s25_3 c26) (K10 (C.condF rfl (C.skip (K8 (K7 (C.region (O.ad (Eq.trans s8_3 (Eq.trans s8_2 s8_1)) rfl (O.mv (O.o (⟨k+1,⟨rfl,(Eq.trans s0_3 (Eq.trans s0_2 s0_1)),(Eq.trans s6_3 (Eq.trans s6_2 s6_1)),(Eq.trans s7_3 (Eq.trans s7_2 s7_1)),e_1,?_⟩,by first|omega|(simp only[];omega)⟩))))))))))))));refine ⟨by omega,λi hi hik=>?_⟩;rcases Nat.lt_or_eq_of_le (Nat.le_of_lt_succ hik) with h|rfl
  ·exact hI i hi h
  ·rw [<-hy]
   exact Bt.keyB_of c26
 have hall:s.all Bt.keyB=true:=Cn.all_yes λi hi=>hI i hi (by omega)
 refine C.exit (K4 (K2 (C.sr λK12=>O.mv (O.lenS U9 s0_1 (O.geqI rfl rfl (O.mv (O.cut 4 (λf f'=>f' 40=.bool (decide ((s.length:Int)≥1∧(s.length:Int)<=64))) ?_ ?_)))))))
 ·
  refine O.splitD (x:=.tmp 36) rfl (λc36=>?_) (λc36=>?_)
  ·
   refine O.yes rfl (isT rfl c36) (O.mv (O.yes rfl (isT rfl c36) (O.lenS U9 s0_1 (O.yes rfl (isT rfl c36) (O.leqI rfl rfl (O.pickT (isT rfl c36) (O.o (⟨?_,rfl⟩))))))));exact dJ rfl
  refine O.no rfl (noB (isF rfl c36) rfl) (O.no rfl (noB (isF rfl c36) rfl) (O.no rfl (noB (isF rfl c36) rfl) (O.pickF (isF rfl c36) (O.o (⟨?_,rfl⟩)))));exact dJ rfl
 intro f_4 s40_4;refine O.j (K12 (C.ret (Outs.one rfl s40_4 ?_)))
 first
 |exact ⟨cB (Bt.okKey_no hk2 (by rw[<-hy];exact Bt.keyB_no c26 (by simpa using c31))).symm,(Ext.T e1 e_1)⟩
 |(refine ⟨congrArg Value.bool ?_,(Ext.T e1 e_1)⟩
   unfold Bt.okKey;rw[hall,Bool.true_and];exact decide_eq_decide.2 (by omega))
theorem ordered_spec (v0:Value)(raw:List EntR)(l:List EntT)(F:Nat->Prop)(w:World)(hr:Sl entF.enc w F v0 raw)(he:EntL w F raw l)(hF:∀k,F k->k<w.heap.size)(hB:Bt.Big l)(mx:Mx w):
 Ret prog 59 #[v0] w (λv w'=>v=.bool (Bt.ordered l)∧Le w w'):=by
 have hl:=he.1;have hrl:=hr.le;refine enT [v0] 38 func59 rfl rfl (C.sr λK1=>O.j (K1 (C.sq λK2=>C.sr λK3=>O.mv (O.len U22 rfl hr (O.mv (K3 (C.bl λK4=>C.loop0 (σ:=Nat) (λf0 w0 k f w=>f 7=.int .i64 ((k:Int))∧f 0=f0 0∧f 5=f0 5∧f 6=f0 6∧Le w0 w∧k<=l.length∧(∀i,∀h:i<l.length,i<k->Bt.okE l[i]=true)∧(∀i,∀h:i+1<l.length,i+1<k->Op.bytesLess l[i].1 l[i+1].1=true)) (λk=>l.length-k) 0 ?_ ?_)))))))
 ·
  refine ⟨rfl,rfl,rfl,rfl,Le.refl _,?_⟩;exact ⟨Nat.zero_le _,λi h k=>absurd k (Nat.not_lt_zero _),λi h k=>absurd k (Nat.not_lt_zero _)⟩
 rintro k f_1 w1 ⟨s7_1,s0_1,s5_1,s6_1,e_1,⟨hk,hI,hJ⟩⟩;have z_1:=e_1.size;refine C.sr λK5=>O.lssI s7_1 s6_1 (K5 (C.sq λK6=>C.condD rfl (λc8=>?_) (λc8=>?_)))
 ·
  have hk2:k<l.length:=by omega
  refine C.skip (K6 (C.sq λK7=>C.bl λK8=>C.sr λK9=>O.mv (O.idx U22 Z50 rfl s5_1 (hr.L e_1) s7_1 (by omega) (λa10 h10=>O.loadG (G:=entF) isAgg50 Z50 rfl h10 ?_))));have hEr:=((he.L e_1)).at (k:=k) (by have q9:=((he.L e_1)).1;omega);obtain ⟨hk9r,r,x,hrr,hxr,hkxr,hca⟩:=hEr;have hmxr:x∈l:=by rw[hxr];exact List.getElem_mem _
  have hbr:=hB x hmxr;refine O.cast (v':=.agg #[str r.1,slv r.2.1.1,slv r.2.1.2,slv r.2.2]) (by rw[hrr];rfl) (O.alloc zeroValue50 (λb4 w2 hb4 hz4 e2=>?_));have z2:=e2.size;have h4:=hz4.own;have hl4:=h4.lt;refine O.j (O.storeA (vs:=[str r.1,slv r.2.1.1,slv r.2.1.2,slv r.2.2]) Z50 rfl rfl rfl (by intro u hu;simp only[List.mem_cons,List.not_mem_nil,or_false] at hu;rcases hu with rfl|rfl|rfl|rfl<;>rfl) h4 (leB rfl) (λw3 hs3 e3 z3=>K9 (C.sd λK10 w4 e4 z4=>D.t 0 rfl leR (λ_ _ _ hN=>O.fa U50 rfl Z9 rfl (O.o hN)) (D.t 1 rfl leR (λ_ hw_ _ hN=>O.loadO isAgg9 rfl ((hs3.L e4).L hw_) rfl (O.o hN)) (D.on 2 rfl rfl (O.call call60 (args1 rfl) (okKey_spec r.1 _ (by rw[hkxr];exact hbr.1)) ?_))))));rintro v_14 w5 ⟨rfl,e5⟩;have z5:=e5.size;refine O.o ⟨e5,D.t 3 rfl e5 (λ_ _ _ hN=>O.not rfl (O.o hN)) (D.mv 4 rfl e5 (D.split (x:=.tmp 16) rfl (λc16=>?_) (λc16=>?_)))⟩
  ·
   refine D.tn 5 rfl rfl e5 rfl (noB (isT' rfl c16) rfl) (D.tn 6 rfl rfl e5 rfl (noB (isT' rfl c16) rfl) (D.tn 7 rfl rfl e5 rfl (noB (isT' rfl c16) rfl) (D.tn 8 rfl rfl e5 rfl (noB (isT' rfl c16) rfl) (D.tk 9 rfl rfl rfl rfl e5 pick_form (λ_ hw_ _ hN=>O.pickT (isT' rfl c16) (O.o hN)) (D.mv 10 rfl e5 (D.tn 11 rfl rfl e5 rfl (noB rfl rfl) (D.tn 12 rfl rfl e5 rfl (noB rfl rfl) (D.tn 13 rfl rfl e5 rfl (noB rfl rfl) (D.tn 14 rfl rfl e5 rfl (noU rfl) (D.tn 15 rfl rfl e5 rfl (noU rfl) (D.tn 16 rfl rfl e5 rfl (noU rfl) (D.tn 17 rfl rfl e5 rfl (noU rfl) (D.tn 18 rfl rfl e5 rfl (noU rfl) (D.tn 19 rfl rfl e5 rfl (noU rfl) (D.tn 20 rfl rfl e5 rfl (noU rfl) ?_)))))))))))))));refine D.tn 21 rfl rfl e5 rfl (noU rfl) (D.tn 22 rfl rfl e5 rfl (noU rfl) (D.tn 23 rfl rfl e5 rfl (noB rfl rfl) (D.tk 24 rfl rfl rfl rfl e5 pick_form (λ_ hw_ _ hN=>O.pickT rfl (O.o hN)) (K10 (C.condT rfl (C.sr λK11=>O.j (K11 (C.ret (Outs.one rfl rfl ?_)))))))));exact ⟨cB (Bt.ordered_no1 hk2 (by rw[<-hxr];exact Bt.okE_no1 (by rw[<-hkxr];simpa using c16))).symm,(Ext.T (Ext.T (Ext.nr (Ext.T e_1 e2) e3) e4) e5)⟩
  refine D.ty 5 rfl rfl rfl rfl (isF' rfl c16) e5 ⟨_,rfl⟩ (λ_ hw_ _ hN=>O.fa U50 rfl Z47 rfl (O.o hN)) (D.ty 6 rfl rfl rfl rfl (isF' rfl c16) e5 ⟨_,rfl⟩ (λ_ hw_ _ hN=>O.loadOA isAgg47 Z47 rfl ((hs3.L e4).L hw_) (leB rfl) (O.o hN)) (D.oneYes (i:=7) rfl rfl (isF' rfl c16) (by kernel_rfl) ?_));have t0:=Ext.T e_1 e2;have t1:=(hca.L e2).keepA e3;have t2:=(t1.L e4).L e5;have t3:=Ext.T (Ext.nr t0 e3) e4;refine O.call call61 (args1 rfl) (cartValid_spec (slv r.2.1.1) (slv r.2.1.2) (slv r.2.2) x.2 F _ (t2).1 (t2).2.1 (t2).2.2 (λj hj=>by have q1:=hF j hj;omega) hbr.2.2.2.1 hbr.2.2.2.2 (mx.L (Ext.T t3 e5))) ?_;rintro v_19 w6 ⟨rfl,e6⟩;have z6:=e6.size;refine O.o ⟨(Ext.T e5 e6),D.ty 8 rfl rfl rfl rfl (isF' rfl c16) (Ext.T e5 e6) ⟨_,rfl⟩ (λ_ hw_ _ hN=>O.not rfl (O.o hN)) (D.tk 9 rfl rfl rfl rfl (Ext.T e5 e6) pick_form (λ_ hw_ _ hN=>O.pickF (isF' rfl c16) (O.o hN)) (D.mv 10 rfl (Ext.T e5 e6) (D.split (x:=.tmp 22) rfl (λc22=>?_) (λc22=>?_))))⟩
  ·
   refine D.tn 11 rfl rfl (Ext.T e5 e6) rfl (noB (isT' rfl c22) rfl) (D.tn 12 rfl rfl (Ext.T e5 e6) rfl (noB (isT' rfl c22) rfl) (D.tn 13 rfl rfl (Ext.T e5 e6) rfl (noB (isT' rfl c22) rfl) (D.tn 14 rfl rfl (Ext.T e5 e6) rfl (noU rfl) (D.tn 15 rfl rfl (Ext.T e5 e6) rfl (noU rfl) (D.tn 16 rfl rfl (Ext.T e5 e6) rfl (noU rfl) (D.tn 17 rfl rfl (Ext.T e5 e6) rfl (noU rfl) (D.tn 18 rfl rfl (Ext.T e5 e6) rfl (noU rfl) (D.tn 19 rfl rfl (Ext.T e5 e6) rfl (noU rfl) (D.tn 20 rfl rfl (Ext.T e5 e6) rfl (noU rfl) (D.tn 21 rfl rfl (Ext.T e5 e6) rfl (noU rfl) (D.tn 22 rfl rfl (Ext.T e5 e6) rfl (noU rfl) ?_)))))))))));refine D.tn 23 rfl rfl (Ext.T e5 e6) rfl (noB (isT' rfl c22) rfl) (D.tk 24 rfl rfl rfl rfl (Ext.T e5 e6) pick_form (λ_ hw_ _ hN=>O.pickT (isT' rfl c22) (O.o hN)) (K10 (C.condT rfl (C.sr λK12=>O.j (K12 (C.ret (Outs.one rfl rfl ?_)))))))
   first
   |exact ⟨cB (Bt.ordered_no1 hk2 (by rw[<-hxr];exact Bt.okE_no1 (by rw[<-hkxr];simpa using c16))).symm,(Ext.T (Ext.T t3 e5) e6)⟩
   |exact ⟨cB (Bt.ordered_no1 hk2 (by rw[<-hxr];exact Bt.okE_no2 (by simpa using c22))).symm,(Ext.T (Ext.T t3 e5) e6)⟩
  refine D.ty 11 rfl rfl rfl rfl (isF' rfl c22) (Ext.T e5 e6) ⟨pure _,rfl⟩ (λ_ hw_ _ hN=>O.mv (O.o hN)) (D.ty 12 rfl rfl rfl rfl (isF' rfl c22) (Ext.T e5 e6) ⟨_,rfl⟩ (λ_ hw_ _ hN=>O.gtrI s7_1 rfl (O.o hN)) (D.ty 13 rfl rfl rfl rfl (isF' rfl c22) (Ext.T e5 e6) ⟨pure _,rfl⟩ (λ_ hw_ _ hN=>O.mv (O.o hN)) (D.splitD (x:=.tmp 25) rfl (λc25=>?_) (λc25=>?_))))
  ·
   refine D.ty 14 rfl rfl rfl rfl (isT rfl c25) (Ext.T e5 e6) ⟨pure _,rfl⟩ (λ_ hw_ _ hN=>O.mv (O.o hN)) (D.ty 15 rfl rfl rfl rfl (isT rfl c25) (Ext.T e5 e6) ⟨pure _,rfl⟩ (λ_ hw_ _ hN=>O.mv (O.o hN)) (D.ty 16 rfl rfl rfl rfl (isT rfl c25) (Ext.T e5 e6) ⟨_,rfl⟩ (λ_ hw_ _ hN=>O.sb s7_1 rfl (O.o hN)) ?_));have sp1_:=Sl.at (i:=(k:Int)-1) (P:=prog) U22 Z50 rfl (hr.L t3) (by omega);obtain ⟨a29,h29,hr29⟩:=sp1_;refine D.ty 17 rfl rfl rfl rfl (isT rfl c25) (Ext.T e5 e6) ⟨_,rfl⟩ (λ_ hw_ _ hN=>O.idxR s0_1 rfl hr29 (O.o hN)) (D.ty 18 rfl rfl rfl rfl (isT rfl c25) (Ext.T e5 e6) ⟨_,rfl⟩ (λ_ hw_ _ hN=>O.ft U50 rfl Z9 rfl (O.o hN)) (D.ty 19 rfl rfl rfl rfl (isT rfl c25) (Ext.T e5 e6) ⟨_,rfl⟩ (λ_ hw_ _ hN=>O.loadAtF (G:=entF) isAgg9 rfl rfl (h29.L hw_) (O.o hN)) (D.ty 20 rfl rfl rfl rfl (isT rfl c25) (Ext.T e5 e6) ⟨_,rfl⟩ (λ_ hw_ _ hN=>O.fa U50 rfl Z9 rfl (O.o hN)) ?_)));refine D.ty 21 rfl rfl rfl rfl (isT rfl c25) (Ext.T e5 e6) ⟨_,rfl⟩ (λ_ hw_ _ hN=>O.loadO isAgg9 rfl ((hs3.L e4).L hw_) rfl (O.o hN)) (D.ty 22 rfl rfl rfl rfl (isT rfl c25) (Ext.T e5 e6) ⟨_,rfl⟩ (λ_ hw_ _ hN=>O.geqS rfl rfl (O.o hN)) (D.ty 23 rfl rfl rfl rfl (isF' rfl c22) (Ext.T e5 e6) pick_form (λ_ hw_ _ hN=>O.pickT (isT rfl c25) (O.o hN)) (D.tk 24 rfl rfl rfl rfl (Ext.T e5 e6) pick_form (λ_ hw_ _ hN=>O.pickF (isF' rfl c22) (O.o hN)) (K10 (C.cond rfl (λc36=>?_) (λc36=>?_))))))
   ·
    have e9:((k:Int)-1).toNat=k-1:=by omega
    simp only[e9] at c36;rw[(he.2 (k-1) (by omega) (by omega)).1,hkxr,hxr] at c36;refine C.sr λK13=>O.j (K13 (C.ret (Outs.one rfl rfl ?_)))
    first
    |exact ⟨cB (Bt.ordered_no1 hk2 (by rw[<-hxr];exact Bt.okE_no1 (by rw[<-hkxr];simpa using c16))).symm,(Ext.T (Ext.T t3 e5) e6)⟩
    |exact ⟨cB (Bt.ordered_no1 hk2 (by rw[<-hxr];exact Bt.okE_no2 (by simpa using c22))).symm,(Ext.T (Ext.T t3 e5) e6)⟩
    |exact ⟨cB (Bt.ordered_no2 (i:=k) (j:=k-1) hk2 (by omega) (by omega) (by simpa using c36)).symm,(Ext.T (Ext.T t3 e5) e6)⟩
   have e9:((k:Int)-1).toNat=k-1:=by omega
   simp only[e9] at c36;rw[(he.2 (k-1) (by omega) (by omega)).1,hkxr,hxr] at c36;refine C.skip (K8 (K7 (C.region (O.ad s7_1 rfl (O.mv (O.o (⟨k+1,⟨rfl,s0_1,s5_1,s6_1,(Ext.T (Ext.T t3 e5) e6),?_⟩,by first|omega|(simp only[];omega)⟩)))))));refine ⟨by omega,λi hi hik=>?_,λi hi hik=>?_⟩
   ·rcases Nat.lt_or_eq_of_le (Nat.le_of_lt_succ hik) with h|rfl
    ·exact hI i hi h
    ·rw [<-hxr];exact Bt.okE_of (by rw[<-hkxr];simpa using c16) (by simpa using c22)
   ·rcases Nat.lt_or_eq_of_le (Nat.le_of_lt_succ hik) with h|rfl
    ·exact hJ i hi h
    ·first
     |(exfalso;omega)
     |simpa using c36
  refine D.tn 14 rfl rfl (Ext.T e5 e6) rfl (noB (isF rfl c25) rfl) (D.tn 15 rfl rfl (Ext.T e5 e6) rfl (noB (isF rfl c25) rfl) (D.tn 16 rfl rfl (Ext.T e5 e6) rfl (noB (isF rfl c25) rfl) (D.tn 17 rfl rfl (Ext.T e5 e6) rfl (noB (isF rfl c25) rfl) (D.tn 18 rfl rfl (Ext.T e5 e6) rfl (noB (isF rfl c25) rfl) (D.tn 19 rfl rfl (Ext.T e5 e6) rfl (noB (isF rfl c25) rfl) (D.tn 20 rfl rfl (Ext.T e5 e6) rfl (noB (isF rfl c25) rfl) (D.tn 21 rfl rfl (Ext.T e5 e6) rfl (noB (isF rfl c25) rfl) (D.tn 22 rfl rfl (Ext.T e5 e6) rfl (noB (isF rfl c25) rfl) ?_))))))));refine D.ty 23 rfl rfl rfl rfl (isF' rfl c22) (Ext.T e5 e6) pick_form (λ_ hw_ _ hN=>O.pickF (isF rfl c25) (O.o hN)) (D.tk 24 rfl rfl rfl rfl (Ext.T e5 e6) pick_form (λ_ hw_ _ hN=>O.pickF (isF' rfl c22) (O.o hN)) (K10 (C.condF rfl (C.skip (K8 (K7 (C.region (O.ad s7_1 rfl (O.mv (O.o (⟨k+1,⟨rfl,s0_1,s5_1,s6_1,(Ext.T (Ext.T t3 e5) e6),?_⟩,by first|omega|(simp only[];omega)⟩)))))))))));refine ⟨by omega,λi hi hik=>?_,λi hi hik=>?_⟩
  ·rcases Nat.lt_or_eq_of_le (Nat.le_of_lt_succ hik) with h|rfl
   ·exact hI i hi h
   ·rw [<-hxr];exact Bt.okE_of (by rw[<-hkxr];simpa using c16) (by simpa using c22)
  ·rcases Nat.lt_or_eq_of_le (Nat.le_of_lt_succ hik) with h|rfl
   ·exact hJ i hi h
   ·first
    |(exfalso;omega)
    |simpa using c36
 refine C.exit (K4 (K2 (C.sr λK14=>O.j (K14 (C.ret (Outs.one rfl rfl ?_))))))
 first
 |exact ⟨cB (Bt.ordered_no1 hk2 (by rw[<-hxr];exact Bt.okE_no1 (by rw[<-hkxr];simpa using c16))).symm,e_1⟩
 |exact ⟨cB (Bt.ordered_no1 hk2 (by rw[<-hxr];exact Bt.okE_no2 (by simpa using c22))).symm,e_1⟩
 |exact ⟨cB (Bt.ordered_no2 (i:=k) (j:=k-1) hk2 (by omega) (by omega) (by simpa using c36)).symm,e_1⟩
 |exact ⟨cB (Bt.ordered_yes (λi hi=>hI i hi (by omega)) (λi hi=>hJ i hi (by omega))).symm,e_1⟩
theorem bvalid_spec (v0:Value)(raw:List EntR)(l:List EntT)(F:Nat->Prop)(w:World)(hr:Sl entF.enc w F v0 raw)(he:EntL w F raw l)(hF:∀k,F k->k<w.heap.size)(hB:Bt.Big l)(mx:Mx w):
 Ret prog 18 #[v0] w (λv w'=>v=.bool (Bt.valid l)∧Le w w'):=by
 have hl:=he.1;refine enT [v0] 10 func18 rfl rfl (C.sr λK1=>O.j (K1 (C.sr λK2=>O.mv (O.len U22 rfl hr (O.leqI rfl rfl (O.mv (O.splitD (x:=.tmp 6) rfl (λc6=>?_) (λc6=>?_))))))))
 ·
  refine O.yes rfl (isT rfl c6) (O.mv (O.yes rfl (isT rfl c6) (O.call call59 (args1 rfl) (ordered_spec v0 raw l F _ hr he hF hB mx) ?_)));rintro v_8 w1 ⟨rfl,e1⟩;have z1:=e1.size;refine O.pickT (isT rfl c6) (O.j (K2 (C.ret (Outs.one rfl rfl ?_))))
  (refine ⟨congrArg Value.bool ?_,e1⟩;unfold Bt.valid;rw[dT (by omega),Bool.true_and])
 refine O.no rfl (noB (isF rfl c6) rfl) (O.no rfl (noB (isF rfl c6) rfl) (O.pickF (isF rfl c6) (O.j (K2 (C.ret (Outs.one rfl rfl ?_))))))
 first
 |(refine ⟨congrArg Value.bool ?_,leR⟩;unfold Bt.valid;rw[dT (by omega),Bool.true_and])
 |(refine ⟨congrArg Value.bool ?_,leR⟩;unfold Bt.valid;rw[dF (by omega),Bool.false_and])
theorem sameL_spec (v0:Value)(raw:List EntR)(l:List EntT)(F:Nat->Prop)(v1:Value)(raw2:List EntR)(l2:List EntT)(F2:Nat->Prop)(w:World)(hr:Sl entF.enc w F v0 raw)(he:EntL w F raw l)(hr2:Sl entF.enc w F2 v1 raw2)(he2:EntL w F2 raw2 l2)(hF:∀k,F k->k<w.heap.size)(hF2:∀k,F2 k->k<w.heap.size):
 Ret prog 21 #[v0,v1] w (λv w'=>v=.bool (decide (l=l2))∧Le w w'):=by
 have hl:=he.1;have hl2:=he2.1;have hrl:=hr.le;have hrl2:=hr2.le;refine enT [v0,v1] 42 func21 rfl rfl (C.sr λK1=>O.j (K1 (C.sq λK2=>C.sr λK3=>O.mv (O.len U22 rfl hr (O.mv (O.len U22 rfl hr2 (O.neqI rfl rfl (K3 (C.condD rfl (λc10=>?_) (λc10=>?_))))))))))
 ·
  refine C.sr λK4=>O.j (K4 (C.ret (Outs.one rfl rfl ?_)))
  exact ⟨cB (dF (λh=>absurd (congrArg Nat.cast (hl.trans ((congrArg List.length h).trans hl2.symm)):(raw.length:Int)=(raw2.length:Int)) c10)).symm,leR⟩
 refine C.skip (K2 (C.sq λK5=>C.sr λK6=>O.j (K6 (C.bl λK7=>C.loop0 (σ:=Nat) (λf0 w0 k f w=>f 5=.int .i64 ((k:Int))∧f 0=f0 0∧f 1=f0 1∧Le w0 w∧k<=l.length∧(∀i,∀h:i<l.length,∀h2:i<l2.length,i<k->l[i]=l2[i])) (λk=>l.length-k) 0 ?_ ?_))))
 ·
  refine ⟨rfl,rfl,rfl,Le.refl _,?_⟩;exact ⟨Nat.zero_le _,λi h h2 k=>absurd k (Nat.not_lt_zero _)⟩
 rintro k f_1 w1 ⟨s5_1,s0_1,s1_1,e_1,⟨hk,hI⟩⟩;have z_1:=e_1.size;refine C.sq λK8=>C.sr λK9=>O.mv (O.mv (O.len U22 s0_1 (hr.L e_1) (O.lssI s5_1 rfl (K9 (C.condD rfl (λc14=>?_) (λc14=>?_))))))
 ·
  have hk2:k<l.length:=by omega
  have hk3:k<l2.length:=by omega
  have hEr:=((he.L e_1)).at (k:=k) (by have q9:=((he.L e_1)).1;omega);obtain ⟨hk9r,r,x,hrr,hxr,hkxr,hca⟩:=hEr;have hEs:=((he2.L e_1)).at (k:=k) (by have q9:=((he2.L e_1)).1;omega);obtain ⟨hk9s,s,y,hrs,hxs,hkxs,hcb⟩:=hEs;refine C.skip (K8 (C.sq λK10=>C.bl λK11=>C.sd λK12 w2 e2 z2=>D.mv 0 rfl leR (D.mv 1 rfl leR ?_)));have sp4_:=Sl.at (i:=(k:Int)) (P:=prog) U22 Z50 rfl ((hr.L e_1).L e2) (by omega);obtain ⟨a19,h19,hr19⟩:=sp4_;refine D.t 2 rfl leR (λ_ _ _ hN=>O.idxR s0_1 s5_1 hr19 (O.o hN)) (D.t 3 rfl leR (λ_ _ _ hN=>O.ft U50 rfl Z9 rfl (O.o hN)) (D.t 4 rfl leR (λ_ hw_ _ hN=>O.loadAtF (G:=entF) isAgg9 rfl rfl (h19.L hw_) (O.o hN)) (D.cast (v':=str r.1) (by rw[hrr];rfl) (D.mv 5 rfl leR (D.mv 6 rfl leR ?_)))));have sp5_:=Sl.at (i:=(k:Int)) (P:=prog) U22 Z50 rfl ((hr2.L e_1).L e2) (by omega);obtain ⟨a24,h24,hr24⟩:=sp5_;refine D.t 7 rfl leR (λ_ _ _ hN=>O.idxR s1_1 s5_1 hr24 (O.o hN)) (D.t 8 rfl leR (λ_ _ _ hN=>O.ft U50 rfl Z9 rfl (O.o hN)) (D.t 9 rfl leR (λ_ hw_ _ hN=>O.loadAtF (G:=entF) isAgg9 rfl rfl (h24.L hw_) (O.o hN)) (D.cast (v':=str s.1) (by rw[hrs];rfl) (D.t 10 rfl leR (λ_ _ _ hN=>O.neqS rfl rfl (O.o hN)) (D.mv 11 rfl leR (D.splitD (x:=.tmp 28) rfl (λc28=>?_) (λc28=>?_)))))))
  ·
   refine D.tn 12 rfl rfl leR rfl (noB (isT rfl c28) rfl) (D.tn 13 rfl rfl leR rfl (noB (isT rfl c28) rfl) (D.tn 14 rfl rfl leR rfl (noB (isT rfl c28) rfl) (D.tn 15 rfl rfl leR rfl (noB (isT rfl c28) rfl) (D.tn 16 rfl rfl leR rfl (noB (isT rfl c28) rfl) (D.tn 17 rfl rfl leR rfl (noB (isT rfl c28) rfl) (D.tn 18 rfl rfl leR rfl (noB (isT rfl c28) rfl) (D.tn 19 rfl rfl leR rfl (noB (isT rfl c28) rfl) (D.tn 20 rfl rfl leR rfl (noB (isT rfl c28) rfl) (D.tn 21 rfl rfl leR rfl (noB (isT rfl c28) rfl) (D.tn 22 rfl rfl leR rfl (noB (isT rfl c28) rfl) ?_))))))))));refine D.tn 23 rfl rfl leR rfl (noB (isT rfl c28) rfl) (D.tk 24 rfl rfl rfl rfl leR pick_form (λ_ hw_ _ hN=>O.pickT (isT rfl c28) (O.o hN)) (K12 (C.condT rfl (C.sr λK13=>O.j (K13 (C.ret (Outs.one rfl rfl ?_)))))))
   first
   |exact ⟨cB (dF (λh=>absurd (congrArg Nat.cast (hl.trans ((congrArg List.length h).trans hl2.symm)):(raw.length:Int)=(raw2.length:Int)) c10)).symm,(Ext.T e_1 e2)⟩
   |exact ⟨cB (dF (λh=>absurd (hkxr.trans ((show x.1=y.1 by rw[hxr,hxs];simp only[h]).trans hkxs.symm)) c28)).symm,(Ext.T e_1 e2)⟩
  refine D.ty 12 rfl rfl rfl rfl (isF rfl c28) leR ⟨pure _,rfl⟩ (λ_ hw_ _ hN=>O.mv (O.o hN)) (D.ty 13 rfl rfl rfl rfl (isF rfl c28) leR ⟨pure _,rfl⟩ (λ_ hw_ _ hN=>O.mv (O.o hN)) ?_);have sp6_:=Sl.at (i:=(k:Int)) (P:=prog) U22 Z50 rfl ((hr.L e_1).L e2) (by omega);obtain ⟨a31,h31,hr31⟩:=sp6_;refine D.ty 14 rfl rfl rfl rfl (isF rfl c28) leR ⟨_,rfl⟩ (λ_ hw_ _ hN=>O.idxR s0_1 s5_1 hr31 (O.o hN)) (D.ty 15 rfl rfl rfl rfl (isF rfl c28) leR ⟨_,rfl⟩ (λ_ hw_ _ hN=>O.ft U50 rfl Z47 rfl (O.o hN)) (D.ty 16 rfl rfl rfl rfl (isF rfl c28) leR ⟨_,rfl⟩ (λ_ hw_ _ hN=>O.loadPart (G:=entF) isAgg47 Z47 (by decide) rfl (h31.L hw_) (O.o hN)) (D.cast (v':=.agg #[slv r.2.1.1,slv r.2.1.2,slv r.2.2]) (by rw[hrr];rfl) (D.ty 17 rfl rfl rfl rfl (isF rfl c28) leR ⟨pure _,rfl⟩ (λ_ hw_ _ hN=>O.mv (O.o hN)) ?_))));refine D.ty 18 rfl rfl rfl rfl (isF rfl c28) leR ⟨pure _,rfl⟩ (λ_ hw_ _ hN=>O.mv (O.o hN)) ?_;have sp7_:=Sl.at (i:=(k:Int)) (P:=prog) U22 Z50 rfl ((hr2.L e_1).L e2) (by omega);obtain ⟨a36,h36,hr36⟩:=sp7_;refine D.ty 19 rfl rfl rfl rfl (isF rfl c28) leR ⟨_,rfl⟩ (λ_ hw_ _ hN=>O.idxR s1_1 s5_1 hr36 (O.o hN)) (D.ty 20 rfl rfl rfl rfl (isF rfl c28) leR ⟨_,rfl⟩ (λ_ hw_ _ hN=>O.ft U50 rfl Z47 rfl (O.o hN)) (D.ty 21 rfl rfl rfl rfl (isF rfl c28) leR ⟨_,rfl⟩ (λ_ hw_ _ hN=>O.loadPart (G:=entF) isAgg47 Z47 (by decide) rfl (h36.L hw_) (O.o hN)) (D.cast (v':=.agg #[slv s.2.1.1,slv s.2.1.2,slv s.2.2]) (by rw[hrs];rfl) (D.oneYes (i:=22) rfl rfl (isF rfl c28) (by kernel_rfl) ?_))));refine O.call call55 (args2 rfl rfl) (same_spec (slv r.2.1.1) (slv r.2.1.2) (slv r.2.2) x.2 F (slv s.2.1.1) (slv s.2.1.2) (slv s.2.2) y.2 F2 _ ((hca.L e2)).1 ((hca.L e2)).2.1 ((hca.L e2)).2.2 ((hcb.L e2)).1 ((hcb.L e2)).2.1 ((hcb.L e2)).2.2 (λj hj=>by have q1:=hF j hj;omega) (λj hj=>by have q1:=hF2 j hj;omega)) ?_;rintro v_39 w3 ⟨rfl,e3⟩;have z3:=e3.size;refine O.o ⟨e3,D.ty 23 rfl rfl rfl rfl (isF rfl c28) e3 ⟨_,rfl⟩ (λ_ hw_ _ hN=>O.not rfl (O.o hN)) (D.tk 24 rfl rfl rfl rfl e3 pick_form (λ_ hw_ _ hN=>O.pickF (isF rfl c28) (O.o hN)) (K12 (C.cond rfl (λc41=>?_) (λc41=>?_))))⟩
  ·
   refine C.sr λK14=>O.j (K14 (C.ret (Outs.one rfl rfl ?_)))
   first
   |exact ⟨cB (dF (λh=>absurd (congrArg Nat.cast (hl.trans ((congrArg List.length h).trans hl2.symm)):(raw.length:Int)=(raw2.length:Int)) c10)).symm,(Ext.T (Ext.T e_1 e2) e3)⟩
   |exact ⟨cB (dF (λh=>absurd (hkxr.trans ((show x.1=y.1 by rw[hxr,hxs];simp only[h]).trans hkxs.symm)) c28)).symm,(Ext.T (Ext.T e_1 e2) e3)⟩
   |exact ⟨cB (dF (λh=>absurd (show x.2=y.2 by rw[hxr,hxs];simp only[h]) (by simpa using c41))).symm,(Ext.T (Ext.T e_1 e2) e3)⟩
  refine C.skip (K11 (K10 (C.region (O.mv (O.ad s5_1 rfl (O.j (O.o (⟨k+1,⟨rfl,s0_1,s1_1,(Ext.T (Ext.T e_1 e2) e3),?_⟩,by first|omega|(simp only[];omega)⟩))))))));refine ⟨by omega,λi hi hi2 hik=>?_⟩;rcases Nat.lt_or_eq_of_le (Nat.le_of_lt_succ hik) with h|rfl
  ·exact hI i hi hi2 h
  ·rw [<-hxr,<-hxs];exact Prod.ext (by rw[<-hkxr,<-hkxs];simpa using c28) (by simpa using c41)
 refine C.exit (K7 (K5 (C.sr λK15=>O.j (K15 (C.ret (Outs.one rfl rfl ?_))))))
 first
 |exact ⟨cB (dF (λh=>absurd (congrArg Nat.cast (hl.trans ((congrArg List.length h).trans hl2.symm)):(raw.length:Int)=(raw2.length:Int)) c10)).symm,e_1⟩
 |exact ⟨cB (dF (λh=>absurd (hkxr.trans ((show x.1=y.1 by rw[hxr,hxs];simp only[h]).trans hkxs.symm)) c28)).symm,e_1⟩
 |exact ⟨cB (dF (λh=>absurd (show x.2=y.2 by rw[hxr,hxs];simp only[h]) (by simpa using c41))).symm,e_1⟩
 |exact ⟨cB (dT (List.ext_getElem (by omega) (λi h1 h2=>hI i h1 h2 (by omega)))).symm,e_1⟩
theorem wlen_spec (bw g:Nat)(xs:List UInt8)(w:World)(hw:Wr 129 5 w bw g (xs))(hx:xs.length<=139000000000000):
 Ret prog 84 #[.pointer (some ⟨bw,0,none⟩)] w (λv w'=>v=.int .i64 (xs.length:Int)∧Le w w'):=by
 refine enT [.pointer (some ⟨bw,0,none⟩)] 6 func84 rfl rfl (C.sr λK1=>O.j (K1 (C.sr λK2=>O.mv (O.call call83 (args1 rfl) (wbytes_spec bw g xs _ hw hx) ?_))));rintro v_4 w1 ⟨e1,h4⟩;have z1:=e1.size;have h4s:=h4.sl;refine O.len U30 rfl h4s (O.j (K2 (C.ret (Outs.one rfl rfl ?_))));exact ⟨rfl,e1⟩
theorem bencode_spec (v0:Value)(raw:List EntR)(l:List EntT)(F:Nat->Prop)(w:World)(hr:Sl entF.enc w F v0 raw)(he:EntL w F raw l)(hF:∀k,F k->k<w.heap.size)(hB:Bt.Big l)(mx:Mx w)(hlen:Bt.valid l=true->(Bt.enc l).length<=9000000):
 Ret prog 36 #[v0] w (λv w'=>∃r:Value,v=.tuple #[r,.int .i64 (if Bt.valid l then 0 else 2)]∧OwnF byteF 5 w.heap.size w' r (if Bt.valid l then Bt.enc l else [])∧Le w w'):=by
 obtain ⟨ie5,ti5,ts5,tb5,tz5⟩:=inf5;have hl:=he.1;have hrl:=hr.le;refine enT [v0] 53 func36 rfl rfl (C.sr λK1=>O.j (O.j (K1 (C.sq λK2=>C.sr λK3=>O.mv (O.call call18 (args1 rfl) (bvalid_spec v0 raw l F _ hr he hF hB mx) ?_)))));rintro v_11 w1 ⟨rfl,e1⟩;have z1:=e1.size;refine O.not rfl (K3 (C.cond rfl (λc12=>?_) (λc12=>?_)))
 ·
  have hv:¬Bt.valid l=true:=by simpa using c12
  refine C.sr λK4=>O.j (O.j (K4 (C.ret (Outs.two rfl rfl rfl ?_))))
  exact ⟨_,by rw[if_neg hv];rfl,by rw[if_neg hv];exact OwnF.nil _ _ _ _,e1⟩
 have hv:Bt.valid l=true:=by simpa using c12
 have hlen:=hlen hv;have hel:=Bt.enc_len l;have hbl:=Bt.body_len l;have hvl:=Bt.valid_len hv;refine C.skip (K2 (C.sr λK5=>O.alloc zeroValue129 (λb4 w2 hb4 hz4 e2=>?_)));have z2:=e2.size;have h4:=hz4.own;have hl4:=h4.lt;have hwr4:Wr 129 5 w2 b4 b4 ([]):=Wr.new h4;refine K5 (C.sr λK6=>O.mv (O.len U22 rfl ((hr.L e1).L e2) (O.convIU (m':=64) U3 U110 rfl rfl rfl (O.call call79 (args2 rfl rfl) (wnum_spec b4 b4 [] (BitVec.ofInt 64 (raw.length:Int)) _ hwr4 (by simp)) ?_))));rintro v_16 w3 ⟨rfl,gv16,hv16,hgv16,hlv16,e3⟩;have z3:=e3.size;rw[Cn.u_def,Cn.u_nat (by omega),hl] at hv16;refine K6 (C.sq λK7=>C.sr λK8=>O.mv ?_);have t0:=Ext.new (Ext.T e1 e2) e3 (by intro i hi h;(try dsimp only at h);omega);refine O.len U22 rfl (hr.L t0) (O.mv (K8 (C.bl λK9=>C.loop0 (σ:=Nat×Nat) (λf0 w0 ⟨k,gl⟩ f wz=>f 19=.int .i64 ((k:Int))∧f 2=f0 2∧f 3=f0 3∧f 4=f0 4∧f 17=f0 17∧f 18=f0 18∧Le w wz∧Wr 129 5 wz b4 gl (Cn.num l.length++(l.take k).flatMap Bt.entB)∧k<=l.length∧w.heap.size<=gl∧b4<wz.heap.size∧gl<wz.heap.size) (λ⟨k,gl⟩=>l.length-k) (0,gv16) ?_ ?_)))
 ·
  refine ⟨rfl,rfl,rfl,rfl,rfl,rfl,t0,(hv16.lst (by simp)),?_⟩;exact ⟨Nat.zero_le _,by omega,by omega,by omega⟩
 rintro ⟨k,gl⟩ f_1 w4 ⟨s19_1,s2_1,s3_1,s4_1,s17_1,s18_1,e_1,r0_1,⟨hk,hgl,hb4z,hgl2⟩⟩;have z_1:=e_1.size;have htl:=Bt.take_len l k;refine C.sr λK10=>O.lssI s19_1 s18_1 (K10 (C.sq λK11=>C.condD rfl (λc20=>?_) (λc20=>?_)))
 ·
  have hk2:k<l.length:=by omega
  refine C.skip (K11 (C.sq λK12=>C.bl λK13=>C.sr λK14=>O.idx U22 Z50 rfl s17_1 (hr.L e_1) s19_1 (by omega) (λa21 h21=>O.loadG (G:=entF) isAgg50 Z50 rfl h21 ?_)));have hEr:=((he.L e_1)).at (k:=k) (by have q9:=((he.L e_1)).1;omega);obtain ⟨hk9r,r,x,hrr,hxr,hkxr,hca⟩:=hEr;have hmxr:x∈l:=by rw[hxr];exact List.getElem_mem _
  have hbr:=hB x hmxr;refine O.cast (v':=.agg #[str r.1,slv r.2.1.1,slv r.2.1.2,slv r.2.2]) (by rw[hrr];rfl) ?_;have hml:=Bt.mem_len hmxr;have hel2:=Bt.entB_len x;have hsb:(Cn.strB r.1).length<=(Bt.entB x).length:=by rw[hkxr];unfold Bt.entB;rw[List.length_append];omega
  refine O.alloc zeroValue50 (λb6 w5 hb6 hz6 e5=>?_);have z5:=e5.size;have h6:=hz6.own;have hl6:=h6.lt;refine O.storeA (vs:=[str r.1,slv r.2.1.1,slv r.2.1.2,slv r.2.2]) Z50 rfl rfl rfl (by intro u hu;simp only[List.mem_cons,List.not_mem_nil,or_false] at hu;rcases hu with rfl|rfl|rfl|rfl<;>rfl) h6 (leB rfl) (λw6 hs6 e6 z6=>K14 (C.sr λK15=>O.fa U50 rfl Z9 rfl (O.loadO isAgg9 rfl hs6 rfl (O.call call80 (args2 s4_1 rfl) (wstr_spec b4 gl _ r.1 _ ((r0_1.L e5).keepA e6) (by simp only[List.length_append];omega) (by rw[hkxr];exact hbr.1)) ?_))));rintro v_25 w7 ⟨rfl,gv25,hv25,hgv25,hlv25,e7⟩;have z7:=e7.size;refine K15 (C.sr λK16=>O.fa U50 rfl Z47 rfl (O.loadOA isAgg47 Z47 rfl (hs6.kO e7) (leB rfl) ?_));have t1:=(hca.L e5).keepA e6;have t2:=Ext.nr (Ext.T e_1 e5) e6;have t3:=Ext.new t2 e7 (by intro i hi h;(try dsimp only at h);omega);refine O.call call81 (args1 rfl) (encode_spec (slv r.2.1.1) (slv r.2.1.2) (slv r.2.2) x.2 F _ ((t1.keepA e7)).1 ((t1.keepA e7)).2.1 ((t1.keepA e7)).2.2 (λj hj=>by have q1:=hF j hj;omega) hbr.2.2.2.1 hbr.2.2.2.2 hbr.2.1 hbr.2.2.1 (mx.L t3)) ?_;rintro v_29 w8 ⟨rv29,rfl,hv29,e8⟩;have z8:=e8.size;have hvx:=Bt.valid_cart hv hmxr;rw[if_pos hvx] at hv29;have h29s:=hv29.sl;refine O.mv (O.extract rfl rfl (O.extract rfl rfl (O.j (O.j (K16 (C.region (O.mv (O.call call82 (args2 s4_1 rfl) (wput_spec b4 gv25 _ rv29 (Cn.bytes x.2) _ _ (hv25.L e8) (by simp only[List.length_append];omega) h29s (by omega)) ?_))))))));rintro v_33 w9 ⟨rfl,gv33,hv33,hgv33,hlv33,e9⟩;have z9:=e9.size;refine O.o (K13 (K12 (C.region (O.ad s19_1 rfl (O.mv (O.o (⟨(k+1,gv33),⟨rfl,s2_1,s3_1,s4_1,s17_1,s18_1,(Ext.new (Ext.T t3 e8) e9 (by intro i hi h;(try dsimp only at h);omega)),(hv33.lst (by rw[Cn.flatMap_take _ hk2,<-hxr,hkxr];unfold Bt.entB;simp only[List.append_assoc])),?_⟩,by first|omega|(simp only[];omega)⟩)))))));exact ⟨by omega,by omega,by omega,by omega⟩
 have hk3:k=l.length:=by omega
 have hwb:Wr 129 5 w4 b4 gl (Bt.body l):=(r0_1).lst (by rw[hk3,List.take_length];rfl);refine C.exit (K9 (K7 (C.sr λK17=>O.call call83 (args1 s4_1) (wbytes_spec b4 gl _ _ hwb (by omega)) ?_)));rintro v_35 w10 ⟨e10,h35⟩;have z10:=e10.size;have h35s:=h35.sl;refine O.call call25 (args1 rfl) (csum_spec _ _ _ _ h35s) ?_;rintro v_36 w11 ⟨rfl,e11⟩;have z11:=e11.size;refine O.j (K17 (C.sr λK18=>O.mv (O.shrU (m:=32) (c:=24) rfl rfl rfl rfl (O.convUU (m:=32) (m':=8) U34 U5 rfl rfl rfl (O.mv (O.shrU (m:=32) (c:=16) rfl rfl rfl rfl (O.convUU (m:=32) (m':=8) U34 U5 rfl rfl rfl (O.mv (O.shrU (m:=32) (c:=8) rfl rfl rfl rfl (O.convUU (m:=32) (m':=8) U34 U5 rfl rfl rfl (O.mv (O.convUU (m:=32) (m':=8) U34 U5 rfl rfl rfl ?_))))))))))));refine O.litn [.int .u8 ((((Bt.sumOf (Bt.body l))>>>24).setWidth 8).toNat:Int),.int .u8 ((((Bt.sumOf (Bt.body l))>>>16).setWidth 8).toNat:Int),.int .u8 ((((Bt.sumOf (Bt.body l))>>>8).setWidth 8).toNat:Int),.int .u8 ((((Bt.sumOf (Bt.body l))).setWidth 8).toNat:Int)] U30 ti5 ts5 tz5 rfl (by decide) (by decide) rfl (by simp[Value.oneCell']) (λb48 w12 hb48 hz48 e12=>?_);have z12:=e12.size;have h48:=hz48.own;have hl48:=h48.lt;have hq48:Sl byteE w12 (λk=>k=b48) (.slice (some ⟨b48,0,none⟩) 4 4) (Bt.sum4 (Bt.sumOf (Bt.body l))):=Sl.litG (G:=byteF) (n:=4) h48 rfl (by unfold maxLen;omega);refine O.call call82 (args2 s4_1 rfl) (wput_spec b4 gl _ _ (Bt.sum4 (Bt.sumOf (Bt.body l))) _ _ (((hwb.L e10).L e11).L e12) (by omega) hq48 (by rw[Bt.sum4_len];decide)) ?_;rintro v_49 w13 ⟨rfl,gv49,hv49,hgv49,hlv49,e13⟩;have z13:=e13.size;have hwe:Wr 129 5 w13 b4 gv49 (Bt.enc l):=hv49;refine K18 (C.sq λK19=>C.sr λK20=>O.call call84 (args1 s4_1) (wlen_spec b4 gv49 (Bt.enc l) _ hwe (by omega)) ?_);rintro v_50 w14 ⟨rfl,e14⟩;have z14:=e14.size;refine O.gtrI rfl rfl (O.cast (v':=.bool false) (cB (by exact dF (by omega))) (K20 (C.condF rfl (C.skip (K19 (C.sr λK21=>O.call call83 (args1 s4_1) (wbytes_spec b4 gv49 (Bt.enc l) _ (hwe.L e14) (by omega)) ?_))))));rintro v_52 w15 ⟨e15,h52⟩;have z15:=e15.size;have h52s:=h52.sl;refine O.j (O.j (K21 (C.ret (Outs.two rfl rfl rfl ?_))))
 first
 |exact ⟨_,by rw[if_neg hv];rfl,by rw[if_neg hv];exact OwnF.nil _ _ _ _,(Ext.T (Ext.T (Ext.new (Ext.T (Ext.T (Ext.T e_1 e10) e11) e12) e13 (by intro i hi h;(try dsimp only at h);omega)) e14) e15)⟩
 |exact ⟨_,by rw[if_pos hv];rfl,by rw[if_pos hv];exact (h52).low (by omega),(Ext.T (Ext.T (Ext.new (Ext.T (Ext.T (Ext.T e_1 e10) e11) e12) e13 (by intro i hi h;(try dsimp only at h);omega)) e14) e15)⟩
theorem rest_spec (b:Nat)(vr:Value)(l:List UInt8)(k:Nat)(F:Nat->Prop)(w:World)(ho:Own w b 234 [.bool true,vr,.int .i64 ((k:Int))])(hl:Sl byteE w F vr l)(hk:k<=l.length)(hF:∀j,F j->j≠b∧j<w.heap.size):
 Ret prog 196 #[.pointer (some ⟨b,0,none⟩)] w (λv w'=>Le w w'∧Sl byteE w' F v (l.drop k)):=by
 have _hF9:=hF;have _hk9:=hk;have hbl:=ho.lt;have hll:=hl.le;refine enT [.pointer (some ⟨b,0,none⟩)] 12 func196 rfl rfl (C.sr λK1=>O.j (K1 (C.sd λK2 w1 e1 z1=>D.mv 0 rfl leR (D.tk 1 rfl rfl rfl rfl leR (nil_form rfl) (λ_ hw_ _ hN=>O.nilChk rfl (O.o hN)) (D.t 2 rfl leR (λ_ _ _ hN=>O.fa U234 rfl Z30 rfl (O.o hN)) (D.t 3 rfl leR (λ_ hw_ _ hN=>O.loadO isAgg30 rfl ((ho.L e1).L hw_) rfl (O.o hN)) (D.mv 4 rfl leR (D.tk 5 rfl rfl rfl rfl leR (nil_form rfl) (λ_ hw_ _ hN=>O.nilChk rfl (O.o hN)) (D.t 6 rfl leR (λ_ _ _ hN=>O.fa U234 rfl Z3 rfl (O.o hN)) ?_)))))))));refine D.t 7 rfl leR (λ_ hw_ _ hN=>O.loadO isAgg3 rfl ((ho.L e1).L hw_) rfl (O.o hN)) ?_;have hb11:=Sl.sub (P:=prog) (k) (l.length) U30 Z5 (by rfl) (hl.L e1) hk (Nat.le_refl _);obtain ⟨v11,hs11,hr11⟩:=hb11;refine D.t 8 rfl leR (λ_ _ _ hN=>O.subR rfl hr11 (.inr ⟨_,_,rfl,rfl⟩) (.inl ⟨rfl,rfl⟩) (O.o hN)) (D.as 9 rfl leR (K2 (C.ret (Outs.one rfl rfl ?_))));have q:=hs11;rw[List.take_length] at q;exact ⟨e1,q⟩
theorem zero_spec (b:Nat)(vr:Value)(l:List UInt8)(k:Nat)(F:Nat->Prop)(w:World)(ho:Own w b 234 [.bool true,vr,.int .i64 ((k:Int))])(hl:Sl byteE w F vr l)(hk:k<=l.length)(hF:∀j,F j->j≠b∧j<w.heap.size):
 Ret prog 188 #[.pointer (some ⟨b,0,none⟩)] w (λv w'=>v=.bool false∧w'=w):=by
 have _hF9:=hF;have _hk9:=hk;have hbl:=ho.lt;have hll:=hl.le;refine enT [.pointer (some ⟨b,0,none⟩)] 12 func188 rfl rfl (C.sr λK1=>O.j (K1 (C.sr λK2=>O.mv (O.eqlP0 underlying176 rfl (O.mv (O.yes rfl rfl (O.mv (O.yes rfl rfl (O.nilChk rfl (O.yes rfl rfl (O.fa U234 rfl sizeOf4 rfl (O.yes rfl rfl (O.loadO isAgg4 rfl ho rfl (O.yes rfl rfl (O.not rfl (O.pickF rfl (O.j (K2 (C.ret (Outs.one rfl rfl ?_))))))))))))))))))));exact ⟨rfl,rfl⟩
theorem num1_spec (c:BitVec 8)(w:World):
 Ret prog 245 #[.int .u8 ((c).toNat:Int)] w (λv w'=>v=.bool (decide (c<128#8))∧Le w w'):=by
 refine enT [.int .u8 ((c).toNat:Int)] 5 func245 rfl rfl (C.sr λK1=>O.j (K1 (C.sr λK2=>O.mv (O.lssU (m:=8) (b:=128#8) rfl rfl (O.j (K2 (C.ret (Outs.one rfl rfl ?_))))))));exact ⟨rfl,leR⟩
theorem pred_small (M:Nat->Prop)(w:World):Pred prog M w (.func (.func 245) #[] #[]) (λc:UInt8=>.int .u8 (c.toNat:Int)) Cn.small7:=⟨245,[],rfl,call245,λc w' _=>by
 have h:=num1_spec c.toBitVec w';refine h.mono ?_;rintro v w2 ⟨rfl,e⟩;exact ⟨cB (decide_eq_decide.2 (by rw[BitVec.lt_def];exact Iff.rfl)),e⟩⟩
theorem indexB_spec (v0 vf:Value)(l:List UInt8)(F M:Nat->Prop)(p:UInt8->Bool)(w:World)(hl:Sl byteE w F v0 l)(hp:Pred prog M w vf (λc:UInt8=>.int .u8 (c.toNat:Int)) p):
 Ret prog 244 #[v0,vf] w (λv w'=>v=.int .i64 (Cn.idx p l)∧Le w w'):=by
 have hle:=hl.le;refine enT [v0,vf] 19 func244 rfl rfl (C.sr λK1=>O.j (K1 (C.sq λK2=>C.sr λK3=>O.mv (O.len U30 rfl hl (O.mv (K3 (C.bl λK4=>C.loop0 (σ:=Nat) (λf0 w0 k f wz=>f 8=.int .i64 (k)∧f 0=f0 0∧f 1=f0 1∧f 7=f0 7∧Le w wz∧k<=l.length∧∀i,∀h:i<l.length,i<k->p l[i]=false) (λk=>l.length-k) 0 ?_ ?_)))))))
 ·
  refine ⟨rfl,rfl,rfl,rfl,leR,?_⟩;exact ⟨Nat.zero_le _,λi h k=>absurd k (Nat.not_lt_zero _)⟩
 rintro k f_1 w1 ⟨s8_1,s0_1,s1_1,s7_1,e_1,⟨hk,hI⟩⟩;have z_1:=e_1.size;refine C.sr λK5=>O.lssI s8_1 s7_1 (K5 (C.sq λK6=>C.condD rfl (λc9=>?_) (λc9=>?_)))
 ·
  have hk2:k<l.length:=by omega
  refine C.skip (K6 (C.sq λK7=>C.bl λK8=>C.sr λK9=>O.mv (O.j (K9 (C.sr λK10=>O.mv (O.mv (O.mv (O.idx U30 Z5 rfl s0_1 (hl.L e_1) s8_1 (by omega) (λa14 h14=>O.loadB isAgg5 rfl h14 (O.callP (l[k]'hk2) (hp.L e_1) s1_1 rfl (λw2 e2=>?_)))))))))));have z2:=e2.size;refine K10 (C.cond rfl (λc16=>?_) (λc16=>?_))
  ·
   refine C.sr λK11=>O.mv (O.j (K11 (C.ret (Outs.one rfl s8_1 ?_))))
   exact ⟨cI (Cn.idx_yes hk2 c16 hI).symm,(Ext.T e_1 e2)⟩
  refine C.skip (K8 (K7 (C.region (O.ad s8_1 rfl (O.mv (O.o (⟨k+1,⟨rfl,s0_1,s1_1,s7_1,(Ext.T e_1 e2),?_⟩,by first|omega|(simp only[];omega)⟩)))))));refine ⟨by omega,λi hi hik=>?_⟩;rcases Nat.lt_or_eq_of_le (Nat.le_of_lt_succ hik) with h|rfl
  ·exact hI i hi h
  ·exact c16
 refine C.exit (K4 (K2 (C.sr λK12=>O.j (K12 (C.ret (Outs.one rfl rfl ?_))))))
 first
 |exact ⟨cI (Cn.idx_yes hk2 c16 hI).symm,e_1⟩
 |exact ⟨cI (Cn.idx_no λi hi=>hI i hi (by omega)).symm,e_1⟩
theorem rdnum_spec (b:Nat)(vr:Value)(l:List UInt8)(k:Nat)(F:Nat->Prop)(w:World)(ho:Own w b 234 [.bool true,vr,.int .i64 ((k:Int))])(hl:Sl byteE w F vr l)(hk:k<=l.length)(hF:∀j,F j->j≠b∧j<w.heap.size)(hL:l.length<=1000000):
 Ret prog 190 #[.pointer (some ⟨b,0,none⟩)] w (λv w'=>∃(n:BitVec 64) (e:Int) (k':Nat),v=.tuple #[.int .u64 (n.toNat:Int),.int .i64 e]∧Own w' b 234 [.bool true,vr,.int .i64 ((k':Int))]∧((e=0∧Cn.Seg (Cn.num n.toNat) l k k')∨(0<e∧n=0#64∧k'=k∧Cn.No (λ_:BitVec 64=>True) (λq=>Cn.num q.toNat) l k))∧Ext (λj=>j=b) w w'):=by
 have _hF9:=hF;have _hk9:=hk;have hbl:=ho.lt;have hll:=hl.le;obtain ⟨x,hx⟩:∃x,x=l.drop k:=⟨_,rfl⟩
 have hxl:x.length=l.length-k:=by rw[hx,List.length_drop]
 refine enT [.pointer (some ⟨b,0,none⟩)] 73 func190 rfl rfl (C.sr λK1=>O.j (O.j (K1 (C.sr λK2=>O.mv (O.call call196 (args1 rfl) (rest_spec b vr l k F _ ho hl hk (λj hj=>by have q1:=hF j hj;omega)) ?_)))));rintro v_9 w1 ⟨e1,h9⟩;have z1:=e1.size;rw[<-hx] at h9;refine O.j (K2 (C.sr λK3=>O.mv (O.mv (O.len U30 rfl h9 (O.minI rfl rfl (O.cast (v':=.int .i64 ((min x.length 10:Nat):Int)) (cI (by omega)) ?_))))));have hb14:=Sl.sub (P:=prog) (0) (min x.length 10) U30 Z5 (by rfl) h9 (Nat.zero_le _) (by omega);obtain ⟨v14,hs14,hr14⟩:=hb14;refine O.subR rfl hr14 (.inl ⟨rfl,rfl⟩) (.inr ⟨_,_,rfl,rfl⟩) ?_;rw[List.drop_zero,Cn.take_min] at hs14;refine O.call call244 (args2 rfl rfl) (indexB_spec _ _ (x.take 10) _ (λ_=>False) _ _ hs14 (pred_small _ _)) ?_;rintro v_15 w2 ⟨rfl,e2⟩;have z2:=e2.size;obtain ⟨e,he⟩:∃e,e=Cn.endN x:=⟨_,rfl⟩
 have hge: -1<=e:=by rw[he];exact Cn.endN_ge x
 have hat:0<=e->e.toNat<x.length∧e<=9:=λh=>by
  have:=Cn.endN_at (x:=x) (e:=e.toNat) (by omega);exact ⟨this.1,by omega⟩
 have hed:e=Cn.endN (l.drop k):=by rw[<-hx];exact he
 obtain ⟨y,hy⟩:∃y,y=x.getD e.toNat 0:=⟨_,rfl⟩
 have q1:(y.toBitVec=0#8)↔y.toNat=0:=⟨λh=>by rw[<-UInt8.toNat_toBitVec,h];rfl,λh=>BitVec.eq_of_toNat_eq h⟩
 have q2:(1#8<y.toBitVec)↔1<y.toNat:=by rw[BitVec.lt_def];exact Iff.rfl
 refine O.cast (v':=.int .i64 e) (by rw[he];rfl) (O.j (K3 (C.sq λK4=>C.bl λK5=>C.sr λK6=>O.mv (O.lssI rfl rfl (O.mv (O.cut 4 (λf f'=>f' 23=.bool (decide (e<0∧((x.length:Nat):Int)<10))∧f' 0=f 0∧f' 2=f 2∧f' 3=f 3∧f' 4=f 4∧f' 5=f 5) ?_ ?_))))))
 ·
  refine O.splitD (x:=.tmp 19) rfl (λc19=>?_) (λc19=>?_)
  ·
   refine O.yes rfl (isT rfl c19) (O.mv (O.yes rfl (isT rfl c19) (O.len U30 rfl (h9.L e2) (O.yes rfl (isT rfl c19) (O.lssI rfl rfl (O.pickT (isT rfl c19) (O.o (⟨⟨?_,rfl,rfl,rfl,rfl,rfl⟩,rfl⟩))))))));exact dJ rfl
  refine O.no rfl (noB (isF rfl c19) rfl) (O.no rfl (noB (isF rfl c19) rfl) (O.no rfl (noB (isF rfl c19) rfl) (O.pickF (isF rfl c19) (O.o (⟨⟨?_,rfl,rfl,rfl,rfl,rfl⟩,rfl⟩)))));exact dJ rfl
 rintro f_1 ⟨s23_1,s0_1,s2_1,s3_1,s4_1,s5_1⟩;refine O.j (K6 (C.condD s23_1 (λc16=>?_) (λc16=>?_)))
 ·
  refine C.sr λK7=>O.j (O.j (K7 (C.ret (Outs.two rfl rfl rfl ?_))))
  exact ⟨0#64,4,k,rfl,((ho.L e1).L e2),.inr ⟨by decide,rfl,rfl,Cn.bad_no hed (.inl (by omega))⟩,(Ext.nw (Ext.nw (Ext.L _ _) e1) e2)⟩
 refine C.sr λK8=>O.mv (O.lssI s5_1 rfl (O.mv (O.cut 21 (λf f'=>f' 48=.bool (decide (Cn.badN x e))∧f' 0=f 0∧f' 2=f 2∧f' 3=f 3∧f' 4=f 4∧f' 5=f 5) ?_ ?_)))
 ·
  refine O.splitD (x:=.tmp 27) rfl (λc27=>?_) (λc27=>?_)
  ·
   refine O.no rfl (noB (isT rfl c27) rfl) (O.no rfl (noB (isT rfl c27) rfl) (O.no rfl (noB (isT rfl c27) rfl) (O.no rfl (noU rfl) (O.no rfl (noU rfl) (O.no rfl (noU rfl) (O.no rfl (noU rfl) (O.no rfl (noU rfl) (O.no rfl (noB (isT rfl c27) rfl) (O.pickT (isT rfl c27) (O.mv (O.no rfl (noB rfl rfl) (O.no rfl (noB rfl rfl) (O.no rfl (noB rfl rfl) (O.no rfl (noU rfl) (O.no rfl (noU rfl) (O.no rfl (noU rfl) (O.no rfl (noU rfl) (O.no rfl (noU rfl) (O.no rfl (noB rfl rfl) (O.pickT rfl (O.o (⟨⟨?_,rfl,rfl,rfl,rfl,rfl⟩,rfl⟩))))))))))))))))))))));refine Eq.trans rfl (congrArg Value.bool ?_)
   try rw[q1] at c38
   (refine (decide_eq_true ?_).symm;unfold Cn.badN;rw[<-hy];omega)
  have hat2:=hat (by omega);refine O.yes rfl (isF rfl c27) (O.mv (O.yes rfl (isF rfl c27) (O.gtrI s5_1 rfl (O.yes rfl (isF rfl c27) (O.mv (O.splitD (x:=.tmp 30) rfl (λc30=>?_) (λc30=>?_)))))))
  ·
   refine O.yes rfl (isT rfl c30) (O.mv (O.yes rfl (isT rfl c30) (O.mv (O.yes rfl (isT rfl c30) (O.idx U30 Z5 rfl s4_1 (h9.L e2) s5_1 (by omega) (λa33 h33=>O.yes rfl (isT rfl c30) (O.loadB isAgg5 rfl h33 (O.cast (v':=.int .u8 (y.toBitVec.toNat:Int)) (by rw[hy,Cn.getD_at (by omega)]) (O.yes rfl (isT rfl c30) (O.eqlU (m:=8) (b:=0#8) rfl rfl (O.yes rfl (isF rfl c27) (O.pickT (isT rfl c30) (O.pickF (isF rfl c27) (O.mv (O.splitD (x:=.tmp 38) rfl (λc38=>?_) (λc38=>?_))))))))))))))))
   ·
    refine O.no rfl (noB (isT rfl c38) rfl) (O.no rfl (noB (isT rfl c38) rfl) (O.no rfl (noB (isT rfl c38) rfl) (O.no rfl (noU rfl) (O.no rfl (noU rfl) (O.no rfl (noU rfl) (O.no rfl (noU rfl) (O.no rfl (noU rfl) (O.no rfl (noB (isT rfl c38) rfl) (O.pickT (isT rfl c38) (O.o (⟨⟨?_,rfl,rfl,rfl,rfl,rfl⟩,rfl⟩)))))))))));refine Eq.trans rfl (congrArg Value.bool ?_)
    try rw[q1] at c38
    (refine (decide_eq_true ?_).symm;unfold Cn.badN;rw[<-hy];omega)
   refine O.yes rfl (isF rfl c38) (O.mv (O.yes rfl (isF rfl c38) (O.eqlI s5_1 rfl (O.yes rfl (isF rfl c38) (O.mv (O.splitD (x:=.tmp 41) rfl (λc41=>?_) (λc41=>?_)))))))
   ·
    refine O.yes rfl (isT rfl c41) (O.mv (O.yes rfl (isT rfl c41) (O.mv (O.yes rfl (isT rfl c41) (O.idx U30 Z5 rfl s4_1 (h9.L e2) s5_1 (by omega) (λa44 h44=>O.yes rfl (isT rfl c41) (O.loadB isAgg5 rfl h44 (O.cast (v':=.int .u8 (y.toBitVec.toNat:Int)) (by rw[hy,Cn.getD_at (by omega)]) (O.yes rfl (isT rfl c41) (O.gtrU (m:=8) (b:=1#8) rfl rfl (O.yes rfl (isF rfl c38) (O.pickT (isT rfl c41) (O.pickF (isF rfl c38) (O.o (⟨⟨?_,rfl,rfl,rfl,rfl,rfl⟩,rfl⟩)))))))))))))));refine Eq.trans rfl (congrArg Value.bool ?_)
    try rw[q1] at c38
    first
    |(refine (decide_eq_true ?_).symm;unfold Cn.badN;rw[<-hy];omega)
    |(refine (decide_eq_false ?_).symm;unfold Cn.badN;rw[<-hy];omega)
    |(refine decide_eq_decide.2 ?_;unfold Cn.badN;rw[<-hy,q2];omega)
   refine O.no rfl (noB (isF rfl c41) rfl) (O.no rfl (noB (isF rfl c41) rfl) (O.no rfl (noB (isF rfl c41) rfl) (O.no rfl (noB (isF rfl c41) rfl) (O.no rfl (noB (isF rfl c41) rfl) (O.yes rfl (isF rfl c38) (O.pickF (isF rfl c41) (O.pickF (isF rfl c38) (O.o (⟨⟨?_,rfl,rfl,rfl,rfl,rfl⟩,rfl⟩)))))))));refine Eq.trans rfl (congrArg Value.bool ?_)
   try rw[q1] at c38
   first
   |(refine (decide_eq_true ?_).symm;unfold Cn.badN;rw[<-hy];omega)
   |(refine (decide_eq_false ?_).symm;unfold Cn.badN;rw[<-hy];omega)
  refine O.no rfl (noB (isF rfl c30) rfl) (O.no rfl (noB (isF rfl c30) rfl) (O.no rfl (noB (isF rfl c30) rfl) (O.no rfl (noB (isF rfl c30) rfl) (O.no rfl (noB (isF rfl c30) rfl) (O.yes rfl (isF rfl c27) (O.pickF (isF rfl c30) (O.pickF (isF rfl c27) (O.mv (O.yes rfl rfl (O.mv (O.yes rfl rfl (O.eqlI s5_1 rfl (O.yes rfl rfl (O.mv (O.splitD (x:=.tmp 41) rfl (λc41=>?_) (λc41=>?_))))))))))))))))
  ·
   refine O.yes rfl (isT rfl c41) (O.mv (O.yes rfl (isT rfl c41) (O.mv (O.yes rfl (isT rfl c41) (O.idx U30 Z5 rfl s4_1 (h9.L e2) s5_1 (by omega) (λa44 h44=>O.yes rfl (isT rfl c41) (O.loadB isAgg5 rfl h44 (O.cast (v':=.int .u8 (y.toBitVec.toNat:Int)) (by rw[hy,Cn.getD_at (by omega)]) (O.yes rfl (isT rfl c41) (O.gtrU (m:=8) (b:=1#8) rfl rfl (O.yes rfl rfl (O.pickT (isT rfl c41) (O.pickF rfl (O.o (⟨⟨?_,rfl,rfl,rfl,rfl,rfl⟩,rfl⟩)))))))))))))));refine Eq.trans rfl (congrArg Value.bool ?_)
   try rw[q1] at c38
   first
   |(refine (decide_eq_true ?_).symm;unfold Cn.badN;rw[<-hy];omega)
   |(refine (decide_eq_false ?_).symm;unfold Cn.badN;rw[<-hy];omega)
   |(refine decide_eq_decide.2 ?_;unfold Cn.badN;rw[<-hy,q2];omega)
  refine O.no rfl (noB (isF rfl c41) rfl) (O.no rfl (noB (isF rfl c41) rfl) (O.no rfl (noB (isF rfl c41) rfl) (O.no rfl (noB (isF rfl c41) rfl) (O.no rfl (noB (isF rfl c41) rfl) (O.yes rfl rfl (O.pickF (isF rfl c41) (O.pickF rfl (O.o (⟨⟨?_,rfl,rfl,rfl,rfl,rfl⟩,rfl⟩)))))))));refine Eq.trans rfl (congrArg Value.bool ?_)
  try rw[q1] at c38
  first
  |(refine (decide_eq_true ?_).symm;unfold Cn.badN;rw[<-hy];omega)
  |(refine (decide_eq_false ?_).symm;unfold Cn.badN;rw[<-hy];omega)
 rintro f_2 ⟨s48_2,s0_2,s2_2,s3_2,s4_2,s5_2⟩;refine O.j (K8 (C.condD s48_2 (λc24=>?_) (λc24=>?_)))
 ·
  refine C.sr λK9=>O.j (O.j (K9 (C.ret (Outs.two rfl rfl rfl ?_))))
  first
  |exact ⟨0#64,4,k,rfl,((ho.L e1).L e2),.inr ⟨by decide,rfl,rfl,Cn.bad_no hed (.inl (by omega))⟩,(Ext.nw (Ext.nw (Ext.L _ _) e1) e2)⟩
  |exact ⟨0#64,12,k,rfl,((ho.L e1).L e2),.inr ⟨by decide,rfl,rfl,Cn.bad_no hed (by rw[<-hx];exact c24)⟩,(Ext.nw (Ext.nw (Ext.L _ _) e1) e2)⟩
 have hgood:=Cn.good_num hk hed (by rw[<-hx];exact c24);have he0:0<=e:=by unfold Cn.badN at c24;omega
 have hat2:=hat he0;refine C.skip (K5 (K4 (C.sr λK10=>O.j (K10 (C.sq λK11=>C.sr λK12=>O.mv (O.j (K12 (C.bl λK13=>C.loop0 (σ:=Nat) (λf0 w0 j f w=>f 6=.int .u64 ((BitVec.ofNat 64 (Cn.valN ((x.take (e.toNat+1)).drop j))).toNat:Int)∧f 7=.int .i64 ((j:Int)-1)∧f 0=f0 0∧f 2=f0 2∧f 3=f0 3∧f 4=f0 4∧f 5=f0 5∧Le w0 w∧j<=e.toNat+1) (λj=>j) (e.toNat+1) ?_ ?_))))))))
 ·
  refine ⟨(Eq.trans rfl (by rw[List.drop_of_length_le (by rw[List.length_take];omega)];rfl)),(Eq.trans (Eq.trans s5_2 s5_1) (i64_eq (by omega))),rfl,rfl,rfl,rfl,rfl,Le.refl _,?_⟩;exact Nat.le_refl _
 rintro j f_3 w3 ⟨s6_3,s7_3,s0_3,s2_3,s3_3,s4_3,s5_3,e_3,hj⟩;have z_3:=e_3.size;refine C.sq λK14=>C.sr λK15=>O.mv (O.geqI s7_3 rfl (K15 (C.condD rfl (λc51=>?_) (λc51=>?_))))
 ·
  refine C.skip (K14 (C.sq λK16=>C.bl λK17=>C.region (O.mv (O.shlU (m:=64) (c:=7) rfl rfl s6_3 rfl (O.mv (O.mv (O.idx U30 Z5 rfl (Eq.trans s4_3 (Eq.trans s4_2 s4_1)) ((h9.L e2).L e_3) s7_3 (by omega) (λa58 h58=>O.loadB isAgg5 rfl h58 (O.andNotU (m:=8) (b:=128#8) rfl rfl rfl rfl (O.convUU (m:=8) (m':=64) U5 U110 rfl rfl rfl (O.orU (m:=64) rfl rfl rfl rfl (O.j (O.o (K17 (K16 (C.region (O.mv (O.sb s7_3 rfl (O.j (O.o ?_))))))))))))))))))));refine ⟨(j-1),⟨(Eq.trans rfl (congrArg (λq:BitVec 64=>Value.int .u64 (q.toNat:Int)) (by rw[Cn.valN_step (i:=j-1) (by omega) (by omega),show j-1+1=j by omega];simp only[show ((j:Int)-1).toNat=j-1 by omega];exact Cn.group _ _))),(Eq.trans rfl (i64_eq (by omega))),s0_3,s2_3,s3_3,s4_3,s5_3,e_3,?_⟩,by first|omega|(simp only[];omega)⟩
  omega
 refine C.exit (K13 (K11 (C.sr λK18=>O.mv (O.nilChk (Eq.trans s0_3 (Eq.trans s0_2 s0_1)) (O.fa U234 rfl Z3 rfl ?_)))));have t0:=((ho.L e1).L e2).L e_3;refine O.loadO isAgg3 rfl t0 rfl (O.mv (O.ad (Eq.trans s5_3 (Eq.trans s5_2 s5_1)) rfl (O.ad rfl rfl (O.cast (v':=.int .i64 ((k+(e.toNat+1):Nat):Int)) (cI (by omega)) (O.nilChk (Eq.trans s0_3 (Eq.trans s0_2 s0_1)) (O.fa U234 rfl Z3 rfl (O.store Z3 rfl rfl rfl t0 (by simp) (λw4 hs4 e4 z4=>?_))))))))
 try simp only[Nat.zero_add] at hs4
 refine K18 (C.sr λK19=>O.mv (O.j (O.j (K19 (C.ret (Outs.two rfl s6_3 rfl ?_))))))
 first
 |exact ⟨0#64,4,k,rfl,hs4,.inr ⟨by decide,rfl,rfl,Cn.bad_no hed (.inl (by omega))⟩,(Ext.nw (Ext.nw (Ext.nw (Ext.nw (Ext.L _ _) e1) e2) e_3) e4)⟩
 |exact ⟨0#64,12,k,rfl,hs4,.inr ⟨by decide,rfl,rfl,Cn.bad_no hed (by rw[<-hx];exact c24)⟩,(Ext.nw (Ext.nw (Ext.nw (Ext.nw (Ext.L _ _) e1) e2) e_3) e4)⟩
 |(obtain rfl:j=0:=by omega
   exact ⟨_,0,k+(e.toNat+1),rfl,hs4,.inl ⟨rfl,by rw[hx];exact hgood⟩,(Ext.nw (Ext.nw (Ext.nw (Ext.nw (Ext.L _ _) e1) e2) e_3) e4)⟩)
theorem wholeN_spec (b:Nat)(vr:Value)(l:List UInt8)(k:Nat)(F:Nat->Prop)(w:World)(ho:Own w b 234 [.bool true,vr,.int .i64 ((k:Int))])(hl:Sl byteE w F vr l)(hk:k<=l.length)(hF:∀j,F j->j≠b∧j<w.heap.size)(hL:l.length<=1000000):
 Ret prog 189 #[.pointer (some ⟨b,0,none⟩),.func (.func 190) #[] #[]] w (λv w'=>∃(n:BitVec 64) (e:Int) (k':Nat),v=.tuple #[.int .u64 (n.toNat:Int),.int .i64 e]∧Own w' b 234 [.bool true,vr,.int .i64 ((k':Int))]∧((e=0∧Cn.Seg (Cn.num n.toNat) l k k')∨(0<e∧n=0#64∧k'=k∧Cn.No (λ_:BitVec 64=>True) (λq=>Cn.num q.toNat) l k))∧Ext (λj=>j=b) w w'):=by
 have _hF9:=hF;have _hk9:=hk;have hbl:=ho.lt;have hll:=hl.le;refine enT [.pointer (some ⟨b,0,none⟩),.func (.func 190) #[] #[]] 32 func189 rfl rfl (C.sr λK1=>O.j (O.j (K1 (C.sr λK2=>O.j (K2 (C.sq λK3=>C.sr λK4=>O.mv (O.call call188 (args1 rfl) (zero_spec b vr l _ F _ ho hl (by omega) (λj hj=>by have q1:=hF j hj;omega)) ?_)))))));rintro v_11 w1 ⟨rfl,hw_⟩;replace hw_:=hw_.symm;subst hw_;refine K4 (C.condF rfl (C.skip (K3 (C.sr λK5=>O.mv (O.nilChk rfl (O.fa U234 rfl Z3 rfl (O.loadO isAgg3 rfl ho rfl (O.j (K5 (C.sr λK6=>O.mv (O.mv (O.callV (vs:=[.pointer (some ⟨b,0,none⟩)]) call190 rfl (args1 rfl) (rdnum_spec b vr l k F _ ho hl hk (λj hj=>by have q1:=hF j hj;omega) hL) ?_))))))))))));rintro v_20 w1 ⟨nv20,env20,knv20,rfl,hov20,hcv20,e1⟩;have z1:=e1.size;refine O.mv (O.extract rfl rfl (O.extract rfl rfl (O.j (O.j (K6 (C.sq λK7=>C.sr λK8=>O.mv (O.neqI rfl rfl (K8 (C.condD rfl (λc24=>?_) (λc24=>?_))))))))))
 ·
  refine C.sr λK9=>O.mv (O.mv (O.cast (v':=.int .i64 (k:Int)) rfl (O.nilChk rfl (O.fa U234 rfl Z3 rfl (O.store Z3 rfl rfl rfl hov20 (by simp) (λw2 hs2 e2 z2=>?_))))))
  try simp only[Nat.zero_add] at hs2
  refine K9 (C.sr λK10=>O.mv (O.mv (O.j (O.j (K10 (C.ret (Outs.two rfl rfl rfl ?_)))))));rcases hcv20 with ⟨q1,q2⟩|⟨q1,q2⟩
  ·first
   |exact absurd q1 c24
   |exact ⟨nv20,0,knv20,rfl,hs2,.inl ⟨rfl,q2⟩,(Ext.nw (Ext.nw (Ext.L _ _) e1) e2)⟩
  ·first
   |exact ⟨0#64,env20,k,rfl,hs2,.inr ⟨q1,rfl,rfl,q2.2.2⟩,(Ext.nw (Ext.nw (Ext.L _ _) e1) e2)⟩
   |omega
 refine C.skip (K7 (C.sr λK11=>O.mv (O.j (O.j (K11 (C.ret (Outs.two rfl rfl rfl ?_)))))));rcases hcv20 with ⟨q1,q2⟩|⟨q1,q2⟩
 ·first
  |exact absurd q1 c24
  |exact ⟨nv20,0,knv20,rfl,hov20,.inl ⟨rfl,q2⟩,(Ext.nw (Ext.L _ _) e1)⟩
 ·first
  |exact ⟨0#64,env20,k,rfl,hov20,.inr ⟨q1,rfl,rfl,q2.2.2⟩,(Ext.nw (Ext.L _ _) e1)⟩
  |omega
theorem rdNum_spec (b:Nat)(vr:Value)(l:List UInt8)(k:Nat)(F:Nat->Prop)(most:BitVec 64)(w:World)(ho:Own w b 234 [.bool true,vr,.int .i64 ((k:Int))])(hl:Sl byteE w F vr l)(hk:k<=l.length)(hF:∀j,F j->j≠b∧j<w.heap.size)(hL:l.length<=1000000):
 Ret prog 129 #[.pointer (some ⟨b,0,none⟩),.int .u64 ((most).toNat:Int)] w (λv w'=>∃(n:BitVec 64) (e:Int) (k':Nat),v=.tuple #[.int .u64 (n.toNat:Int),.int .i64 e]∧Own w' b 234 [.bool true,vr,.int .i64 ((k':Int))]∧((e=0∧n.toNat<=most.toNat∧Cn.Seg (Cn.num n.toNat) l k k')∨(0<e∧n=0#64∧k'=k∧Cn.No (λq:BitVec 64=>q.toNat<=most.toNat) (λq=>Cn.num q.toNat) l k))∧Ext (λj=>j=b) w w'):=by
 have _hF9:=hF;have _hk9:=hk;have hbl:=ho.lt;have hll:=hl.le;refine enT [.pointer (some ⟨b,0,none⟩),.int .u64 ((most).toNat:Int)] 33 func129 rfl rfl (C.sr λK1=>O.j (O.j (K1 (C.sq λK2=>C.sr λK3=>O.mv (O.call call188 (args1 rfl) (zero_spec b vr l _ F _ ho hl (by omega) (λj hj=>by have q1:=hF j hj;omega)) ?_)))));rintro v_10 w1 ⟨rfl,hw_⟩;replace hw_:=hw_.symm;subst hw_;refine K3 (C.condF rfl (C.skip (K2 (C.sr λK4=>O.mv (O.nilChk rfl (O.fa U234 rfl Z3 rfl (O.loadO isAgg3 rfl ho rfl (O.j (K4 (C.sr λK5=>O.mv (O.call call189 (args2 rfl rfl) (wholeN_spec b vr l k F _ ho hl hk (λj hj=>by have q1:=hF j hj;omega) hL) ?_)))))))))));rintro v_17 w1 ⟨nv17,env17,knv17,rfl,hov17,hcv17,e1⟩;have z1:=e1.size;refine O.mv (O.extract rfl rfl (O.extract rfl rfl (O.j (O.j (K5 (C.sq λK6=>C.sr λK7=>O.mv (O.eqlI rfl rfl (O.mv (O.splitD (x:=.tmp 22) rfl (λc22=>?_) (λc22=>?_))))))))))
 ·
  refine O.yes rfl (isT rfl c22) (O.mv (O.yes rfl (isT rfl c22) (O.mv (O.yes rfl (isT rfl c22) (O.gtrU (m:=64) rfl rfl (O.pickT (isT rfl c22) (K7 (C.condD rfl (λc26=>?_) (λc26=>?_)))))))))
  ·
   refine C.sr λK8=>O.mv (O.mv (O.cast (v':=.int .i64 (k:Int)) rfl (O.nilChk rfl (O.fa U234 rfl Z3 rfl (O.store Z3 rfl rfl rfl hov17 (by simp) (λw2 hs2 e2 z2=>?_))))))
   try simp only[Nat.zero_add] at hs2
   refine K8 (C.sr λK9=>O.j (O.j (K9 (C.ret (Outs.two rfl rfl rfl ?_)))));rcases hcv17 with ⟨q1,q2⟩|⟨q1,q2,q3,q4⟩
   ·first
    |exact ⟨0#64,3,k,rfl,hs2,.inr ⟨by decide,rfl,rfl,Cn.no_most q2 (BitVec.lt_def.1 c26)⟩,(Ext.nw (Ext.nw (Ext.L _ _) e1) e2)⟩
    |exact ⟨nv17,env17,knv17,rfl,hs2,.inl ⟨q1,Nat.le_of_not_lt (λh=>c26 (BitVec.lt_def.2 h)),q2⟩,(Ext.nw (Ext.nw (Ext.L _ _) e1) e2)⟩
    |exact absurd q1 c22
   ·first
    |(exfalso;omega)
    |exact ⟨nv17,env17,knv17,rfl,hs2,.inr ⟨q1,q2,q3,q4.mono λ_ _=>trivial⟩,(Ext.nw (Ext.nw (Ext.L _ _) e1) e2)⟩
  refine C.skip (K6 (C.sr λK10=>O.mv (O.mv (O.j (O.j (K10 (C.ret (Outs.two rfl rfl rfl ?_))))))));rcases hcv17 with ⟨q1,q2⟩|⟨q1,q2,q3,q4⟩
  ·first
   |exact ⟨0#64,3,k,rfl,hov17,.inr ⟨by decide,rfl,rfl,Cn.no_most q2 (BitVec.lt_def.1 c26)⟩,(Ext.nw (Ext.L _ _) e1)⟩
   |exact ⟨nv17,env17,knv17,rfl,hov17,.inl ⟨q1,Nat.le_of_not_lt (λh=>c26 (BitVec.lt_def.2 h)),q2⟩,(Ext.nw (Ext.L _ _) e1)⟩
   |exact absurd q1 c22
  ·first
   |(exfalso;omega)
   |exact ⟨nv17,env17,knv17,rfl,hov17,.inr ⟨q1,q2,q3,q4.mono λ_ _=>trivial⟩,(Ext.nw (Ext.L _ _) e1)⟩
 refine O.no rfl (noB (isF rfl c22) rfl) (O.no rfl (noB (isF rfl c22) rfl) (O.no rfl (noB (isF rfl c22) rfl) (O.pickF (isF rfl c22) (K7 (C.condF rfl (C.skip (K6 (C.sr λK11=>O.mv (O.mv (O.j (O.j (K11 (C.ret (Outs.two rfl rfl rfl ?_))))))))))))));rcases hcv17 with ⟨q1,q2⟩|⟨q1,q2,q3,q4⟩
 ·first
  |exact ⟨0#64,3,k,rfl,hov17,.inr ⟨by decide,rfl,rfl,Cn.no_most q2 (BitVec.lt_def.1 c26)⟩,(Ext.nw (Ext.L _ _) e1)⟩
  |exact ⟨nv17,env17,knv17,rfl,hov17,.inl ⟨q1,Nat.le_of_not_lt (λh=>c26 (BitVec.lt_def.2 h)),q2⟩,(Ext.nw (Ext.L _ _) e1)⟩
  |exact absurd q1 c22
 ·first
  |(exfalso;omega)
  |exact ⟨nv17,env17,knv17,rfl,hov17,.inr ⟨q1,q2,q3,q4.mono λ_ _=>trivial⟩,(Ext.nw (Ext.L _ _) e1)⟩
theorem rtake_spec (b:Nat)(vr:Value)(l:List UInt8)(k:Nat)(F:Nat->Prop)(n:BitVec 64)(w:World)(ho:Own w b 234 [.bool true,vr,.int .i64 ((k:Int))])(hl:Sl byteE w F vr l)(hk:k<=l.length)(hF:∀j,F j->j≠b∧j<w.heap.size)(hL:l.length<=1000000):
 Ret prog 193 #[.pointer (some ⟨b,0,none⟩),.int .u64 ((n).toNat:Int)] w (λv w'=>∃(vb:Value) (s:List UInt8) (e:Int) (k':Nat),v=.tuple #[vb,.int .i64 e]∧Own w' b 234 [.bool true,vr,.int .i64 ((k':Int))]∧OwnF byteF 5 w.heap.size w' vb (s)∧((e=0∧n.toNat<=l.length-k∧k'=k+n.toNat∧s=(l.drop k).take n.toNat)∨(e=4∧l.length-k<n.toNat∧k'=k))∧Ext (λj=>j=b) w w'):=by
 have _hF9:=hF;have _hk9:=hk;have hbl:=ho.lt;have hll:=hl.le;have hnl:=n.isLt;obtain ⟨ie5,ti5,ts5,tb5,tz5⟩:=inf5;refine enT [.pointer (some ⟨b,0,none⟩),.int .u64 ((n).toNat:Int)] 28 func193 rfl rfl (C.sr λK1=>O.j (O.j (K1 (C.sq λK2=>C.sr λK3=>O.mv (O.call call196 (args1 rfl) (rest_spec b vr l k F _ ho hl hk (λj hj=>by have q1:=hF j hj;omega)) ?_)))));rintro v_8 w1 ⟨e1,h8⟩;have z1:=e1.size;refine O.len U30 rfl h8 (O.convIU (m':=64) U3 U110 rfl rfl rfl ?_);have h10:(BitVec.ofInt 64 ((l.drop k).length:Int)).toNat=l.length-k:=by rw[List.length_drop,BitVec.toNat_ofInt];omega
 refine O.mv (O.lssU (m:=64) rfl rfl (K3 (C.condD rfl (λc12=>?_) (λc12=>?_))))
 ·
  refine C.sr λK4=>O.j (O.j (K4 (C.ret (Outs.two rfl rfl rfl ?_))))
  exact ⟨_,[],4,k,rfl,(ho.L e1),OwnF.nil _ _ _ _,.inr ⟨rfl,by rw[BitVec.lt_def,h10] at c12;exact c12,rfl⟩,(Ext.nw (Ext.L _ _) e1)⟩
 have hnk:n.toNat<=l.length-k:=by rw[BitVec.lt_def,h10] at c12;omega
 refine C.skip (K2 (C.sr λK5=>O.mv (O.call call196 (args1 rfl) (rest_spec b vr l k F _ (ho.L e1) (hl.L e1) hk (λj hj=>by have q1:=hF j hj;omega)) ?_)));rintro v_14 w2 ⟨e2,h14⟩;have z2:=e2.size;refine O.mv ?_;have hb16:=Sl.sub (P:=prog) (0) (n.toNat) U30 Z5 (by rfl) h14 (Nat.zero_le _) (by rw[List.length_drop];omega);obtain ⟨v16,hs16,hr16⟩:=hb16;refine O.subR rfl hr16 (.inl ⟨rfl,rfl⟩) (.inr ⟨_,_,rfl,rfl⟩) (O.call call127 (args1 rfl) (cloneB_spec _ _ _ _ hs16 (by simp;omega)) ?_);rintro v_17 w3 ⟨e3,h17⟩;have z3:=e3.size;rw[List.drop_zero] at h17;have h17s:=h17.sl;refine O.j (K5 (C.sr λK6=>O.mv (O.nilChk rfl (O.fa U234 rfl Z3 rfl ?_))));have t0:=((ho.L e1).L e2).L e3;refine O.loadO isAgg3 rfl t0 rfl (O.mv (O.convU64I U110 U3 rfl (O.cast (v':=.int .i64 (n.toNat:Int)) (cI (by rw[BitVec.toInt_eq_toNat_cond,if_pos (by omega)])) (O.ad rfl rfl (O.cast (v':=.int .i64 ((k+n.toNat:Nat):Int)) (cI (by omega)) (O.nilChk rfl (O.fa U234 rfl Z3 rfl (O.store Z3 rfl rfl rfl t0 (by simp) (λw4 hs4 e4 z4=>?_)))))))))
 try simp only[Nat.zero_add] at hs4
 refine K6 (C.sr λK7=>O.mv (O.j (O.j (K7 (C.ret (Outs.two rfl rfl rfl ?_))))))
 first
 |exact ⟨_,[],4,k,rfl,hs4,OwnF.nil _ _ _ _,.inr ⟨rfl,by rw[BitVec.lt_def,h10] at c12;exact c12,rfl⟩,(Ext.nw (Ext.nw (Ext.nw (Ext.nw (Ext.L _ _) e1) e2) e3) e4)⟩
 |exact ⟨_,_,0,k+n.toNat,rfl,hs4,((h17.kM e4 (λk hk h=>by have:=h17.bk_ge k hk;(try dsimp only at h);omega))).low (by omega),.inl ⟨rfl,hnk,rfl,rfl⟩,(Ext.nw (Ext.nw (Ext.nw (Ext.nw (Ext.L _ _) e1) e2) e3) e4)⟩
theorem rstr1_spec (b:Nat)(vr:Value)(l:List UInt8)(k:Nat)(F:Nat->Prop)(bm:Nat)(most:Int)(w:World)(ho:Own w b 234 [.bool true,vr,.int .i64 ((k:Int))])(hl:Sl byteE w F vr l)(hk:k<=l.length)(hF:∀j,F j->j≠b∧j<w.heap.size)(hL:l.length<=1000000)(hm:Own w bm 3 [.int .i64 most])(hne:bm≠b)(hmost:InI most):
 Ret prog 192 #[.pointer (some ⟨b,0,none⟩),.pointer (some ⟨bm,0,none⟩)] w (λv w'=>∃(s:List UInt8) (e:Int) (k':Nat),v=.tuple #[str s,.int .i64 e]∧Own w' b 234 [.bool true,vr,.int .i64 ((k':Int))]∧((e=0∧(s.length:Int)<=most∧Cn.Seg (Cn.strB s) l k k')∨(0<e∧True∧Cn.No (λs:List UInt8=>(s.length:Int)<=most) Cn.strB l k))∧Ext (λj=>j=b) w w'):=by
 have _hF9:=hF;have _hk9:=hk;have hbl:=ho.lt;have hll:=hl.le;refine enT [.pointer (some ⟨b,0,none⟩),.pointer (some ⟨bm,0,none⟩)] 33 func192 rfl rfl (C.sr λK1=>O.j (O.j (K1 (C.sr λK2=>O.mv (O.call call129 (args2 rfl rfl) (rdNum_spec b vr l k F 18446744073709551615#64 _ ho hl hk (λj hj=>by have q1:=hF j hj;omega) hL) ?_)))));rintro v_10 w1 ⟨nv10,env10,knv10,rfl,hov10,hcv10,e1⟩;have z1:=e1.size;refine O.mv (O.extract rfl rfl (O.extract rfl rfl (O.j (O.j (K2 (C.sq λK3=>C.sr λK4=>O.mv (O.neqI rfl rfl (K4 (C.condD rfl (λc14=>?_) (λc14=>?_))))))))))
 ·
  refine C.sr λK5=>O.mv (O.j (O.j (K5 (C.ret (Outs.two rfl rfl rfl ?_)))))
  (rcases hcv10 with ⟨q1,_⟩|⟨q1,_,q3,q4⟩
   ·exact absurd q1 c14
   ·exact ⟨[],env10,knv10,rfl,hov10,.inr ⟨q1,trivial,Cn.no_str_len (q4.mono λq _=>by have h9:=q.isLt;show q.toNat<=18446744073709551615;omega) (by omega)⟩,(Ext.nw (Ext.L _ _) e1)⟩)
 obtain ⟨q1,hs10⟩:env10=0∧Cn.Seg (Cn.num nv10.toNat) l k knv10:=by
  rcases hcv10 with ⟨q1,_,q2⟩|⟨q1,_⟩
  ·exact ⟨q1,q2⟩
  ·exfalso;omega
 have hk10:=hs10.2.2;refine C.skip (K3 (C.sq λK6=>C.sr λK7=>O.loadO isAgg3 rfl (hm.kO e1) rfl (O.lssI rfl rfl (O.mv (O.splitD (x:=.tmp 18) rfl (λc18=>?_) (λc18=>?_))))))
 ·
  refine O.no rfl (noB (isT rfl c18) rfl) (O.no rfl (noB (isT rfl c18) rfl) (O.no rfl (noB (isT rfl c18) rfl) (O.no rfl (noB (isT rfl c18) rfl) (O.pickT (isT rfl c18) (K7 (C.condT rfl (C.sr λK8=>O.j (O.j (K8 (C.ret (Outs.two rfl rfl rfl ?_)))))))))))
  first
  |(rcases hcv10 with ⟨q1,_⟩|⟨q1,_,q3,q4⟩
    ·exact absurd q1 c14
    ·exact ⟨[],env10,knv10,rfl,hov10,.inr ⟨q1,trivial,Cn.no_str_len (q4.mono λq _=>by have h9:=q.isLt;show q.toNat<=18446744073709551615;omega) (by omega)⟩,(Ext.nw (Ext.L _ _) e1)⟩)
  |exact ⟨[],5,knv10,rfl,hov10,.inr ⟨by decide,trivial,Cn.no_str hs10 (.inl (by have:=nv10.isLt;first|omega|(rw[BitVec.lt_def,BitVec.toNat_ofInt] at c23;unfold InI at hmost;omega)))⟩,(Ext.nw (Ext.L _ _) e1)⟩
 refine O.yes rfl (isF rfl c18) (O.mv (O.yes rfl (isF rfl c18) (O.loadO isAgg3 rfl (hm.kO e1) rfl (O.yes rfl (isF rfl c18) (O.convIU (m':=64) U3 U110 rfl rfl rfl (O.yes rfl (isF rfl c18) (O.gtrU (m:=64) rfl rfl (O.pickF (isF rfl c18) (K7 (C.condD rfl (λc23=>?_) (λc23=>?_)))))))))))
 ·
  refine C.sr λK9=>O.j (O.j (K9 (C.ret (Outs.two rfl rfl rfl ?_))))
  first
  |(rcases hcv10 with ⟨q1,_⟩|⟨q1,_,q3,q4⟩
    ·exact absurd q1 c14
    ·exact ⟨[],env10,knv10,rfl,hov10,.inr ⟨q1,trivial,Cn.no_str_len (q4.mono λq _=>by have h9:=q.isLt;show q.toNat<=18446744073709551615;omega) (by omega)⟩,(Ext.nw (Ext.L _ _) e1)⟩)
  |exact ⟨[],5,knv10,rfl,hov10,.inr ⟨by decide,trivial,Cn.no_str hs10 (.inl (by have:=nv10.isLt;first|omega|(rw[BitVec.lt_def,BitVec.toNat_ofInt] at c23;unfold InI at hmost;omega)))⟩,(Ext.nw (Ext.L _ _) e1)⟩
 refine C.skip (K6 (C.sr λK10=>O.mv (O.mv (O.call call193 (args2 rfl rfl) (rtake_spec b vr l knv10 F nv10 _ hov10 (hl.keepA e1) hk10 (λj hj=>by have q1:=hF j hj;omega) hL) ?_))));rintro v_27 w2 ⟨vbv27,sv27,env27,knv27,rfl,hov27,hbv27,hcv27,e2⟩;have z2:=e2.size;have hb27s:=hbv27.sl;refine O.mv (O.extract rfl rfl (O.extract rfl rfl (O.j (O.j (K10 (C.sr λK11=>O.mv (O.bytesS U30 U5 U9 rfl hb27s (O.mv (O.j (O.j (K11 (C.ret (Outs.two rfl rfl rfl ?_)))))))))))))
 first
 |(rcases hcv10 with ⟨q1,_⟩|⟨q1,_,q3,q4⟩
   ·exact absurd q1 c14
   ·exact ⟨[],env10,knv10,rfl,hov27,.inr ⟨q1,trivial,Cn.no_str_len (q4.mono λq _=>by have h9:=q.isLt;show q.toNat<=18446744073709551615;omega) (by omega)⟩,(Ext.nw (Ext.nw (Ext.L _ _) e1) e2)⟩)
 |exact ⟨[],5,knv10,rfl,hov27,.inr ⟨by decide,trivial,Cn.no_str hs10 (.inl (by have:=nv10.isLt;first|omega|(rw[BitVec.lt_def,BitVec.toNat_ofInt] at c23;unfold InI at hmost;omega)))⟩,(Ext.nw (Ext.nw (Ext.L _ _) e1) e2)⟩
 |(rcases hcv27 with ⟨q1,q2,q3,q4⟩|⟨q1,q2,q3⟩
   ·exact ⟨sv27,env27,knv27,rfl,hov27,.inl ⟨q1,by rw[q4,List.length_take,List.length_drop];rw[BitVec.lt_def,BitVec.toNat_ofInt] at c23;unfold InI at hmost;omega,by rw[q3,q4];exact Cn.seg_str hs10 q2⟩,(Ext.nw (Ext.nw (Ext.L _ _) e1) e2)⟩
   ·exact ⟨sv27,env27,knv27,rfl,hov27,.inr ⟨by omega,trivial,Cn.no_str hs10 (.inr q2)⟩,(Ext.nw (Ext.nw (Ext.L _ _) e1) e2)⟩)
theorem wholeS_spec (b:Nat)(vr:Value)(l:List UInt8)(k:Nat)(F:Nat->Prop)(bm:Nat)(most:Int)(w:World)(ho:Own w b 234 [.bool true,vr,.int .i64 ((k:Int))])(hl:Sl byteE w F vr l)(hk:k<=l.length)(hF:∀j,F j->j≠b∧j<w.heap.size)(hL:l.length<=1000000)(hm:Own w bm 3 [.int .i64 most])(hne:bm≠b)(hmost:InI most):
 Ret prog 191 #[.pointer (some ⟨b,0,none⟩),.func (.func 192) #[] #[.pointer (some ⟨bm,0,none⟩)]] w (λv w'=>∃(s:List UInt8) (e:Int) (k':Nat),v=.tuple #[str s,.int .i64 e]∧Own w' b 234 [.bool true,vr,.int .i64 ((k':Int))]∧((e=0∧(s.length:Int)<=most∧Cn.Seg (Cn.strB s) l k k')∨(0<e∧k'=k∧Cn.No (λs:List UInt8=>(s.length:Int)<=most) Cn.strB l k))∧Ext (λj=>j=b) w w'):=by
 have _hF9:=hF;have _hk9:=hk;have hbl:=ho.lt;have hll:=hl.le;refine enT [.pointer (some ⟨b,0,none⟩),.func (.func 192) #[] #[.pointer (some ⟨bm,0,none⟩)]] 32 func191 rfl rfl (C.sr λK1=>O.j (O.j (K1 (C.sr λK2=>O.j (K2 (C.sq λK3=>C.sr λK4=>O.mv (O.call call188 (args1 rfl) (zero_spec b vr l _ F _ ho hl (by omega) (λj hj=>by have q1:=hF j hj;omega)) ?_)))))));rintro v_11 w1 ⟨rfl,hw_⟩;replace hw_:=hw_.symm;subst hw_;refine K4 (C.condF rfl (C.skip (K3 (C.sr λK5=>O.mv (O.nilChk rfl (O.fa U234 rfl Z3 rfl (O.loadO isAgg3 rfl ho rfl (O.j (K5 (C.sr λK6=>O.mv (O.mv (O.callV (vs:=[.pointer (some ⟨b,0,none⟩)]) call192 rfl (args1 rfl) (rstr1_spec b vr l k F bm most _ ho hl hk (λj hj=>by have q1:=hF j hj;omega) hL hm hne hmost) ?_))))))))))));rintro v_20 w1 ⟨nv20,env20,knv20,rfl,hov20,hcv20,e1⟩;have z1:=e1.size;refine O.mv (O.extract rfl rfl (O.extract rfl rfl (O.j (O.j (K6 (C.sq λK7=>C.sr λK8=>O.mv (O.neqI rfl rfl (K8 (C.condD rfl (λc24=>?_) (λc24=>?_))))))))))
 ·
  refine C.sr λK9=>O.mv (O.mv (O.cast (v':=.int .i64 (k:Int)) rfl (O.nilChk rfl (O.fa U234 rfl Z3 rfl (O.store Z3 rfl rfl rfl hov20 (by simp) (λw2 hs2 e2 z2=>?_))))))
  try simp only[Nat.zero_add] at hs2
  refine K9 (C.sr λK10=>O.mv (O.mv (O.j (O.j (K10 (C.ret (Outs.two rfl rfl rfl ?_)))))));rcases hcv20 with ⟨q1,q2⟩|⟨q1,q2⟩
  ·first
   |exact absurd q1 c24
   |exact ⟨nv20,0,knv20,rfl,hs2,.inl ⟨rfl,q2⟩,(Ext.nw (Ext.nw (Ext.L _ _) e1) e2)⟩
  ·first
   |exact ⟨[],env20,k,rfl,hs2,.inr ⟨q1,rfl,q2.2⟩,(Ext.nw (Ext.nw (Ext.L _ _) e1) e2)⟩
   |omega
 refine C.skip (K7 (C.sr λK11=>O.mv (O.j (O.j (K11 (C.ret (Outs.two rfl rfl rfl ?_)))))));rcases hcv20 with ⟨q1,q2⟩|⟨q1,q2⟩
 ·first
  |exact absurd q1 c24
  |exact ⟨nv20,0,knv20,rfl,hov20,.inl ⟨rfl,q2⟩,(Ext.nw (Ext.L _ _) e1)⟩
 ·first
  |exact ⟨[],env20,k,rfl,hov20,.inr ⟨q1,rfl,q2.2⟩,(Ext.nw (Ext.L _ _) e1)⟩
  |omega
theorem rdStr_spec (b:Nat)(vr:Value)(l:List UInt8)(k:Nat)(F:Nat->Prop)(most:Int)(w:World)(ho:Own w b 234 [.bool true,vr,.int .i64 ((k:Int))])(hl:Sl byteE w F vr l)(hk:k<=l.length)(hF:∀j,F j->j≠b∧j<w.heap.size)(hL:l.length<=1000000)(hmost:InI most):
 Ret prog 130 #[.pointer (some ⟨b,0,none⟩),.int .i64 (most)] w (λv w'=>∃(s:List UInt8) (e:Int) (k':Nat),v=.tuple #[str s,.int .i64 e]∧Own w' b 234 [.bool true,vr,.int .i64 ((k':Int))]∧((e=0∧(s.length:Int)<=most∧Cn.Seg (Cn.strB s) l k k')∨(0<e∧k'=k∧Cn.No (λs:List UInt8=>(s.length:Int)<=most) Cn.strB l k))∧Ext (λj=>j=b) w w'):=by
 have _hF9:=hF;have _hk9:=hk;have hbl:=ho.lt;have hll:=hl.le;refine enT [.pointer (some ⟨b,0,none⟩),.int .i64 (most)] 11 func130 rfl rfl (C.sr λK1=>O.box (v:=.int .i64 (most)) rfl (λb3 w1 hb3 hz3 e1=>?_));have z1:=e1.size;have h3:=hz3.own;have hl3:=h3.lt;refine O.j (O.j (K1 (C.sr λK2=>O.mv (O.makeF (v1:=[]) rfl rfl (O.call call191 (args2 rfl rfl) (wholeS_spec b vr l k F b3 most _ (ho.L e1) (hl.L e1) hk (λj hj=>by have q1:=hF j hj;omega) hL h3 (by omega) hmost) ?_)))));rintro v_8 w2 ⟨nv8,env8,knv8,rfl,hov8,hcv8,e2⟩;have z2:=e2.size;refine O.extract rfl rfl (O.extract rfl rfl (O.j (O.j (K2 (C.ret (Outs.two rfl rfl rfl ?_))))));exact ⟨nv8,env8,knv8,rfl,hov8,hcv8,(Ext.nw (Ext.nw (Ext.L _ _) e1) e2)⟩
theorem rdAt_spec (b:Nat)(vr:Value)(l:List UInt8)(k:Nat)(F:Nat->Prop)(w:World)(ho:Own w b 234 [.bool true,vr,.int .i64 ((k:Int))])(hl:Sl byteE w F vr l)(hk:k<=l.length)(hF:∀j,F j->j≠b∧j<w.heap.size):
 Ret prog 132 #[.pointer (some ⟨b,0,none⟩)] w (λv w'=>v=.int .i64 (k:Int)∧w'=w):=by
 have _hF9:=hF;have _hk9:=hk;have hbl:=ho.lt;have hll:=hl.le;refine enT [.pointer (some ⟨b,0,none⟩)] 9 func132 rfl rfl (C.sr λK1=>O.j (K1 (C.sq λK2=>C.sr λK3=>O.mv (O.call call188 (args1 rfl) (zero_spec b vr l _ F _ ho hl (by omega) (λj hj=>by have q1:=hF j hj;omega)) ?_))));rintro v_4 w1 ⟨rfl,hw_⟩;replace hw_:=hw_.symm;subst hw_;refine K3 (C.condF rfl (C.skip (K2 (C.sr λK4=>O.mv (O.nilChk rfl (O.fa U234 rfl Z3 rfl (O.loadO isAgg3 rfl ho rfl (O.j (K4 (C.ret (Outs.one rfl rfl ?_)))))))))));exact ⟨rfl,rfl⟩
theorem rdLeft_spec (b:Nat)(vr:Value)(l:List UInt8)(k:Nat)(F:Nat->Prop)(w:World)(ho:Own w b 234 [.bool true,vr,.int .i64 ((k:Int))])(hl:Sl byteE w F vr l)(hk:k<=l.length)(hF:∀j,F j->j≠b∧j<w.heap.size):
 Ret prog 134 #[.pointer (some ⟨b,0,none⟩)] w (λv w'=>v=.int .i64 ((l.length-k:Nat):Int)∧Le w w'):=by
 have _hF9:=hF;have _hk9:=hk;have hbl:=ho.lt;have hll:=hl.le;refine enT [.pointer (some ⟨b,0,none⟩)] 8 func134 rfl rfl (C.sr λK1=>O.j (K1 (C.sq λK2=>C.sr λK3=>O.mv (O.call call188 (args1 rfl) (zero_spec b vr l _ F _ ho hl (by omega) (λj hj=>by have q1:=hF j hj;omega)) ?_))));rintro v_4 w1 ⟨rfl,hw_⟩;replace hw_:=hw_.symm;subst hw_;refine K3 (C.condF rfl (C.skip (K2 (C.sr λK4=>O.mv (O.call call196 (args1 rfl) (rest_spec b vr l k F _ ho hl hk (λj hj=>by have q1:=hF j hj;omega)) ?_)))));rintro v_6 w1 ⟨e1,h6⟩;have z1:=e1.size;refine O.len U30 rfl h6 (O.cast (v':=.int .i64 ((l.length-k:Nat):Int)) (cI (by rw[List.length_drop])) (O.j (K4 (C.ret (Outs.one rfl rfl ?_)))));exact ⟨rfl,e1⟩
theorem rdNew_spec (v0:Value)(l:List UInt8)(F:Nat->Prop)(w:World)(hl:Sl byteE w F v0 l)(hL:l.length<=1000000):
 Ret prog 128 #[v0] w (λv w'=>∃(b:Nat) (vr:Value),v=.pointer (some ⟨b,0,none⟩)∧Own w' b 234 [.bool true,vr,.int .i64 0]∧Sl byteE w' (λj=>w.heap.size<=j∧j<b) vr l∧w.heap.size<=b∧b<w'.heap.size∧Le w w'):=by
 obtain ⟨ie5,ti5,ts5,tb5,tz5⟩:=inf5;refine enT [v0] 7 func128 rfl rfl (C.sr λK1=>O.j (K1 (C.sr λK2=>O.mv (O.call call127 (args1 rfl) (cloneB_spec _ l _ _ hl (by omega)) ?_))));rintro v_4 w1 ⟨e1,h4⟩;have z1:=e1.size;have h4s:=h4.sl;have h4b:=h4.bk_ge;obtain ⟨a4,rfl⟩:=h4s.slv;refine O.build (cells:=#[.bool true,slv a4,.int .i64 0]) rfl (by kernel_rfl) (O.box (v:=.agg #[.bool true,slv a4,.int .i64 0]) rfl (λb6 w2 hb6 hz6 e2=>?_));have z2:=e2.size;have h6:=hz6.own;have hl6:=h6.lt;refine O.j (K2 (C.ret (Outs.one rfl rfl ?_)));exact ⟨b6,slv a4,rfl,h6,((h4s.L e2)).weak (by intro j hj;have:=h4b j hj;omega),by omega,hl6,(Ext.T e1 e2)⟩
theorem Mx.kM {M:Nat->Prop}{w w':World}(h:Mx w)(e:Ext M w w')(hM:¬M 0):Mx w':=by obtain ⟨m,hm⟩:=h.h;exact ⟨m,hm.kM e hM⟩
theorem Mx.kO {M:Nat->Prop}{w w':World}(h:Mx w)(e:Ext M w w')(hM:¬M 0:=by intro h;(try dsimp only at h);omega):Mx w':=h.kM e hM
theorem Mx.lt {w:World}(h:Mx w):0<w.heap.size:=by obtain ⟨m,hm⟩:=h.h;exact hm.lt
theorem must_spec (e:Int)(w:World):
 RetZ prog 266 #[.int .i64 (e)] w (λv w'=>v=.tuple #[]∧e=0∧Le w w') (λch w'=>ch=[{v:=.iface 282 (.agg #[]),recovered:=false}]∧e≠0∧Le w w'):=by
 refine enterZ (args:=[.int .i64 (e)]) (n:=6) func266 rfl rfl (leB rfl) (C.sr λK1=>O.mv (O.neqI rfl rfl (K1 (C.condD rfl (λc3=>?_) (λc3=>?_)))))
 ·
  refine C.region (O.build (cells:=#[]) rfl (by kernel_rfl) (O.mkI U282 rfl rfl (O.panics rfl ?_)));exact ⟨rfl,c3,leR⟩
 refine C.skip (Outs.none rfl ?_);exact ⟨rfl,by omega,leR⟩
theorem num_spec (b:Nat)(vr:Value)(l:List UInt8)(k:Nat)(F:Nat->Prop)(most:BitVec 64)(w:World)(ho:Own w b 234 [.bool true,vr,.int .i64 ((k:Int))])(hl:Sl byteE w F vr l)(hk:k<=l.length)(hF:∀j,F j->j≠b∧j<w.heap.size)(hL:l.length<=1000000):
 RetZ prog 247 #[.pointer (some ⟨b,0,none⟩),.int .u64 ((most).toNat:Int)] w (λv w'=>∃(n:BitVec 64) (k':Nat),v=.int .u64 (n.toNat:Int)∧Own w' b 234 [.bool true,vr,.int .i64 ((k':Int))]∧n.toNat<=most.toNat∧Cn.SegN n l k k'∧Ext (λj=>j=b) w w') (λch w'=>ch=[{v:=.iface 282 (.agg #[]),recovered:=false}]∧Cn.NumQ most.toNat l k∧Ext (λj=>j=b) w w'):=by
 have _hF9:=hF;have _hk9:=hk;have hbl:=ho.lt;have hll:=hl.le;refine enterZ (args:=[.pointer (some ⟨b,0,none⟩),.int .u64 ((most).toNat:Int)]) (n:=16) func247 rfl rfl (leB rfl) (C.sr λK1=>O.j (K1 (C.sr λK2=>O.mv (O.mv (O.call call129 (args2 rfl rfl) (rdNum_spec b vr l k F most _ ho hl hk (λj hj=>by have q1:=hF j hj;omega) hL) ?_)))));rintro v_10 w1 ⟨nv10,env10,knv10,rfl,hov10,hcv10,e1⟩;have z1:=e1.size;refine O.mv (O.extract rfl rfl (O.extract rfl rfl (O.j (O.j (K2 (C.sr λK3=>O.mv (O.callZ call266 (args1 rfl) (must_spec _ _) (λch_ wz_ hz_=>?_) ?_)))))))
 ·
  rcases hcv10 with ⟨q1,_⟩|⟨q1,q2,q3,q4⟩
  ·exact absurd q1 hz_.2.1
  ·exact ⟨hz_.1,q4,Ext.T (Ext.nw (Ext.L _ _) e1) (Le.to hz_.2.2)⟩
 rintro v_14 w2 ⟨rfl,hzv14,e2⟩;have z2:=e2.size;refine K3 (C.sr λK4=>O.mv (O.j (K4 (C.ret (Outs.one rfl rfl ?_)))));rcases hcv10 with ⟨q1,q2,q3⟩|⟨q1,_⟩
 ·exact ⟨nv10,knv10,rfl,(hov10.L e2),q2,q3,(Ext.nw (Ext.nw (Ext.L _ _) e1) e2)⟩
 ·exfalso;omega
theorem one_spec (b:Nat)(vr:Value)(l:List UInt8)(k:Nat)(F:Nat->Prop)(w:World)(ho:Own w b 234 [.bool true,vr,.int .i64 ((k:Int))])(hl:Sl byteE w F vr l)(hk:k<=l.length)(hF:∀j,F j->j≠b∧j<w.heap.size)(hL:l.length<=1000000):
 RetZ prog 267 #[.pointer (some ⟨b,0,none⟩)] w (λv w'=>∃(d:Dt.Dot) (k':Nat),v=Dt.dv d∧Own w' b 234 [.bool true,vr,.int .i64 ((k':Int))]∧Cn.dotQ d∧Cn.Seg (Cn.dotB d) l k k'∧Ext (λj=>j=b) w w') (λch w'=>ch=[{v:=.iface 282 (.agg #[]),recovered:=false}]∧Cn.No Cn.dotQ Cn.dotB l k∧Ext (λj=>j=b) w w'):=by
 have _hF9:=hF;have _hk9:=hk;have hbl:=ho.lt;have hll:=hl.le;refine enterZ (args:=[.pointer (some ⟨b,0,none⟩)]) (n:=12) func267 rfl rfl (leB rfl) (C.sr λK1=>O.alloc zeroValue112 (λb2 w1 hb2 hz2 e1=>?_));have z1:=e1.size;have h2:=hz2.own;have hl2:=h2.lt;refine K1 (C.sr λK2=>O.mv (O.callZ call247 (args2 rfl rfl) (num_spec b vr l k F 65535#64 _ (ho.L e1) (hl.L e1) hk (λj hj=>by have q1:=hF j hj;omega) hL) (λch_ wz_ hz_=>?_) ?_))
 ·
  exact ⟨hz_.1,Cn.no_dot1 hz_.2.1,Ext.T (Ext.nw (Ext.L _ _) e1) hz_.2.2⟩
 rintro v_5 w2 ⟨nv5,knv5,rfl,hov5,hqv5,hsv5,e2⟩;have z2:=e2.size;refine O.j (K2 (C.sr λK3=>O.mv (O.convU64I U110 U3 rfl (O.mv (O.callZ call247 (args2 rfl rfl) (num_spec b vr l knv5 F 4294967295#64 _ hov5 ((hl.L e1).keepA e2) hsv5.2.2 (λj hj=>by have q1:=hF j hj;omega) hL) (λch_ wz_ hz_=>?_) ?_)))))
 ·
  exact ⟨hz_.1,Cn.no_dot2 hsv5 hqv5 hz_.2.1,Ext.T (Ext.nw (Ext.nw (Ext.L _ _) e1) e2) hz_.2.2⟩
 rintro v_9 w3 ⟨nv9,knv9,rfl,hov9,hqv9,hsv9,e3⟩;have z3:=e3.size;refine O.convU64I U110 U3 rfl (O.build (cells:=#[.int .i64 nv5.toInt,.int .i64 nv9.toInt]) rfl (by kernel_rfl) (O.storeA (vs:=[.int .i64 nv5.toInt,.int .i64 nv9.toInt]) Z112 rfl rfl rfl (by simp[Value.oneCell']) ((h2.kO e2).kO e3) (leB rfl) (λw4 hs4 e4 z4=>K3 (C.ret (Outs.cellA rfl isAgg112 Z112 rfl hs4 rfl ?_)))));exact ⟨(nv5.toInt,nv9.toInt),knv9,rfl,(hov9.kO e4),Cn.dotQ_mk hqv5 hqv9,Cn.seg_dot hsv5 hsv9,(Ext.nw (Ext.nw (Ext.nw (Ext.nw (Ext.L _ _) e1) e2) e3) e4)⟩
theorem ddots_spec (b:Nat)(vr:Value)(l:List UInt8)(k:Nat)(F:Nat->Prop)(w:World)(ho:Own w b 234 [.bool true,vr,.int .i64 ((k:Int))])(hl:Sl byteE w F vr l)(hk:k<=l.length)(hF:∀j,F j->j≠b∧j<w.heap.size)(hL:l.length<=1000000):
 RetZ prog 265 #[.pointer (some ⟨b,0,none⟩)] w (λv w'=>∃(ds:List Dt.Dot) (k':Nat),Own w' b 234 [.bool true,vr,.int .i64 ((k':Int))]∧Fre Dt.dotF 112 w' (λj=>w.heap.size<=j∧j<w'.heap.size) v ds∧ds.length<=l.length∧Cn.manyQ Cn.dotQ ds∧Cn.Seg (Cn.manyB Cn.dotB ds) l k k'∧Ext (λj=>j=b) w w') (λch w'=>ch=[{v:=.iface 282 (.agg #[]),recovered:=false}]∧Cn.No (Cn.manyQ Cn.dotQ) (Cn.manyB Cn.dotB) l k∧Ext (λj=>j=b) w w'):=by
 have _hF9:=hF;have _hk9:=hk;have hbl:=ho.lt;have hll:=hl.le;obtain ⟨ie112,ti112,ts112,tb112,tz112⟩:=inf112;refine enterZ (args:=[.pointer (some ⟨b,0,none⟩)]) (n:=17) func265 rfl rfl (leB rfl) (C.sr λK1=>O.j (K1 (C.sr λK2=>O.j (K2 (C.sq λK3=>C.sr λK4=>O.mv (O.callZ call247 (args2 rfl rfl) (num_spec b vr l k F 18446744073709551615#64 _ ho hl hk (λj hj=>by have q1:=hF j hj;omega) hL) (λch_ wz_ hz_=>?_) ?_))))))
 ·
  exact ⟨hz_.1,Cn.no_many1 (Cn.numA_of hz_.2.1 (by decide)) Cn.dotB_ge (by omega),Ext.T (Ext.L _ _) hz_.2.2⟩
 rintro v_6 w1 ⟨nv6,knv6,rfl,hov6,hqv6,hsv6,e1⟩;have z1:=e1.size;refine O.j (K4 (C.bl λK5=>C.loop0 (σ:=List Dt.Dot×Value×Nat) (λf0 w0 ⟨ds,vs,kc⟩ f wz=>f 3=vs∧f 4=.int .u64 ((BitVec.ofNat 64 (nv6.toNat-ds.length)).toNat:Int)∧f 0=f0 0∧f 2=f0 2∧Ext (λj=>j=b) w wz∧Own wz b 234 [.bool true,vr,.int .i64 ((kc:Int))]∧OwnF Dt.dotF 112 w.heap.size wz vs ds∧ds.length<=nv6.toNat∧Cn.manyQ Cn.dotQ ds∧Cn.Seg (ds.flatMap Cn.dotB) l knv6 kc) (λ⟨ds,vs,kc⟩=>nv6.toNat-ds.length) ([],.slice none 0 0,knv6) ?_ ?_))
 ·
  refine ⟨rfl,(Eq.trans rfl (congrArg (λq:BitVec 64=>Value.int .u64 (q.toNat:Int)) (by simp))),rfl,rfl,(Ext.nw (Ext.L _ _) e1),hov6,(OwnF.nil _ _ _ _),?_⟩;exact ⟨Nat.zero_le _,Cn.manyQ_nil,Cn.Seg.nil hsv6.2.2⟩
 rintro ⟨ds,vs,kc⟩ f_1 w2 ⟨s3_1,s4_1,s0_1,s2_1,e_1,r0_1,r1_1,⟨hj,hQ,hS⟩⟩;have z_1:=e_1.size;have r1_1s:=r1_1.sl;have hln:=Cn.seg_len Cn.dotB_ge hS;have hNl:=nv6.isLt;refine C.sq λK6=>C.sr λK7=>O.mv (O.gtrU (m:=64) (b:=0#64) s4_1 rfl (K7 (C.condD rfl (λc8=>?_) (λc8=>?_))))
 ·
  have hj2:ds.length<nv6.toNat:=by have q:=(Cn.pos_ofNat (m:=nv6.toNat-ds.length) (by omega)).1 c8;omega
  refine C.skip (K6 (C.sq λK8=>C.bl λK9=>C.region (O.mv (O.mv (O.callZ call267 (args1 s0_1) (one_spec b vr l kc F _ r0_1 (hl.keepA e_1) hS.2.2 (λj hj=>by have q1:=hF j hj;omega) hL) (λch_ wz_ hz_=>?_) ?_)))))
  ·
   exact ⟨hz_.1,Cn.no_many2 hsv6 Cn.pre_dotQ hQ hS hj2 hz_.2.1,Ext.T (Ext.nw (Ext.L _ _) e_1) hz_.2.2⟩
  rintro v_13 w3 ⟨dv13,knv13,rfl,hov13,hqv13,hsv13,e3⟩;have z3:=e3.size;refine O.litG (G:=Dt.dotF) [dv13] U41 ti112 ts112 tz112 rfl (by decide) (by decide) rfl (λb14 w4 hb14 hz14 e4=>?_);have z4:=e4.size;have h14:=hz14.own;have hq14:=Sl.litG (n:=1) h14 rfl (by unfold maxLen;omega);have t0:=r1_1.kM e3 (λk hk h=>by have:=r1_1.bk_ge k hk;(try dsimp only at h);omega);refine O.appF (G:=Dt.dotF) U41 ti112 tz112 ts112 rfl s3_1 rfl (t0.L e4) hq14 (by rw[tb112];simp;omega) (by unfold maxLen;simp;omega) (by omega) (λv15 w5 h15 e5=>?_);have e5m:Ext (λj=>w.heap.size<=j) w4 w5:=e5.mono (λj _ hj=>by have:=(t0.L e4).bk_ge j hj;omega);have z5:=e5.size;have h15s:=h15.sl;refine O.j (O.o (K9 (K8 (C.region (O.mv (O.subU (m:=64) (b:=1#64) rfl rfl s4_1 rfl (O.j (O.o (⟨(ds++[dv13],v15,knv13),⟨rfl,(Eq.trans rfl (congrArg (λq:BitVec 64=>Value.int .u64 (q.toNat:Int)) (by rw[Cn.dec_ofNat (by omega) (by omega),List.length_append];rfl))),s0_1,s2_1,(Ext.nw (Ext.nw (Ext.nw (Ext.nw (Ext.L _ _) e_1) e3) e4) e5m),((hov13.L e4).kM e5 (by intro h;have:=(t0.L e4).bk_ge _ h;omega)),h15,?_⟩,by show nv6.toNat-(ds++[dv13]).length<nv6.toNat-ds.length;rw[List.length_append];show nv6.toNat-(ds.length+1)<_;omega⟩)))))))));exact ⟨by rw[List.length_append];exact hj2,Cn.manyQ_snoc hQ hqv13,Cn.Seg.snoc hS hsv13⟩
 have hj3:ds.length=nv6.toNat:=by have q:=mt (Cn.pos_ofNat (m:=nv6.toNat-ds.length) (by omega)).2 c8;omega
 refine C.exit (K5 (K3 (C.sr λK10=>O.mv (O.j (K10 (C.ret (Outs.one rfl s3_1 ?_)))))));exact ⟨ds,kc,r0_1,(r1_1).fre (λj hj=>by have:=(r1_1).bk_ge j hj;exact ⟨by omega,by omega⟩),by omega,hQ,Cn.seg_many hsv6 hS hj3,(Ext.nw (Ext.L _ _) e_1)⟩
theorem dseen_spec (b:Nat)(vr:Value)(l:List UInt8)(k:Nat)(F:Nat->Prop)(w:World)(ho:Own w b 234 [.bool true,vr,.int .i64 ((k:Int))])(hl:Sl byteE w F vr l)(hk:k<=l.length)(hF:∀j,F j->j≠b∧j<w.heap.size)(hL:l.length<=1000000):
 RetZ prog 246 #[.pointer (some ⟨b,0,none⟩)] w (λv w'=>∃(v1 v2:Value) (x:Cn.Ctx) (k':Nat),v=.agg #[v1,v2]∧Own w' b 234 [.bool true,vr,.int .i64 ((k':Int))]∧Fre Dt.dotF 112 w' (λj=>w.heap.size<=j∧j<w'.heap.size) v1 x.1∧Fre Dt.dotF 112 w' (λj=>w.heap.size<=j∧j<w'.heap.size) v2 x.2∧(x.1.length<=l.length∧x.2.length<=l.length)∧Cn.isCompact x=true∧Cn.Seg (Cn.ctxB x) l k k'∧Ext (λj=>j=b) w w') (λch w'=>ch=[{v:=.iface 282 (.agg #[]),recovered:=false}]∧Cn.No Cn.comp Cn.ctxB l k∧Ext (λj=>j=b) w w'):=by
 have _hF9:=hF;have _hk9:=hk;have hbl:=ho.lt;have hll:=hl.le;refine enterZ (args:=[.pointer (some ⟨b,0,none⟩)]) (n:=16) func246 rfl rfl (leB rfl) (C.sr λK1=>O.alloc zeroValue44 (λb2 w1 hb2 hz2 e1=>?_));have z1:=e1.size;have h2:=hz2.own;have hl2:=h2.lt;refine K1 (C.sr λK2=>O.mv (O.callZ call265 (args1 rfl) (ddots_spec b vr l k F _ (ho.L e1) (hl.L e1) hk (λj hj=>by have q1:=hF j hj;omega) hL) (λch_ wz_ hz_=>?_) ?_))
 ·
  exact ⟨hz_.1,Cn.no_comp (Cn.no_ctx1 hz_.2.1),Ext.T (Ext.nw (Ext.L _ _) e1) hz_.2.2⟩
 rintro v_5 w2 ⟨dsv5,knv5,hov5,hlv5,hnv5,hqv5,hsv5,e2⟩;have z2:=e2.size;obtain ⟨p5,rfl⟩:=hlv5.slv;have hls5:=hlv5.sl;refine O.build (cells:=#[slv p5,.slice none 0 0]) rfl (by kernel_rfl) (O.alloc zeroValue44 (λb3 w3 hb3 hz3 e3=>?_));have z3:=e3.size;have h3:=hz3.own;have hl3:=h3.lt;refine O.storeA (vs:=[slv p5,.slice none 0 0]) Z44 rfl rfl rfl (by simp[slv,Value.oneCell']) h3 (leB rfl) (λw4 hs4 e4 z4=>K2 (C.sr λK3=>O.mv (O.callZ call265 (args1 rfl) (ddots_spec b vr l knv5 F _ ((hov5.L e3).kO e4) ((((hl.L e1).keepA e2).L e3).keepA e4) hsv5.2.2 (λj hj=>by have q1:=hF j hj;omega) hL) (λch_ wz_ hz_=>?_) ?_)))
 ·
  exact ⟨hz_.1,Cn.no_comp (Cn.no_ctx2 hsv5 hqv5 hz_.2.1),Ext.T (Ext.nw (Ext.nw (Ext.nw (Ext.nw (Ext.L _ _) e1) e2) e3) e4) hz_.2.2⟩
 rintro v_8 w5 ⟨dsv8,knv8,hov8,hlv8,hnv8,hqv8,hsv8,e5⟩;have z5:=e5.size;obtain ⟨p8,rfl⟩:=hlv8.slv;have hls8:=hlv8.sl;refine O.fa U44 rfl Z41 rfl (O.store Z41 rfl rfl rfl (hs4.kO e5) (by simp) (λw6 hs6 e6 z6=>?_))
 try simp only[Nat.zero_add] at hs6
 refine K3 (C.sq λK4=>C.sr λK5=>O.loadOA isAgg44 Z44 rfl hs6 (leB rfl) (O.call call98 (args1 rfl) (isCompact_spec (slv p5) (slv p8) (dsv5,dsv8) (λ_=>True) _ ((((((hls5.L e3).keepA e4).keepA e5).keepA e6)).weak λ_ _=>trivial) (((hls8.keepA e6)).weak λ_ _=>trivial)) ?_));rintro v_11 w7 ⟨rfl,e7⟩;have z7:=e7.size;refine O.not rfl (K5 (C.cond rfl (λc12=>?_) (λc12=>?_)))
 ·
  refine C.region (O.build (cells:=#[]) rfl (by kernel_rfl) (O.mkI U282 rfl rfl (O.panics rfl ?_)));exact ⟨rfl,Cn.no_comp3 (Cn.seg_ctx hsv5 hsv8) ⟨hqv5,hqv8⟩ (by simpa using c12),(Ext.nw (Ext.nw (Ext.nw (Ext.nw (Ext.nw (Ext.nw (Ext.nw (Ext.L _ _) e1) e2) e3) e4) e5) e6) e7)⟩
 refine C.skip (K4 (C.sr λK6=>O.loadOA isAgg44 Z44 rfl (hs6.L e7) (leB rfl) (O.storeA (vs:=[slv p5,slv p8]) Z44 rfl rfl rfl (by simp[slv,Value.oneCell']) ((((((h2.kO e2).L e3).kO e4).kO e5).kO e6).L e7) (leB rfl) (λw8 hs8 e8 z8=>K6 (C.ret (Outs.cellA rfl isAgg44 Z44 rfl hs8 rfl ?_))))));exact ⟨slv p5,slv p8,(dsv5,dsv8),knv8,rfl,(((hov8.kO e6).L e7).kO e8),(((((((hlv5.L e3).keepA e4).keepA e5).keepA e6).L e7).keepA e8)).weakA,((((hlv8.keepA e6).L e7).keepA e8)).weakA,⟨hnv5,hnv8⟩,by simpa using c12,Cn.seg_ctx hsv5 hsv8,(Ext.nw (Ext.nw (Ext.nw (Ext.nw (Ext.nw (Ext.nw (Ext.nw (Ext.nw (Ext.L _ _) e1) e2) e3) e4) e5) e6) e7) e8)⟩
theorem ditem_spec (b:Nat)(vr:Value)(l:List UInt8)(k:Nat)(F:Nat->Prop)(w:World)(ho:Own w b 234 [.bool true,vr,.int .i64 ((k:Int))])(hl:Sl byteE w F vr l)(hk:k<=l.length)(hF:∀j,F j->j≠b∧j<w.heap.size)(hL:l.length<=1000000):
 RetZ prog 248 #[.pointer (some ⟨b,0,none⟩)] w (λv w'=>∃(s:List UInt8) (vm:Value) (ms:List MarkT) (k':Nat),v=.agg #[str s,vm]∧Own w' b 234 [.bool true,vr,.int .i64 ((k':Int))]∧Fre markF 114 w' (λj=>w.heap.size<=j∧j<w'.heap.size) vm ms∧ms.length<=l.length∧Cn.itemQ (s,ms)∧Cn.Seg (Cn.itemB (s,ms)) l k k'∧Ext (λj=>j=b) w w') (λch w'=>ch=[{v:=.iface 282 (.agg #[]),recovered:=false}]∧Cn.No Cn.itemQ Cn.itemB l k∧Ext (λj=>j=b) w w'):=by
 have _hF9:=hF;have _hk9:=hk;have hbl:=ho.lt;have hll:=hl.le;obtain ⟨ie114,ti114,ts114,tb114,tz114⟩:=inf114;refine enterZ (args:=[.pointer (some ⟨b,0,none⟩)]) (n:=40) func248 rfl rfl (leB rfl) (C.sr λK1=>O.alloc zeroValue117 (λb2 w1 hb2 hz2 e1=>?_));have z1:=e1.size;have h2:=hz2.own;have hl2:=h2.lt;refine K1 (C.sr λK2=>O.mv (O.call call130 (args2 rfl rfl) (rdStr_spec b vr l k F 64 _ (ho.L e1) (hl.L e1) hk (λj hj=>by have q1:=hF j hj;omega) hL (by unfold InI;omega)) ?_));rintro v_10 w2 ⟨nv10,env10,knv10,rfl,hov10,hcv10,e2⟩;have z2:=e2.size;refine O.mv (O.extract rfl rfl (O.extract rfl rfl (O.j (O.j (K2 (C.sr λK3=>O.mv (O.callZ call266 (args1 rfl) (must_spec _ _) (λch_ wz_ hz_=>?_) ?_)))))))
 ·
  rcases hcv10 with ⟨q1,_⟩|⟨q1,q2,q4⟩
  ·exact absurd q1 hz_.2.1
  ·exact ⟨hz_.1,Cn.no_item1 q4,Ext.T (Ext.nw (Ext.nw (Ext.L _ _) e1) e2) (Le.to hz_.2.2)⟩
 rintro v_14 w3 ⟨rfl,hzv14,e3⟩;have z3:=e3.size;obtain ⟨q1,hnm,hsg10⟩:env10=0∧Cn.nameQ nv10∧Cn.Seg (Cn.strB nv10) l k knv10:=by
  rcases hcv10 with ⟨q1,q2,q3⟩|⟨q1,_⟩
  ·exact ⟨q1,q2,q3⟩
  ·exfalso;omega
 refine K3 (C.sr λK4=>O.mv (O.build (cells:=#[str nv10,.slice none 0 0]) rfl (by kernel_rfl) (O.alloc zeroValue117 (λb5 w4 hb5 hz5 e4=>?_))));have z4:=e4.size;have h5:=hz5.own;have hl5:=h5.lt;refine O.storeA (vs:=[str nv10,.slice none 0 0]) Z117 rfl rfl rfl (ones2 rfl) h5 (leB rfl) (λw5 hs5 e5 z5=>K4 (C.sq λK5=>C.sr λK6=>O.mv (O.callZ call247 (args2 rfl rfl) (num_spec b vr l knv10 F 18446744073709551615#64 _ (((hov10.L e3).L e4).kO e5) (((((hl.L e1).keepA e2).L e3).L e4).keepA e5) hsg10.2.2 (λj hj=>by have q1:=hF j hj;omega) hL) (λch_ wz_ hz_=>?_) ?_)))
 ·
  exact ⟨hz_.1,Cn.no_item2 hsg10 hnm (Cn.no_many1 (Cn.numA_of hz_.2.1 (by decide)) Cn.markB_ge (by omega)),Ext.T (Ext.nw (Ext.nw (Ext.nw (Ext.nw (Ext.nw (Ext.L _ _) e1) e2) e3) e4) e5) hz_.2.2⟩
 rintro v_18 w6 ⟨nv18,knv18,rfl,hov18,hqv18,hsv18,e6⟩;have z6:=e6.size;refine O.j (K6 (C.bl λK7=>C.loop0 (σ:=List MarkT×Value×Nat) (λf0 w0 ⟨ms,vm,kc⟩ f wz=>f 6=.int .u64 ((BitVec.ofNat 64 (nv18.toNat-ms.length)).toNat:Int)∧f 0=f0 0∧f 2=f0 2∧f 5=f0 5∧Ext (λj=>j=b) w wz∧Own wz b 234 [.bool true,vr,.int .i64 ((kc:Int))]∧Own wz b2 117 [str [],.slice none 0 0]∧Own wz b5 117 [str nv10,vm]∧OwnF markF 114 (b5+1) wz vm ms∧ms.length<=nv18.toNat∧Cn.manyQ Cn.markQ ms∧Cn.Seg (ms.flatMap Cn.markB) l knv18 kc) (λ⟨ms,vm,kc⟩=>nv18.toNat-ms.length) ([],.slice none 0 0,knv18) ?_ ?_))
 ·
  refine ⟨(Eq.trans rfl (congrArg (λq:BitVec 64=>Value.int .u64 (q.toNat:Int)) (by simp))),rfl,rfl,rfl,(Ext.nw (Ext.nw (Ext.nw (Ext.nw (Ext.nw (Ext.nw (Ext.L _ _) e1) e2) e3) e4) e5) e6),hov18,(((((h2.kO e2).L e3).L e4).kO e5).kO e6),(hs5.kO e6),(OwnF.nil _ _ _ _),?_⟩;exact ⟨Nat.zero_le _,Cn.manyQ_nil,Cn.Seg.nil hsv18.2.2⟩
 rintro ⟨ms,vm,kc⟩ f_1 w7 ⟨s6_1,s0_1,s2_1,s5_1,e_1,r0_1,r1_1,r2_1,r3_1,⟨hj,hQ,hS⟩⟩;have z_1:=e_1.size;have r3_1s:=r3_1.sl;have hln:=Cn.seg_len Cn.markB_ge hS;have hNl:=nv18.isLt;have hvm1:=(r3_1).one;have hbl5:=(r2_1).lt;have hbl2:=(r1_1).lt;refine C.sq λK8=>C.sr λK9=>O.mv (O.gtrU (m:=64) (b:=0#64) s6_1 rfl (K9 (C.condD rfl (λc20=>?_) (λc20=>?_))))
 ·
  have hj2:ms.length<nv18.toNat:=by have q:=(Cn.pos_ofNat (m:=nv18.toNat-ms.length) (by omega)).1 c20;omega
  refine C.skip (K8 (C.sq λK10=>C.bl λK11=>C.sr λK12=>O.mv (O.callZ call267 (args1 s0_1) (one_spec b vr l kc F _ r0_1 (hl.keepA e_1) hS.2.2 (λj hj=>by have q1:=hF j hj;omega) hL) (λch_ wz_ hz_=>?_) ?_)))
  ·
   exact ⟨hz_.1,Cn.no_item2 hsg10 hnm (Cn.no_many2 hsv18 Cn.pre_markQ hQ hS hj2 (Cn.no_mark1 hz_.2.1)),Ext.T (Ext.nw (Ext.L _ _) e_1) hz_.2.2⟩
  rintro v_24 w8 ⟨dv24,knv24,rfl,hov24,hqv24,hsv24,e8⟩;have z8:=e8.size;refine O.build (cells:=#[.int .i64 dv24.1,.int .i64 dv24.2,.int .i64 0,.int .u64 0]) rfl (by kernel_rfl) (O.alloc zeroValue114 (λb7 w9 hb7 hz7 e9=>?_));have z9:=e9.size;have h7:=hz7.own;have hl7:=h7.lt;refine O.storeA (vs:=[.int .i64 dv24.1,.int .i64 dv24.2,.int .i64 0,.int .u64 0]) Z114 rfl rfl rfl (by simp[Value.oneCell']) h7 (leB rfl) (λw10 hs10 e10 z10=>K12 (C.sr λK13=>O.mv ?_));have t0:=((hl.keepA e_1).keepA e8).L e9;refine O.callZ call247 (args2 s0_1 rfl) (num_spec b vr l knv24 F 2147483647#64 _ ((hov24.L e9).kO e10) (t0.keepA e10) hsv24.2.2 (λj hj=>by have q1:=hF j hj;omega) hL) (λch_ wz_ hz_=>?_) ?_
  ·
   exact ⟨hz_.1,Cn.no_item2 hsg10 hnm (Cn.no_many2 hsv18 Cn.pre_markQ hQ hS hj2 (Cn.no_mark2 hsv24 hqv24 hz_.2.1)),Ext.T (Ext.nw (Ext.nw (Ext.nw (Ext.nw (Ext.L _ _) e_1) e8) e9) e10) hz_.2.2⟩
  rintro v_27 w11 ⟨nv27,knv27,rfl,hov27,hqv27,hsv27,e11⟩;have z11:=e11.size;refine O.convU64I U110 U3 rfl (O.fa U114 rfl Z3 rfl (O.store Z3 rfl rfl rfl (hs10.kO e11) (by simp) (λw12 hs12 e12 z12=>?_)))
  try simp only[Nat.zero_add] at hs12
  refine K13 (C.sr λK14=>O.mv (O.callZ call247 (args2 s0_1 rfl) (num_spec b vr l knv27 F 18446744073709551615#64 _ (hov27.kO e12) (((t0.keepA e10).keepA e11).keepA e12) hsv27.2.2 (λj hj=>by have q1:=hF j hj;omega) hL) (λch_ wz_ hz_=>?_) ?_))
  ·
   exact ⟨hz_.1,Cn.no_item2 hsg10 hnm (Cn.no_many2 hsv18 Cn.pre_markQ hQ hS hj2 (Cn.no_mark3 hsv24 hqv24 hsv27 hqv27 (Cn.numA_of hz_.2.1 (by decide)))),Ext.T (Ext.nw (Ext.nw (Ext.nw (Ext.nw (Ext.nw (Ext.nw (Ext.L _ _) e_1) e8) e9) e10) e11) e12) hz_.2.2⟩
  rintro v_31 w13 ⟨nv31,knv31,rfl,hov31,hqv31,hsv31,e13⟩;have z13:=e13.size;refine O.fa U114 rfl Z110 rfl (O.store Z110 rfl rfl rfl (hs12.kO e13) (by simp) (λw14 hs14 e14 z14=>?_))
  try simp only[Nat.zero_add] at hs14
  refine K14 (C.region (O.fa U117 rfl Z115 s5_1 (O.loadO isAgg115 rfl (((((((r2_1.kO e8).L e9).kO e10).kO e11).kO e12).kO e13).kO e14) rfl (O.loadOA isAgg114 Z114 rfl hs14 (leB rfl) (O.cast (v':=mv (dv24,nv27.toInt,nv31)) rfl (O.litG (G:=markF) [(dv24,nv27.toInt,nv31)] U115 ti114 ts114 tz114 rfl (by decide) (by decide) rfl (λb36 w15 hb36 hz36 e15=>?_)))))));have z15:=e15.size;have h36:=hz36.own;have hq36:=Sl.litG (n:=1) h36 rfl (by unfold maxLen;omega);have t1:=r3_1.kM e8 (λk hk h=>by have:=r3_1.bk_ge k hk;(try dsimp only at h);omega);have t2:=(t1.L e9).kM e10 (λk hk h=>by have:=r3_1.bk_ge k hk;(try dsimp only at h);omega);have t3:=t2.kM e11 (λk hk h=>by have:=r3_1.bk_ge k hk;(try dsimp only at h);omega);have t4:=t3.kM e12 (λk hk h=>by have:=r3_1.bk_ge k hk;(try dsimp only at h);omega);have t5:=t4.kM e13 (λk hk h=>by have:=r3_1.bk_ge k hk;(try dsimp only at h);omega);have t6:=t5.kM e14 (λk hk h=>by have:=r3_1.bk_ge k hk;(try dsimp only at h);omega);refine O.appF (G:=markF) U115 ti114 tz114 ts114 rfl rfl rfl (t6.L e15) hq36 (by rw[tb114];simp;omega) (by unfold maxLen;simp;omega) (by omega) (λv37 w16 h37 e16=>?_);have e16m:Ext (λj=>w.heap.size<=j) w15 w16:=e16.mono (λj _ hj=>by have:=(t6.L e15).bk_ge j hj;omega);have z16:=e16.size;have h37s:=h37.sl;refine O.fa U117 rfl Z115 s5_1 (O.store Z115 rfl rfl h37.one (((((((((r2_1.kO e8).L e9).kO e10).kO e11).kO e12).kO e13).kO e14).L e15).kM e16 (by intro h;have:=(t6.L e15).bk_ge _ h;omega)) (by simp) (λw17 hs17 e17 z17=>?_))
  try simp only[Nat.zero_add] at hs17
  refine O.o (K11 (K10 (C.region (O.mv (O.subU (m:=64) (b:=1#64) rfl rfl s6_1 rfl (O.j (O.o ?_)))))));refine ⟨(ms++[(dv24,nv27.toInt,nv31)],v37,knv31),⟨(Eq.trans rfl (congrArg (λq:BitVec 64=>Value.int .u64 (q.toNat:Int)) (by rw[Cn.dec_ofNat (by omega) (by omega),List.length_append];rfl))),s0_1,s2_1,s5_1,(Ext.nw (Ext.nw (Ext.nw (Ext.nw (Ext.nw (Ext.nw (Ext.nw (Ext.nw (Ext.nw (Ext.nw (Ext.nw (Ext.L _ _) e_1) e8) e9) e10) e11) e12) e13) e14) e15) e16m) e17),((((hov31.kO e14).L e15).kM e16 (by intro h;have:=(t6.L e15).bk_ge _ h;omega)).kO e17),((((((((((r1_1.kO e8).L e9).kO e10).kO e11).kO e12).kO e13).kO e14).L e15).kM e16 (by intro h;have:=(t6.L e15).bk_ge _ h;omega)).kO e17),hs17,(h37.kM e17 (λk hk h=>by have:=h37.bk_ge k hk;(try dsimp only at h);omega)),?_⟩,by show nv18.toNat-(ms++[_]).length<nv18.toNat-ms.length;rw[List.length_append];show nv18.toNat-(ms.length+1)<_;omega⟩;exact ⟨by rw[List.length_append];exact hj2,Cn.manyQ_snoc hQ (Cn.markQ_mk hqv24 hqv27),Cn.Seg.snoc hS (Cn.seg_mark hsv24 hsv27 hsv31)⟩
 have hj3:ms.length=nv18.toNat:=by have q:=mt (Cn.pos_ofNat (m:=nv18.toNat-ms.length) (by omega)).2 c20;omega
 refine C.exit (K7 (K5 (C.sr λK15=>O.loadOA isAgg117 Z117 s5_1 r2_1 (leB rfl) (O.storeA (vs:=[str nv10,vm]) Z117 rfl s2_1 rfl (ones2 hvm1) r1_1 (leB rfl) (λw18 hs18 e18 z18=>K15 (C.ret (Outs.cellA rfl isAgg117 Z117 s2_1 hs18 rfl ?_)))))));have t7:=r3_1.kM e18 (λk hk h=>by have:=r3_1.bk_ge k hk;(try dsimp only at h);omega);exact ⟨nv10,vm,ms,kc,rfl,(r0_1.kO e18),(t7).fre (λj hj=>by have:=(t7).bk_ge j hj;exact ⟨by omega,by omega⟩),by omega,Cn.itemQ_mk hnm hQ,Cn.seg_item hsg10 (Cn.seg_many hsv18 hS hj3),(Ext.nw (Ext.nw (Ext.L _ _) e_1) e18)⟩
theorem dwhole_spec (b:Nat)(vr:Value)(l:List UInt8)(k:Nat)(F:Nat->Prop)(w:World)(ho:Own w b 234 [.bool true,vr,.int .i64 ((k:Int))])(hl:Sl byteE w F vr l)(hk:k<=l.length)(hF:∀j,F j->j≠b∧j<w.heap.size)(hL:l.length<=1000000)(mx:Mx w)(hgb:b≠0):
 RetZ prog 195 #[.pointer (some ⟨b,0,none⟩)] w (λv w'=>∃(v1 v2 v3:Value) (c:Cn.Cart) (k':Nat),v=.agg #[v1,v2,v3]∧Own w' b 234 [.bool true,vr,.int .i64 ((k':Int))]∧Fre Dt.dotF 112 w' (λj=>w.heap.size<=j∧j<w'.heap.size) v1 c.1.1∧Fre Dt.dotF 112 w' (λj=>w.heap.size<=j∧j<w'.heap.size) v2 c.1.2∧SlI 117 114 w' (λj=>w.heap.size<=j∧j<w'.heap.size) v3 c.2∧Cn.big c∧Cn.valid c=true∧Cn.Seg (Cn.bytes c) l k k'∧Ext (λj=>j=b) w w') (λch w'=>ch=[{v:=.iface 282 (.agg #[]),recovered:=false}]∧Cn.No Cn.val Cn.bytes l k∧Ext (λj=>j=b) w w'):=by
 have _hF9:=hF;have _hk9:=hk;have hbl:=ho.lt;have hll:=hl.le;obtain ⟨ie117,ti117,ts117,tb117,tz117⟩:=inf117;have hgl:=mx.lt;refine enterZ (args:=[.pointer (some ⟨b,0,none⟩)]) (n:=27) func195 rfl rfl (leB rfl) (C.sr λK1=>O.alloc zeroValue47 (λb2 w1 hb2 hz2 e1=>?_));have z1:=e1.size;have h2:=hz2.own;have hl2:=h2.lt;refine K1 (C.sr λK2=>O.mv (O.callZ call246 (args1 rfl) (dseen_spec b vr l k F _ (ho.L e1) (hl.L e1) hk (λj hj=>by have q1:=hF j hj;omega) hL) (λch_ wz_ hz_=>?_) ?_))
 ·
  exact ⟨hz_.1,Cn.no_val (Cn.no_cart1 hz_.2.1),Ext.T (Ext.nw (Ext.L _ _) e1) hz_.2.2⟩
 rintro v_6 w2 ⟨vav6,vbv6,xv6,knv6,rfl,hov6,hxv6,hyv6,hnv6,hcv6,hsv6,e2⟩;have z2:=e2.size;obtain ⟨p6,rfl⟩:=hxv6.slv;obtain ⟨q6,rfl⟩:=hyv6.slv;have hxs6:=hxv6.sl;have hys6:=hyv6.sl;refine O.build (cells:=#[slv p6,slv q6,.slice none 0 0]) rfl (by kernel_rfl) (O.alloc zeroValue47 (λb3 w3 hb3 hz3 e3=>?_));have z3:=e3.size;have h3:=hz3.own;have hl3:=h3.lt;refine O.storeA (vs:=[slv p6,slv q6,.slice none 0 0]) Z47 rfl rfl rfl (by simp[slv,Value.oneCell']) h3 (leB rfl) (λw4 hs4 e4 z4=>K2 (C.sq λK3=>C.sr λK4=>O.mv (O.callZ call247 (args2 rfl rfl) (num_spec b vr l knv6 F 18446744073709551615#64 _ ((hov6.L e3).kO e4) ((((hl.L e1).keepA e2).L e3).keepA e4) hsv6.2.2 (λj hj=>by have q1:=hF j hj;omega) hL) (λch_ wz_ hz_=>?_) ?_)))
 ·
  exact ⟨hz_.1,Cn.no_val (Cn.no_cart2 hsv6 hcv6 (Cn.no_many1 (Cn.numA_of hz_.2.1 (by decide)) Cn.itemB_ge (by omega))),Ext.T (Ext.nw (Ext.nw (Ext.nw (Ext.nw (Ext.L _ _) e1) e2) e3) e4) hz_.2.2⟩
 rintro v_9 w5 ⟨nv9,knv9,rfl,hov9,hqv9,hsv9,e5⟩;have z5:=e5.size;refine O.j (K4 (C.bl λK5=>?_));refine C.loop0 (σ:=List ItemT×List (List UInt8×(Option Addr×Nat×Nat))×Value×Nat) (λf0 w0 ⟨its,raw,o,kc⟩ f wz=>f 4=.int .u64 ((BitVec.ofNat 64 (nv9.toNat-its.length)).toNat:Int)∧f 0=f0 0∧f 2=f0 2∧f 3=f0 3∧Ext (λj=>j=b) w wz∧Own wz b 234 [.bool true,vr,.int .i64 ((kc:Int))]∧Own wz b2 47 [.slice none 0 0,.slice none 0 0,.slice none 0 0]∧Own wz b3 47 [slv p6,slv q6,o]∧OwnF itemF 117 (b3+1) wz o raw∧ItemsF 114 wz (λj=>b3<j∧j<wz.heap.size∧¬bk o j) raw its∧Sl Dt.dotF.enc wz (λj=>b2<j∧j<b3) (slv p6) xv6.1∧Sl Dt.dotF.enc wz (λj=>b2<j∧j<b3) (slv q6) xv6.2∧Fre Dt.dotF 112 wz (λj=>b2<j∧j<b3) (slv p6) xv6.1∧Fre Dt.dotF 112 wz (λj=>b2<j∧j<b3) (slv q6) xv6.2∧its.length<=nv9.toNat∧Cn.manyQ Cn.itemQ its∧(∀x∈its,x.2.length<=1000000)∧Cn.Seg (its.flatMap Cn.itemB) l knv9 kc) (λ⟨its,raw,o,kc⟩=>nv9.toNat-its.length) ([],[],.slice none 0 0,knv9) ?_ ?_
 ·
  refine ⟨(Eq.trans rfl (congrArg (λq:BitVec 64=>Value.int .u64 (q.toNat:Int)) (by simp))),rfl,rfl,rfl,(Ext.nw (Ext.nw (Ext.nw (Ext.nw (Ext.nw (Ext.L _ _) e1) e2) e3) e4) e5),hov9,((((h2.kO e2).L e3).kO e4).kO e5),(hs4.kO e5),(OwnF.nil _ _ _ _),ItemsF.nil,(((((hxs6.L e3).keepA e4).keepA e5)).weakA),(((((hys6.L e3).keepA e4).keepA e5)).weakA),(((((hxv6.L e3).keepA e4).keepA e5)).weakA),(((((hyv6.L e3).keepA e4).keepA e5)).weakA),?_⟩;exact ⟨Nat.zero_le _,Cn.manyQ_nil,Cn.manyQ_nil,Cn.Seg.nil hsv9.2.2⟩
 rintro ⟨its,raw,o,kc⟩ f_1 w6 ⟨s4_1,s0_1,s2_1,s3_1,e_1,r0_1,r1_1,r2_1,r3_1,r4_1,r5_1,r6_1,r7_1,r8_1,⟨hj,hQ,hI,hS⟩⟩;have z_1:=e_1.size;have r3_1s:=r3_1.sl;obtain ⟨wL,hwL⟩:∃x,x=w6:=⟨_,rfl⟩
 have hzL:wL.heap.size=w6.heap.size:=by rw[hwL]
 have hln:=Cn.seg_len Cn.itemB_ge hS;have hNl:=nv9.isLt;have ho1:=(r3_1).one;have hbl3:=(r2_1).lt;have hbl2:=(r1_1).lt;have hit:=r4_1;have hitl:=hit.1;have hob:=(r3_1).bk_ge;refine C.sq λK6=>C.sr λK7=>O.mv (O.gtrU (m:=64) (b:=0#64) s4_1 rfl (K7 (C.condD rfl (λc11=>?_) (λc11=>?_))))
 ·
  have hj2:its.length<nv9.toNat:=by have q:=(Cn.pos_ofNat (m:=nv9.toNat-its.length) (by omega)).1 c11;omega
  refine C.skip (K6 (C.sq λK8=>C.bl λK9=>C.drawB (wB:=(bare w6)) (by kernel_rfl) λw7 e7=>?_));have z7:=e7.size;refine D.t 0 rfl (Ext.bare (Ext.nt (Ext.L (λ_=>True) _) e7)) (λ_ _ _ hN=>O.fa U47 rfl Z45 s3_1 (O.o hN)) (D.mv 2 rfl (Ext.bare (Ext.nt (Ext.L (λ_=>True) _) e7)) (D.many [1,3] (by kernel_rfl) (by decide) ⟨?_,?_,trivial⟩))
  ·
   refine D.stepU rfl rfl (O.loadO isAgg45 rfl (r2_1.L e7) rfl (O.o ⟨(Ext.bare (Ext.nt (Ext.L (λ_=>True) _) e7)),D.on 3 rfl rfl (O.callZ call248 (args1 s0_1) (ditem_spec b vr l kc F _ (r0_1.L e7) ((hl.keepA e_1).L e7) hS.2.2 (λj hj=>by have q1:=hF j hj;omega) hL) (λch_ wz_ hz_=>?_) ?_)⟩))
   ·
    exact ⟨hz_.1,Cn.no_val (Cn.no_cart2 hsv6 hcv6 (Cn.no_many2 hsv9 Cn.pre_itemQ hQ hS hj2 hz_.2.1)),Ext.T (Ext.nw (Ext.nw (Ext.L _ _) e_1) e7) hz_.2.2⟩
   rintro v_17 w8 ⟨sv17,vmv17,msv17,knv17,rfl,hov17,hmv17,hnv17,hqv17,hsv17,e8⟩;have z8:=e8.size;refine O.o ⟨(Ext.bare (Ext.nt (Ext.nt (Ext.L (λ_=>True) _) e7) e8)),?_⟩;obtain ⟨p17,rfl⟩:=hmv17.slv;refine D.on 4 rfl rfl (O.litG (G:=itemF) [(sv17,p17)] U45 ti117 ts117 tz117 rfl (by decide) (by decide) rfl (λb18 w9 hb18 hz18 e9=>?_));have z9:=e9.size;have h18:=hz18.own;have hq18:=Sl.litG (n:=1) h18 rfl (by unfold maxLen;omega);refine O.o ⟨(Ext.bare (Ext.nt (Ext.nt (Ext.nt (Ext.L (λ_=>True) _) e7) e8) e9)),D.on 5 rfl rfl ?_⟩;have t0:=(r3_1.L e7).kM e8 (λk hk h=>by have:=r3_1.bk_ge k hk;(try dsimp only at h);omega);refine O.appW (G:=itemF) U45 ti117 tz117 ts117 rfl rfl rfl (t0.L e9) hq18 (by rw[tb117,hit.1];simp;omega) (by unfold maxLen;rw[hit.1];simp;omega) (by omega) (λv19 w10 h19 e10 hw19=>?_);have e10m:Ext (λj=>w.heap.size<=j) w9 w10:=e10.mono (λj _ hj=>by have:=(t0.L e9).bk_ge j hj;omega);have z10:=e10.size;have h19s:=h19.sl;refine O.o ⟨(Ext.bare (Ext.nt (Ext.nt (Ext.nt (Ext.nt (Ext.L (λ_=>True) _) e7) e8) e9) e10)),?_⟩;have hit19:ItemsF 114 w10 (λj=>b3<j∧j<w10.heap.size∧¬bk v19 j) (raw++[(sv17,p17)]) (its++[(sv17,msv17)]):=((((((r4_1.L e7).keepA e8).L e9).kM e10 (λj hj h=>hj.2.2 h))).weak (λj hj=>⟨hj.1,by have:=hj.2.1;omega,λhq=>by
    rcases hw19 j hq with q|q
    ·exact hj.2.2 q
    ·have:=hj.2.1;omega⟩)).snoc (x:=(sv17,msv17)) rfl ((((hmv17.L e9).kM e10 (by intro j hj h;have q2:=hob j h;(try dsimp only at hj);omega))).weak (by
 intro j hj
 (try dsimp only at hj)
 refine ⟨by omega,by omega,λhq=>?_⟩;rcases hw19 j hq with q|q
 ·have:=hob j q;omega
 ·omega))
   refine D.t 6 rfl (Ext.bare (Ext.nt (Ext.nt (Ext.nt (Ext.nt (Ext.L (λ_=>True) _) e7) e8) e9) e10)) (λ_ _ _ hN=>O.fa U47 rfl Z45 s3_1 (O.o hN)) (D.on 7 rfl rfl (O.store Z45 rfl rfl h19.one ((((r2_1.L e7).kO e8).L e9).kM e10 (by intro h;have:=(t0.L e9).bk_ge _ h;omega)) (by simp) (λw11 hs11 e11 z11=>?_)))
   try simp only[Nat.zero_add] at hs11
   refine O.o ⟨(Ext.bare (Ext.nt (Ext.nt (Ext.nt (Ext.nt (Ext.nt (Ext.L (λ_=>True) _) e7) e8) e9) e10) e11)),D.dn (K9 (K8 (C.region (O.mv (O.subU (m:=64) (b:=1#64) rfl rfl s4_1 rfl (O.j (O.o ?_)))))))⟩;refine ⟨(its++[(sv17,msv17)],raw++[(sv17,p17)],v19,knv17),⟨(Eq.trans rfl (congrArg (λq:BitVec 64=>Value.int .u64 (q.toNat:Int)) (by rw[Cn.dec_ofNat (by omega) (by omega),List.length_append];rfl))),s0_1,s2_1,s3_1,(Ext.nw (Ext.nw (Ext.nw (Ext.nw (Ext.nw (Ext.nw (Ext.L _ _) e_1) e7) e8) e9) e10m) e11),(((hov17.L e9).kM e10 (by intro h;have:=(t0.L e9).bk_ge _ h;omega)).kO e11),(((((r1_1.L e7).kO e8).L e9).kM e10 (by intro h;have:=(t0.L e9).bk_ge _ h;omega)).kO e11),hs11,(h19.kM e11 (λk hk h=>by have:=h19.bk_ge k hk;(try dsimp only at h);omega)),(((hit19.keepA e11)).weak (λj hj=>⟨hj.1,by have:=hj.2.1;omega,hj.2.2⟩)),(((((r5_1.L e7).keepA e8).L e9).kM e10 (by intro j hj h;have q2:=(t0.L e9).bk_ge j h;first|(have q1:=hF j hj;omega)|((try dsimp only at hj);omega))).keepA e11),(((((r6_1.L e7).keepA e8).L e9).kM e10 (by intro j hj h;have q2:=(t0.L e9).bk_ge j h;first|(have q1:=hF j hj;omega)|((try dsimp only at hj);omega))).keepA e11),(((((r7_1.L e7).keepA e8).L e9).kM e10 (by intro j hj h;have q2:=(t0.L e9).bk_ge j h;first|(have q1:=hF j hj;omega)|((try dsimp only at hj);omega))).keepA e11),(((((r8_1.L e7).keepA e8).L e9).kM e10 (by intro j hj h;have q2:=(t0.L e9).bk_ge j h;first|(have q1:=hF j hj;omega)|((try dsimp only at hj);omega))).keepA e11),?_⟩,by show nv9.toNat-(its++[_]).length<nv9.toNat-its.length;rw[List.length_append];show nv9.toNat-(its.length+1)<_;omega⟩;exact ⟨by rw[List.length_append];exact hj2,Cn.manyQ_snoc hQ hqv17,Cn.manyQ_snoc hI (by show msv17.length<=1000000;omega),Cn.Seg.snoc hS hsv17⟩
  refine D.stepU rfl rfl (O.callZ call248 (args1 s0_1) (ditem_spec b vr l kc F _ (r0_1.L e7) ((hl.keepA e_1).L e7) hS.2.2 (λj hj=>by have q1:=hF j hj;omega) hL) (λch_ wz_ hz_=>?_) ?_)
  ·
   exact ⟨hz_.1,Cn.no_val (Cn.no_cart2 hsv6 hcv6 (Cn.no_many2 hsv9 Cn.pre_itemQ hQ hS hj2 hz_.2.1)),Ext.T (Ext.nw (Ext.nw (Ext.L _ _) e_1) e7) hz_.2.2⟩
  rintro v_17 w12 ⟨sv17,vmv17,msv17,knv17,rfl,hov17,hmv17,hnv17,hqv17,hsv17,e12⟩;have z12:=e12.size;refine O.o ⟨(Ext.bare (Ext.nt (Ext.nt (Ext.L (λ_=>True) _) e7) e12)),?_⟩;obtain ⟨p17,rfl⟩:=hmv17.slv;refine D.many [1,4] (by kernel_rfl) (by decide) ⟨?_,?_,trivial⟩
  ·
   refine D.stepU rfl rfl (O.loadO isAgg45 rfl ((r2_1.L e7).kO e12) rfl (O.o ⟨(Ext.bare (Ext.nt (Ext.nt (Ext.L (λ_=>True) _) e7) e12)),D.on 4 rfl rfl (O.litG (G:=itemF) [(sv17,p17)] U45 ti117 ts117 tz117 rfl (by decide) (by decide) rfl (λb18 w13 hb18 hz18 e13=>?_))⟩));have z13:=e13.size;have h18:=hz18.own;have hq18:=Sl.litG (n:=1) h18 rfl (by unfold maxLen;omega);refine O.o ⟨(Ext.bare (Ext.nt (Ext.nt (Ext.nt (Ext.L (λ_=>True) _) e7) e12) e13)),D.on 5 rfl rfl ?_⟩;have t1:=(r3_1.L e7).kM e12 (λk hk h=>by have:=r3_1.bk_ge k hk;(try dsimp only at h);omega);refine O.appW (G:=itemF) U45 ti117 tz117 ts117 rfl rfl rfl (t1.L e13) hq18 (by rw[tb117,hit.1];simp;omega) (by unfold maxLen;rw[hit.1];simp;omega) (by omega) (λv19 w14 h19 e14 hw19=>?_);have e14m:Ext (λj=>w.heap.size<=j) w13 w14:=e14.mono (λj _ hj=>by have:=(t1.L e13).bk_ge j hj;omega);have z14:=e14.size;have h19s:=h19.sl;refine O.o ⟨(Ext.bare (Ext.nt (Ext.nt (Ext.nt (Ext.nt (Ext.L (λ_=>True) _) e7) e12) e13) e14)),?_⟩;have hit19:ItemsF 114 w14 (λj=>b3<j∧j<w14.heap.size∧¬bk v19 j) (raw++[(sv17,p17)]) (its++[(sv17,msv17)]):=((((((r4_1.L e7).keepA e12).L e13).kM e14 (λj hj h=>hj.2.2 h))).weak (λj hj=>⟨hj.1,by have:=hj.2.1;omega,λhq=>by
    rcases hw19 j hq with q|q
    ·exact hj.2.2 q
    ·have:=hj.2.1;omega⟩)).snoc (x:=(sv17,msv17)) rfl ((((hmv17.L e13).kM e14 (by intro j hj h;have q2:=hob j h;(try dsimp only at hj);omega))).weak (by
 intro j hj
 (try dsimp only at hj)
 refine ⟨by omega,by omega,λhq=>?_⟩;rcases hw19 j hq with q|q
 ·have:=hob j q;omega
 ·omega))
   refine D.t 6 rfl (Ext.bare (Ext.nt (Ext.nt (Ext.nt (Ext.nt (Ext.L (λ_=>True) _) e7) e12) e13) e14)) (λ_ _ _ hN=>O.fa U47 rfl Z45 s3_1 (O.o hN)) (D.on 7 rfl rfl (O.store Z45 rfl rfl h19.one ((((r2_1.L e7).kO e12).L e13).kM e14 (by intro h;have:=(t1.L e13).bk_ge _ h;omega)) (by simp) (λw15 hs15 e15 z15=>?_)))
   try simp only[Nat.zero_add] at hs15
   refine O.o ⟨(Ext.bare (Ext.nt (Ext.nt (Ext.nt (Ext.nt (Ext.nt (Ext.L (λ_=>True) _) e7) e12) e13) e14) e15)),D.dn (K9 (K8 (C.region (O.mv (O.subU (m:=64) (b:=1#64) rfl rfl s4_1 rfl (O.j (O.o ?_)))))))⟩;refine ⟨(its++[(sv17,msv17)],raw++[(sv17,p17)],v19,knv17),⟨(Eq.trans rfl (congrArg (λq:BitVec 64=>Value.int .u64 (q.toNat:Int)) (by rw[Cn.dec_ofNat (by omega) (by omega),List.length_append];rfl))),s0_1,s2_1,s3_1,(Ext.nw (Ext.nw (Ext.nw (Ext.nw (Ext.nw (Ext.nw (Ext.L _ _) e_1) e7) e12) e13) e14m) e15),(((hov17.L e13).kM e14 (by intro h;have:=(t1.L e13).bk_ge _ h;omega)).kO e15),(((((r1_1.L e7).kO e12).L e13).kM e14 (by intro h;have:=(t1.L e13).bk_ge _ h;omega)).kO e15),hs15,(h19.kM e15 (λk hk h=>by have:=h19.bk_ge k hk;(try dsimp only at h);omega)),(((hit19.keepA e15)).weak (λj hj=>⟨hj.1,by have:=hj.2.1;omega,hj.2.2⟩)),(((((r5_1.L e7).keepA e12).L e13).kM e14 (by intro j hj h;have q2:=(t1.L e13).bk_ge j h;first|(have q1:=hF j hj;omega)|((try dsimp only at hj);omega))).keepA e15),(((((r6_1.L e7).keepA e12).L e13).kM e14 (by intro j hj h;have q2:=(t1.L e13).bk_ge j h;first|(have q1:=hF j hj;omega)|((try dsimp only at hj);omega))).keepA e15),(((((r7_1.L e7).keepA e12).L e13).kM e14 (by intro j hj h;have q2:=(t1.L e13).bk_ge j h;first|(have q1:=hF j hj;omega)|((try dsimp only at hj);omega))).keepA e15),(((((r8_1.L e7).keepA e12).L e13).kM e14 (by intro j hj h;have q2:=(t1.L e13).bk_ge j h;first|(have q1:=hF j hj;omega)|((try dsimp only at hj);omega))).keepA e15),?_⟩,by show nv9.toNat-(its++[_]).length<nv9.toNat-its.length;rw[List.length_append];show nv9.toNat-(its.length+1)<_;omega⟩;exact ⟨by rw[List.length_append];exact hj2,Cn.manyQ_snoc hQ hqv17,Cn.manyQ_snoc hI (by show msv17.length<=1000000;omega),Cn.Seg.snoc hS hsv17⟩
  refine D.stepU rfl rfl (O.litG (G:=itemF) [(sv17,p17)] U45 ti117 ts117 tz117 rfl (by decide) (by decide) rfl (λb18 w16 hb18 hz18 e16=>?_));have z16:=e16.size;have h18:=hz18.own;have hq18:=Sl.litG (n:=1) h18 rfl (by unfold maxLen;omega);refine O.o ⟨(Ext.bare (Ext.nt (Ext.nt (Ext.nt (Ext.L (λ_=>True) _) e7) e12) e16)),D.on 1 rfl rfl ?_⟩;have t2:=((r2_1.L e7).kO e12).L e16;refine O.loadO isAgg45 rfl t2 rfl (O.o ⟨(Ext.bare (Ext.nt (Ext.nt (Ext.nt (Ext.L (λ_=>True) _) e7) e12) e16)),D.on 5 rfl rfl ?_⟩);have t3:=(r3_1.L e7).kM e12 (λk hk h=>by have:=r3_1.bk_ge k hk;(try dsimp only at h);omega);refine O.appW (G:=itemF) U45 ti117 tz117 ts117 rfl rfl rfl (t3.L e16) hq18 (by rw[tb117,hit.1];simp;omega) (by unfold maxLen;rw[hit.1];simp;omega) (by omega) (λv19 w17 h19 e17 hw19=>?_);have e17m:Ext (λj=>w.heap.size<=j) w16 w17:=e17.mono (λj _ hj=>by have:=(t3.L e16).bk_ge j hj;omega);have z17:=e17.size;have h19s:=h19.sl;refine O.o ⟨(Ext.bare (Ext.nt (Ext.nt (Ext.nt (Ext.nt (Ext.L (λ_=>True) _) e7) e12) e16) e17)),?_⟩;have hit19:ItemsF 114 w17 (λj=>b3<j∧j<w17.heap.size∧¬bk v19 j) (raw++[(sv17,p17)]) (its++[(sv17,msv17)]):=((((((r4_1.L e7).keepA e12).L e16).kM e17 (λj hj h=>hj.2.2 h))).weak (λj hj=>⟨hj.1,by have:=hj.2.1;omega,λhq=>by
   rcases hw19 j hq with q|q
   ·exact hj.2.2 q
   ·have:=hj.2.1;omega⟩)).snoc (x:=(sv17,msv17)) rfl ((((hmv17.L e16).kM e17 (by intro j hj h;have q2:=hob j h;(try dsimp only at hj);omega))).weak (by
 intro j hj
 (try dsimp only at hj)
 refine ⟨by omega,by omega,λhq=>?_⟩;rcases hw19 j hq with q|q
 ·have:=hob j q;omega
 ·omega))
  refine D.t 6 rfl (Ext.bare (Ext.nt (Ext.nt (Ext.nt (Ext.nt (Ext.L (λ_=>True) _) e7) e12) e16) e17)) (λ_ _ _ hN=>O.fa U47 rfl Z45 s3_1 (O.o hN)) (D.on 7 rfl rfl (O.store Z45 rfl rfl h19.one (t2.kM e17 (by intro h;have:=(t3.L e16).bk_ge _ h;omega)) (by simp) (λw18 hs18 e18 z18=>?_)))
  try simp only[Nat.zero_add] at hs18
  refine O.o ⟨(Ext.bare (Ext.nt (Ext.nt (Ext.nt (Ext.nt (Ext.nt (Ext.L (λ_=>True) _) e7) e12) e16) e17) e18)),D.dn (K9 (K8 (C.region (O.mv (O.subU (m:=64) (b:=1#64) rfl rfl s4_1 rfl (O.j (O.o ?_)))))))⟩;refine ⟨(its++[(sv17,msv17)],raw++[(sv17,p17)],v19,knv17),⟨(Eq.trans rfl (congrArg (λq:BitVec 64=>Value.int .u64 (q.toNat:Int)) (by rw[Cn.dec_ofNat (by omega) (by omega),List.length_append];rfl))),s0_1,s2_1,s3_1,(Ext.nw (Ext.nw (Ext.nw (Ext.nw (Ext.nw (Ext.nw (Ext.L _ _) e_1) e7) e12) e16) e17m) e18),(((hov17.L e16).kM e17 (by intro h;have:=(t3.L e16).bk_ge _ h;omega)).kO e18),(((((r1_1.L e7).kO e12).L e16).kM e17 (by intro h;have:=(t3.L e16).bk_ge _ h;omega)).kO e18),hs18,(h19.kM e18 (λk hk h=>by have:=h19.bk_ge k hk;(try dsimp only at h);omega)),(((hit19.keepA e18)).weak (λj hj=>⟨hj.1,by have:=hj.2.1;omega,hj.2.2⟩)),(((((r5_1.L e7).keepA e12).L e16).kM e17 (by intro j hj h;have q2:=(t3.L e16).bk_ge j h;first|(have q1:=hF j hj;omega)|((try dsimp only at hj);omega))).keepA e18),(((((r6_1.L e7).keepA e12).L e16).kM e17 (by intro j hj h;have q2:=(t3.L e16).bk_ge j h;first|(have q1:=hF j hj;omega)|((try dsimp only at hj);omega))).keepA e18),(((((r7_1.L e7).keepA e12).L e16).kM e17 (by intro j hj h;have q2:=(t3.L e16).bk_ge j h;first|(have q1:=hF j hj;omega)|((try dsimp only at hj);omega))).keepA e18),(((((r8_1.L e7).keepA e12).L e16).kM e17 (by intro j hj h;have q2:=(t3.L e16).bk_ge j h;first|(have q1:=hF j hj;omega)|((try dsimp only at hj);omega))).keepA e18),?_⟩,by show nv9.toNat-(its++[_]).length<nv9.toNat-its.length;rw[List.length_append];show nv9.toNat-(its.length+1)<_;omega⟩;exact ⟨by rw[List.length_append];exact hj2,Cn.manyQ_snoc hQ hqv17,Cn.manyQ_snoc hI (by show msv17.length<=1000000;omega),Cn.Seg.snoc hS hsv17⟩
 have hj3:its.length=nv9.toNat:=by have q:=mt (Cn.pos_ofNat (m:=nv9.toNat-its.length) (by omega)).2 c11;omega
 obtain ⟨wq,hwq⟩:∃x,x=w6:=⟨_,rfl⟩
 have hzq:wq.heap.size=w6.heap.size:=by rw[hwq]
 have hsa1:Sl Dt.dotF.enc w6 (λj=>j<wq.heap.size) (slv p6) xv6.1:=(r5_1).weak (by intro j hj;have q:=hj.2;show j<wq.heap.size;omega);have hsa2:Sl Dt.dotF.enc w6 (λj=>j<wq.heap.size) (slv q6) xv6.2:=(r6_1).weak (by intro j hj;have q:=hj.2;show j<wq.heap.size;omega);have hsi:Sl itemE w6 (λj=>b3<j∧j<wq.heap.size) o its:=(hit.weak (by intro j hj;have q1:=hj.1;have q:=hj.2.1;show b3<j∧j<wq.heap.size;omega)).items.sl ((r3_1).sl.weak (by intro j hj;have q:=hob j hj;show b3<j∧j<wq.heap.size;omega));have hsa3:Sl itemE w6 (λj=>j<wq.heap.size) o its:=hsi.weak λj hj=>hj.2
 have hsI:SlI 117 114 w6 (λj=>b3<j∧j<wq.heap.size) o its:=⟨raw,(r3_1).fre (by intro j hj;have q:=hob j hj;show b3<j∧j<wq.heap.size;omega),hit.weak (by intro j hj;have q1:=hj.1;have q:=hj.2.1;show b3<j∧j<wq.heap.size;omega)⟩
 refine C.exit (K5 (K3 (C.sq λK10=>C.sr λK11=>O.loadOA isAgg47 Z47 s3_1 r2_1 (leB rfl) (O.call call61 (args1 rfl) (cartValid_spec (slv p6) (slv q6) o (xv6,its) (λj=>j<wq.heap.size) _ hsa1 hsa2 hsa3 (λj hj=>by have hj:j<wq.heap.size:=hj;omega) (by show its.length<=1000000;omega) (λx hx=>⟨by have:=(hQ x hx).1;omega,hI x hx⟩) (mx.kM e_1 (λh=>hgb h.symm))) ?_))));rintro v_22 w19 ⟨rfl,e19⟩;have z19:=e19.size;refine O.not rfl (K11 (C.cond rfl (λc23=>?_) (λc23=>?_)))
 ·
  refine C.region (O.build (cells:=#[]) rfl (by kernel_rfl) (O.mkI U282 rfl rfl (O.panics rfl ?_)));exact ⟨rfl,Cn.no_val3 (Cn.seg_cart hsv6 (Cn.seg_many hsv9 hS hj3)) ⟨hcv6,hQ⟩ (by simpa using c23),(Ext.nw (Ext.nw (Ext.L _ _) e_1) e19)⟩
 refine C.skip (K10 (C.sr λK12=>O.loadOA isAgg47 Z47 s3_1 (r2_1.L e19) (leB rfl) (O.storeA (vs:=[slv p6,slv q6,o]) Z47 rfl s2_1 rfl (by have q9:=ho1;intro u hu;simp only[List.mem_cons,List.not_mem_nil,or_false] at hu;rcases hu with rfl|rfl|rfl<;>first|rfl|exact q9) (r1_1.L e19) (leB rfl) (λw20 hs20 e20 z20=>K12 (C.ret (Outs.cellA rfl isAgg47 Z47 s2_1 hs20 rfl ?_))))));exact ⟨slv p6,slv q6,o,(xv6,its),kc,rfl,((r0_1.L e19).kO e20),(((r7_1.L e19).keepA e20)).weakA,(((r8_1.L e19).keepA e20)).weakA,(((hsI.L e19).keepA e20)).weakA,⟨by have:=hnv6.1;show xv6.1.length<=1000000;omega,by have:=hnv6.2;show xv6.2.length<=1000000;omega,by show its.length<=1000000;omega,λx hx=>⟨by have:=(hQ x hx).1;omega,hI x hx⟩⟩,by simpa using c23,Cn.seg_cart hsv6 (Cn.seg_many hsv9 hS hj3),(Ext.nw (Ext.nw (Ext.nw (Ext.L _ _) e_1) e19) e20)⟩
theorem caught_idle (v:Value)(w:World):CallsD prog 194 #[v] .returning w λe u' w'=>(∃q,e=.returned q)∧settle u'=.returning∧w'=w:=by
 refine (callsD_recover (S:=λw'=>w'=w) (u':=.returning) (rv:=.nilIface) (args:=[v]) (n:=Tryz.f194.ntmps) func194 rfl rfl (leB rfl) rfl (λc₀ cs hu=>?_) ?_).mono λe u2 w' h=>⟨h.1,by rw[h.2.1];rfl,h.2.2⟩
 ·simp [recoverD,hu]
 refine C.block λK1 hK1=>C.sr λK2=>O.eqlN0 rfl underlying20 (K2 (C.condT rfl (C.region (O.j (O.o ?_)))))
 exact hK1 _ _ rfl
theorem caught_wrong (b:Nat)(x:Int)(w:World)(ho:Own w b 28 [.int .i64 x]):CallsD prog 194 #[.pointer (some ⟨b,0,none⟩)] (.panicking [{v:=.iface 282 (.agg #[]),recovered:=false}]) w λe u' w'=>(∃q,e=.returned q)∧settle u'=.returning∧(Own w' b 28 [.int .i64 12]∧Ext (λj=>j=b) w w'):=by
 have hbl:=ho.lt;refine (callsD_recover (S:=λw'=>Own w' b 28 [.int .i64 12]∧Ext (λj=>j=b) w w') (u':=.panicking [{v:=.iface 282 (.agg #[]),recovered:=true}]) (rv:=.iface 282 (.agg #[])) (args:=[.pointer (some ⟨b,0,none⟩)]) (n:=Tryz.f194.ntmps) func194 rfl rfl (leB rfl) rfl (λc₀ cs hu=>?_) ?_).mono λe u2 w' h=>⟨h.1,by rw[h.2.1];rfl,h.2.2⟩
 ·simp [recoverD,hu]
 refine C.block λK1 hK1=>C.sr λK2=>O.eqlN1 rfl rfl underlying20 (K2 (C.condF rfl (C.sr λK3=>O.holds U282 rfl rfl (O.extract rfl rfl (O.extract rfl rfl (K3 (C.condT rfl (C.sr λK4=>O.alloc zeroValue282 (λb3 w1 hb3 hz3 e1=>?_)))))))))
 have z1:=e1.size;refine O.storeA (vs:=[]) sizeOf282 rfl rfl rfl (by simp) hz3.own (Nat.zero_le _) (λw2 hs2 e2 z2=>K4 (C.region (O.mv (O.nilChk rfl (O.store sizeOf28 rfl rfl rfl ((ho.L e1).kO e2) (by simp) (λw3 hs3 e3 z3=>O.o (hK1 _ _ ⟨hs3,?_⟩)))))));exact Ext.T (Ext.new (Le.to e1) e2 (by intro i hi h;(try dsimp only at h);omega)) e3
theorem prefix_spec (v0:Value)(l:List UInt8)(F:Nat->Prop)(w:World)(hl:Sl byteE w F v0 l)(hL:l.length<=1000000)(hF:∀j,F j->j<w.heap.size)(mx:Mx w):
 Ret prog 131 #[v0] w (λv w'=>∃(v1 v2 v3:Value) (c:Cn.Cart) (k':Nat) (e:Int),v=.tuple #[.agg #[v1,v2,v3],.int .i64 (k':Int),.int .i64 e]∧Fre Dt.dotF 112 w' (λj=>w.heap.size<=j∧j<w'.heap.size) v1 c.1.1∧Fre Dt.dotF 112 w' (λj=>w.heap.size<=j∧j<w'.heap.size) v2 c.1.2∧SlI 117 114 w' (λj=>w.heap.size<=j∧j<w'.heap.size) v3 c.2∧Cn.big c∧Cn.Pref l c k' e∧Le w w'):=by
 have hgl:=mx.lt;have hll:=hl.le;have _hF9:=hF;refine enterD (args:=[v0]) (n:=14) (ks:=[2,3,4]) func131 rfl rfl (leB rfl) rfl (C.region (O.alloc zeroValue47 (λb2 w1 hb2 hz2 e1=>?_)));have z1:=e1.size;have h2:=hz2.own;have hl2:=h2.lt;refine O.j (O.alloc zeroValue28 (λb4 w2 hb4 hz4 e2=>?_));have z2:=e2.size;have h4:=hz4.own;have hl4:=h4.lt;refine O.o (⟨.pointer (some ⟨b4,0,none⟩),(λch w'=>ch=[{v:=.iface 282 (.agg #[]),recovered:=false}]∧Cn.No Cn.val Cn.bytes l 0∧Le w2 w'),rfl,?_,?_⟩)
 ·
  refine CD.seqK λK1 hK1=>CD.region (by kernel_rfl) rfl (O.mv (O.call call128 (args1 rfl) (rdNew_spec _ l _ _ ((hl.L e1).L e2) hL) ?_))
  rintro v_8 w3 ⟨brv8,vrv8,rfl,hov8,hlv8,hbv8,hb2v8,e3⟩;have z3:=e3.size;refine O.j (O.o (hK1 _ _ (CD.seqK λK2 hK2=>CD.region (by kernel_rfl) rfl (O.mv (O.callZ call195 (args1 rfl) (dwhole_spec brv8 vrv8 l 0 _ _ hov8 hlv8 (Nat.zero_le _) (λj hj=>by have hj1:=hj.1;have hj2:=hj.2;exact ⟨by omega,by omega⟩) hL (((mx.L e1).L e2).L e3) (by omega)) (λch_ wz_ hz_=>?_) ?_)))))
  ·
   exact ⟨hz_.1,hz_.2.1,Ext.new e3 hz_.2.2 (by intro i hi h;(try dsimp only at h);omega)⟩
  rintro v_10 w4 ⟨vav10,vbv10,vcv10,cv10,knv10,rfl,hov10,hxv10,hyv10,hzv10,hgv10,hcv10,hsv10,e4⟩;have z4:=e4.size;obtain ⟨p1,rfl⟩:=hxv10.slv;obtain ⟨p2,rfl⟩:=hyv10.slv;obtain ⟨p3,rfl⟩:=hzv10.sl.slv;refine O.alloc zeroValue47 (λb6 w5 hb6 hz6 e5=>?_);have z5:=e5.size;have h6:=hz6.own;have hl6:=h6.lt;refine O.storeA (vs:=[slv p1,slv p2,slv p3]) Z47 rfl rfl rfl (by simp[slv,Value.oneCell']) h6 (leB rfl) (λw6 hs6 e6 z6=>O.o (hK2 _ _ (CD.seqK λK3 hK3=>CD.drawB (wB:=(bare w6)) (by kernel_rfl) λw7 e7=>?_)));have z7:=e7.size;refine D.mv 1 rfl (Ext.bare (Ext.nt (Ext.L (λ_=>True) _) e7)) (D.many [0,2] (by kernel_rfl) (by decide) ⟨?_,?_,trivial⟩)
  ·
   refine D.stepU rfl rfl (O.loadOA isAgg47 Z47 rfl (hs6.L e7) (leB rfl) (O.o ⟨(Ext.bare (Ext.nt (Ext.L (λ_=>True) _) e7)),D.on 2 rfl rfl (O.call call132 (args1 rfl) (rdAt_spec brv8 vrv8 l knv10 _ _ (((hov10.L e5).kO e6).L e7) ((((hlv8.kM e4 (by intro k hk h;(try dsimp only at hk);(try dsimp only at h);omega)).L e5).kM e6 (by intro k hk h;(try dsimp only at hk);(try dsimp only at h);omega)).L e7) (hsv10.2.2) (λj hj=>by have hj1:=hj.1;have hj2:=hj.2;exact ⟨by omega,by omega⟩)) ?_)⟩));rintro v_13 w8 ⟨rfl,hw_⟩;replace hw_:=hw_.symm;subst hw_;refine O.o ⟨(Ext.bare (Ext.nt (Ext.L (λ_=>True) _) e7)),D.on 3 rfl rfl (O.storeA (vs:=[slv p1,slv p2,slv p3]) Z47 rfl rfl rfl (by simp[slv,Value.oneCell']) ((((((h2.L e2).L e3).kO e4).L e5).kO e6).L e7) (leB rfl) (λw8 hs8 e8 z8=>O.o ⟨(Ext.bare (Ext.nt (Ext.nt (Ext.L (λ_=>True) _) e7) e8)),D.as 4 rfl (Ext.bare (Ext.nt (Ext.nt (Ext.L (λ_=>True) _) e7) e8)) (D.on 5 rfl rfl (O.store sizeOf28 rfl rfl rfl ((((((h4.L e3).kO e4).L e5).kO e6).L e7).kO e8) (by decide) (λw9 hs9 e9 z9=>?_)))⟩))⟩
   (try simp only[Int.toNat_natCast] at hs9);(try simp only[Nat.zero_add] at hs9);(try simp only[Nat.mul_one] at hs9)
   refine O.o ⟨(Ext.bare (Ext.nt (Ext.nt (Ext.nt (Ext.L (λ_=>True) _) e7) e8) e9)),D.dn (hK3 _ _ (CD.ret (leaves1 (by simp) call194 (caught_idle _ _) ?_)))⟩;rintro _ rfl;refine ⟨_,res_ctc (s:=3) rfl (getD_Fr _ _ 2) (getD_Fr _ _ 3) (getD_Fr _ _ 4) isAgg47 Z47 (hs8.kO e9) rfl isAgg28 hs9,?_⟩;exact ⟨slv p1,slv p2,slv p3,cv10,knv10,0,rfl,((((((hxv10.L e5).keepA e6).L e7).keepA e8).keepA e9)).weakA,((((((hyv10.L e5).keepA e6).L e7).keepA e8).keepA e9)).weakA,((((((hzv10.L e5).keepA e6).L e7).keepA e8).keepA e9)).weakA,hgv10,.inl ⟨rfl,hcv10,hsv10⟩,(Ext.nr (Ext.nr (Ext.T (Ext.nr (Ext.T (Ext.nr (Ext.T (Ext.T e1 e2) e3) e4) e5) e6) e7) e8) e9)⟩
  refine D.stepU rfl rfl (O.call call132 (args1 rfl) (rdAt_spec brv8 vrv8 l knv10 _ _ (((hov10.L e5).kO e6).L e7) ((((hlv8.kM e4 (by intro k hk h;(try dsimp only at hk);(try dsimp only at h);omega)).L e5).kM e6 (by intro k hk h;(try dsimp only at hk);(try dsimp only at h);omega)).L e7) (hsv10.2.2) (λj hj=>by have hj1:=hj.1;have hj2:=hj.2;exact ⟨by omega,by omega⟩)) ?_);rintro v_13 w10 ⟨rfl,hw_⟩;replace hw_:=hw_.symm;subst hw_;refine O.o ⟨(Ext.bare (Ext.nt (Ext.L (λ_=>True) _) e7)),D.on 0 rfl rfl (O.loadOA isAgg47 Z47 rfl (hs6.L e7) (leB rfl) (O.o ⟨(Ext.bare (Ext.nt (Ext.L (λ_=>True) _) e7)),D.on 3 rfl rfl (O.storeA (vs:=[slv p1,slv p2,slv p3]) Z47 rfl rfl rfl (by simp[slv,Value.oneCell']) ((((((h2.L e2).L e3).kO e4).L e5).kO e6).L e7) (leB rfl) (λw10 hs10 e10 z10=>O.o ⟨(Ext.bare (Ext.nt (Ext.nt (Ext.L (λ_=>True) _) e7) e10)),D.as 4 rfl (Ext.bare (Ext.nt (Ext.nt (Ext.L (λ_=>True) _) e7) e10)) (D.on 5 rfl rfl ?_)⟩))⟩))⟩;refine O.store sizeOf28 rfl rfl rfl ((((((h4.L e3).kO e4).L e5).kO e6).L e7).kO e10) (by decide) (λw11 hs11 e11 z11=>?_)
  (try simp only[Int.toNat_natCast] at hs11);(try simp only[Nat.zero_add] at hs11);(try simp only[Nat.mul_one] at hs11)
  refine O.o ⟨(Ext.bare (Ext.nt (Ext.nt (Ext.nt (Ext.L (λ_=>True) _) e7) e10) e11)),D.dn (hK3 _ _ (CD.ret (leaves1 (by simp) call194 (caught_idle _ _) ?_)))⟩;rintro _ rfl;refine ⟨_,res_ctc (s:=3) rfl (getD_Fr _ _ 2) (getD_Fr _ _ 3) (getD_Fr _ _ 4) isAgg47 Z47 (hs10.kO e11) rfl isAgg28 hs11,?_⟩;exact ⟨slv p1,slv p2,slv p3,cv10,knv10,0,rfl,((((((hxv10.L e5).keepA e6).L e7).keepA e10).keepA e11)).weakA,((((((hyv10.L e5).keepA e6).L e7).keepA e10).keepA e11)).weakA,((((((hzv10.L e5).keepA e6).L e7).keepA e10).keepA e11)).weakA,hgv10,.inl ⟨rfl,hcv10,hsv10⟩,(Ext.nr (Ext.nr (Ext.T (Ext.nr (Ext.T (Ext.nr (Ext.T (Ext.T e1 e2) e3) e4) e5) e6) e7) e10) e11)⟩
 rintro a ch wz hh ⟨rfl,hno,ez⟩;refine leaves1 (by simp) call194 (caught_wrong b4 0 wz ((h4).L ez)) ?_;rintro w9 ⟨ho9,e9⟩;have h2l:=(((h2.L e2)).L ez).lt;refine ⟨_,res_ctc (s:=3) rfl (hh 2 (by decide)) (hh 3 (by decide)) (hh 4 (by decide)) isAgg47 Z47 ((((h2.L e2)).L ez).kO e9) rfl isAgg28 ho9,?_⟩;exact ⟨_,_,_,Cn.nil0,0,12,rfl,Fre.nil _ _ _ _,Fre.nil _ _ _ _,SlI.nil _ _ _ _,Cn.big_nil0,.inr ⟨rfl,rfl,rfl,hno⟩,Ext.new (Ext.T (Ext.T e1 e2) ez) e9 (by intro i hi h;(try dsimp only at h);omega)⟩
end Go.Proofs.YtpbcafkcfobngaaGreatDoor
end
