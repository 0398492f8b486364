/-
 The walk of the law ClientHolds. Conditions: what lies in memory.
-/
import Derived.Shelf.Strings.Builder1
import Derived.Shelf.Strings.Builder2
import Derived.Shelf.Strings.OnBuilder
import Derived.Shelf.Small.Strs
import Derived.Shelf.Strings.BuilderF
import Derived.Shelf.Strings.BuilderK
import Derived.Shelf.Utf8.RuneCount
import Derived.Shelf.Strings.Builder2Cap
import Derived.Shelf.Strconv.Atoi
import Derived.Shelf.Strconv.Itoa0
import Derived.Shelf.Strconv.Itoa1
import Derived.Shelf.LaysM
import Derived.Shelf.Strconv.Itoa2
import Derived.Shelf.Strconv.Itoa3
import Derived.Shelf.Strconv.AtoiErrFast
import Derived.Shelf.Strconv.ParseIntEmpty
import Derived.Shelf.Strconv.AtoiFail
import Derived.Shelf.Strconv.Clone
import Derived.Shelf.Strconv.SyntaxError
import Derived.Shelf.LaysC
import Derived.Shelf.Strconv.ToError
import Derived.Shelf.Strconv.Lower
import Derived.Shelf.Strconv.ParseUint10
import Derived.Shelf.Strconv.ParseUint10Empty
import Derived.Shelf.Strconv.ParseUint10Any
import Derived.Shelf.Strconv.ParseInt10
import Derived.Shelf.Strconv.AtoiLong
import Derived.Shelf.Strconv.AtoiInnerAll
import Derived.Shelf.Strconv.RangeError
import Derived.Shelf.Strconv.ToErrorRange
import Derived.Shelf.Strconv.AtoiAll
import Derived.Shelf.Strconv.ErrVarAll
import Derived.Shelf.Strings.Search1
import Derived.Shelf.Strings.Search2
import Derived.Shelf.Strings.Search3
import Derived.Shelf.Strings.Cut
import Derived.Shelf.Strings.Count
import Derived.Shelf.Strings.Shaped
import Derived.Shelf.Strings.Prefix
import Derived.Shelf.Strings.Split
import Derived.Shelf.Strings.SplitShaped
import Derived.Shelf.Unicode.Decode
import Derived.Shelf.Strings.RuneCount
import Derived.Shelf.Strings.Explode
import Derived.Shelf.Unicode.DecodeSlow
import Derived.Shelf.Unicode.DecodeAny
import Derived.Shelf.Strings.BuilderCap
import Derived.Test.YtbnblcnabgdndaaGreatDoorProg
import Derived.Lib.SmallJoins
import Derived.Test.YtbnblcnabgdndaaGreatDoorCards
import Derived.Test.YtbnblcnabgdndaaGreatDoorTie
import Derived.Test.YtbnblcnabgdndaaGreatDoorClientHoldsM1
namespace Go.Proofs.YtbnblcnabgdndaaGreatDoor
open Go.Pn Go.RowKit Go.Proofs _root_.Go.Proofs.Tryz
attribute [local irreducible] O C D
set_option maxHeartbeats 8000000 in
theorem clientHolds_spec (a:Cl.Call)(vd:Value)(F:Nat->Prop)(b:Cl.Call)(ud:Value)(F2:Nat->Prop)(x:Cl.Ans)(xl xb:Value)(xo:List Raw)(F3:Nat->Prop)(s:List UInt8)(w:World)(hd:Sl byteE w F vd a.data)(kd:Sl byteE w F2 ud b.data)(ml:Sl lineF.enc w F3 xl x.lines)(mb:Sl slF.enc w F3 xb xo)(mbs:SlsL byteE w F3 xo x.bats)(hqa:Cl.InI64 a.qty)(hqb:Cl.InI64 b.qty)(hX:Cl.InA x)(gw:Gw w):
 Ret prog 8 #[.agg #[.int .i64 a.op,str a.key,str a.other,str a.item,.int .i64 a.qty,vd],.agg #[.int .i64 b.op,str b.key,str b.other,str b.item,.int .i64 b.qty,ud],.agg #[.int .i64 x.op,.int .i64 x.err,.int .i64 x.count,xl,xb],str (s)] w (λv w'=>v=.bool true∧Le w w'):=by
 have hrw:=gw.o;have hdo:=hd.oneC;have kdo:=kd.oneC;have mlo:=ml.oneC;have mbo:=mb.oneC;refine enT [.agg #[.int .i64 a.op,str a.key,str a.other,str a.item,.int .i64 a.qty,vd],.agg #[.int .i64 b.op,str b.key,str b.other,str b.item,.int .i64 b.qty,ud],.agg #[.int .i64 x.op,.int .i64 x.err,.int .i64 x.count,xl,xb],str (s)] 185 func8 rfl rfl (C.sr λK1=>O.box (v:=.agg #[.int .i64 a.op,str a.key,str a.other,str a.item,.int .i64 a.qty,vd]) rfl (λb4 w1 hb4 hz4 e1=>?_));have z1:=e1.size;have h4:=hz4.own;have hl4:=h4.lt;refine O.box (v:=.agg #[.int .i64 b.op,str b.key,str b.other,str b.item,.int .i64 b.qty,ud]) rfl (λb5 w2 hb5 hz5 e2=>?_);have z2:=e2.size;have h5:=hz5.own;have hl5:=h5.lt;refine O.box (v:=.agg #[.int .i64 x.op,.int .i64 x.err,.int .i64 x.count,xl,xb]) rfl (λb6 w3 hb6 hz6 e3=>?_);have z3:=e3.size;have h6:=hz6.own;have hl6:=h6.lt;refine O.j (K1 (C.sq λK2=>C.sr λK3=>?_));have t0:=(h4.L e2).L e3;refine O.loadOA isAgg25 Z25 rfl t0 (leB rfl) ?_;have t1:=(hd.L e1).L e2;refine O.call call10 (args1 rfl) (short_spec a vd F _ (t1.L e3)) ?_;rintro v_29 w4 ⟨bv29,rfl,hbv29,e4⟩;have z4:=e4.size;refine O.not rfl (O.mv (O.split (x:=.tmp 31) rfl (λc31=>?_) (λc31=>?_)))
 ·
  refine O.no rfl (noB (isT' rfl c31) rfl) (O.no rfl (noB (isT' rfl c31) rfl) (O.no rfl (noB (isT' rfl c31) rfl) (O.pickT (isT' rfl c31) (O.mv (O.no rfl (noB rfl rfl) (O.no rfl (noB rfl rfl) (O.no rfl (noB rfl rfl) (O.pickT rfl (O.mv (O.no rfl (noB rfl rfl) (O.no rfl (noB rfl rfl) (O.no rfl (noB rfl rfl) (O.pickT rfl (K3 (C.condT rfl (C.sr λK4=>O.call call11 (argsN) (known_spec _ ((((gw.L e1).L e2).L e3).L e4)) ?_))))))))))))))));rintro v_46 w5 ⟨rfl,e5⟩;have z5:=e5.size;refine O.j (K4 (C.ret (Outs.one rfl rfl ?_)));exact ⟨rfl,(Ext.T (Ext.T (Ext.T (Ext.T e1 e2) e3) e4) e5)⟩
 have hsma:Cl.Sm 200 a:=hbv29 (Cl.nn c31);have hsa:=hsma.short (by decide);have htl:=Cl.text_sm hsma hqa;have hbl:=Cl.bytes_sm hsma (by decide);refine O.yes rfl (isF' rfl c31) ?_;have t2:=(h5.L e3).L e4;refine O.loadOA isAgg25 Z25 rfl t2 (leB rfl) (O.yes rfl (isF' rfl c31) ?_);have t3:=(kd.L e1).L e2;have t4:=(t3.L e3).L e4;refine O.call call10 (args1 rfl) (short_spec b ud F2 _ t4) ?_;rintro v_33 w6 ⟨bv33,rfl,hbv33,e6⟩;have z6:=e6.size;refine O.yes rfl (isF' rfl c31) (O.not rfl (O.pickF (isF' rfl c31) (O.mv (O.split (x:=.tmp 36) rfl (λc36=>?_) (λc36=>?_)))))
 ·
  refine O.no rfl (noB (isT' rfl c36) rfl) (O.no rfl (noB (isT' rfl c36) rfl) (O.no rfl (noB (isT' rfl c36) rfl) (O.pickT (isT' rfl c36) (O.mv (O.no rfl (noB rfl rfl) (O.no rfl (noB rfl rfl) (O.no rfl (noB rfl rfl) (O.pickT rfl (K3 (C.condT rfl (C.sr λK5=>O.call call11 (argsN) (known_spec _ (((((gw.L e1).L e2).L e3).L e4).L e6)) ?_)))))))))));rintro v_46 w7 ⟨rfl,e7⟩;have z7:=e7.size;refine O.j (K5 (C.ret (Outs.one rfl rfl ?_)));exact ⟨rfl,(Ext.T (Ext.T (Ext.T (Ext.T (Ext.T e1 e2) e3) e4) e6) e7)⟩
 have hsmb:Cl.Sm 200 b:=hbv33 (Cl.nn c36);have hsb:=hsmb.short (by decide);refine O.yes rfl (isF' rfl c36) ?_;have t5:=(h6.L e4).L e6;refine O.loadOA isAgg48 Z48 rfl t5 (leB rfl) (O.yes rfl (isF' rfl c36) ?_);have t6:=(mb.L e1).L e2;have t7:=(ml.L e1).L e2;have t8:=(t6.L e3).L e4;have t9:=(t7.L e3).L e4;have t10:=(mbs.L e1).L e2;have t11:=(t10.L e3).L e4;refine O.call call23 (args1 rfl) (brief_spec x xl xb xo F3 _ (t9.L e6) (t8.L e6) (t11.L e6)) ?_;rintro v_38 w8 ⟨bv38,rfl,hbv38,e8⟩;have z8:=e8.size;refine O.yes rfl (isF' rfl c36) (O.not rfl (O.pickF (isF' rfl c36) (O.mv (O.split (x:=.tmp 41) rfl (λc41=>?_) (λc41=>?_)))))
 ·
  refine O.no rfl (noB (isT' rfl c41) rfl) (O.no rfl (noB (isT' rfl c41) rfl) (O.no rfl (noB (isT' rfl c41) rfl) (O.pickT (isT' rfl c41) (K3 (C.condT rfl (C.sr λK6=>O.call call11 (argsN) (known_spec _ ((((((gw.L e1).L e2).L e3).L e4).L e6).L e8)) ?_))))));rintro v_46 w9 ⟨rfl,e9⟩;have z9:=e9.size;refine O.j (K6 (C.ret (Outs.one rfl rfl ?_)));exact ⟨rfl,(Ext.T (Ext.T (Ext.T (Ext.T (Ext.T (Ext.T e1 e2) e3) e4) e6) e8) e9)⟩
 have hbx:=hbv38 (Cl.nn c41);have hsx:=hbx.short;refine O.yes rfl (isF' rfl c41) (O.mv (O.yes rfl (isF' rfl c41) (O.lenS U9 rfl (O.yes rfl (isF' rfl c41) (O.gtrI rfl rfl (O.pickF (isF' rfl c41) (K3 (C.condD rfl (λc45=>?_) (λc45=>?_)))))))))
 ·
  refine C.sr λK7=>O.call call11 (argsN) (known_spec _ ((((((gw.L e1).L e2).L e3).L e4).L e6).L e8)) ?_
  rintro v_46 w10 ⟨rfl,e10⟩;have z10:=e10.size;refine O.j (K7 (C.ret (Outs.one rfl rfl ?_)));exact ⟨rfl,(Ext.T (Ext.T (Ext.T (Ext.T (Ext.T (Ext.T e1 e2) e3) e4) e6) e8) e10)⟩
 refine C.skip (K2 (C.sr λK8=>?_));have t12:=(t0.L e4).L e6;refine O.loadOA isAgg25 Z25 rfl (t12.L e8) (leB rfl) ?_;have t13:=(gw.L e1).L e2;have t14:=(t1.L e3).L e4;have t15:=(t13.L e3).L e4;have t16:=(t14.L e6).L e8;have t17:=(t15.L e6).L e8;refine O.call call28 (args1 rfl) (text2_spec a vd F _ t16 hsa hqa t17) ?_;rintro v_49 w11 ⟨ttv49,tev49,rfl,htv49,e11⟩;have z11:=e11.size;refine O.mv (O.extract rfl rfl (O.extract rfl rfl (O.j (O.j (K8 (C.sr λK9=>?_))))));have t18:=(t2.L e6).L e8;refine O.loadOA isAgg25 Z25 rfl (t18.L e11) (leB rfl) ?_;have t19:=(t4.L e6).L e8;refine O.call call28 (args1 rfl) (text2_spec b ud F2 _ (t19.L e11) hsb hqb (t17.L e11)) ?_;rintro v_54 w12 ⟨ttv54,tev54,rfl,htv54,e12⟩;have z12:=e12.size;refine O.mv (O.extract rfl rfl (O.extract rfl rfl (O.j (O.j (K9 (C.sq λK10=>C.sr λK11=>O.mv (O.eqlI rfl rfl (K11 (C.join (λf w f' w'=>Le w w'∧f' 3=f 3∧f' 6=f 6) ?_ ?_)))))))))
 ·
  refine C.condD rfl (λc58=>?_) (λc58=>?_)
  ·
   have sp1_:=Cl.Tx.ok htv49 c58;obtain ⟨hva,hta⟩:=sp1_;subst hta;refine C.sq λK12=>C.sr λK13=>O.j (K13 (C.bl λK14=>C.loop0 (σ:=Nat) (λf0 w0 i f w=>f 13=.int .i64 ((i:Int))∧f 3=f0 3∧f 4=f0 4∧f 5=f0 5∧f 6=f0 6∧f 9=f0 9∧f 11=f0 11∧f 12=f0 12∧w=w0∧i<=(Cl.text a).length) (λi=>(Cl.text a).length-i) 0 ?_ ?_))
   ·
    refine ⟨rfl,rfl,rfl,rfl,rfl,rfl,rfl,rfl,rfl,?_⟩;exact Nat.zero_le _
   rintro i f_1 wx ⟨s13_1,s3_1,s4_1,s5_1,s6_1,s9_1,s11_1,s12_1,rfl,hi⟩;refine C.sq λK15=>C.sr λK16=>O.mv (O.mv (O.lenS U9 s9_1 (O.lssI s13_1 rfl (K16 (C.condD rfl (λc62=>?_) (λc62=>?_))))))
   ·
    have hi2:i<(Cl.text a).length:=by omega
    refine C.skip (K15 (C.sq λK17=>C.bl λK18=>C.sr λK19=>O.mv (O.mv (O.indexS (a:=(Cl.text a)) U9 s9_1 s13_1 (by simp;omega) (O.eqlU (m:=8) (b:=10#8) rfl rfl (O.cast (v':=.bool false) (cB (by exact dF (Cl.no_ln hva hi2))) (K19 (C.condF rfl (C.skip (K18 (K17 (C.region (O.mv (O.ad s13_1 rfl (O.j (O.o (⟨i+1,⟨rfl,s3_1,s4_1,s5_1,s6_1,s9_1,s11_1,s12_1,rfl,?_⟩,by first|omega|(simp only[];omega)⟩)))))))))))))))))
    omega
   refine C.exit (K14 (K12 (C.sr λK20=>?_)));have t20:=(t12.L e8).L e11;refine O.loadOA isAgg25 Z25 s4_1 (t20.L e12) (leB rfl) ?_;have t21:=(t16.L e11).L e12;have t22:=(t17.L e11).L e12;refine O.call call12 (args1 rfl) (encode_spec a vd F _ t21 hsa t22) ?_;rintro v_71 w13 ⟨rv71,rfl,hrv71,e13⟩;have z13:=e13.size;have sp2_:∃q,q=(if Cl.valid a=true then Cl.bytes a else []):=⟨_,rfl⟩
   obtain ⟨lx71,hlx71⟩:=sp2_;have sp3_:∃q:Int,q=(if Cl.valid a=true then 0 else 2):=⟨_,rfl⟩
   obtain ⟨ex71,hex71⟩:=sp3_;rw[<-hlx71] at hrv71;have h71s:=hrv71.sl;refine O.mv (O.extract rfl rfl (O.extract rfl rfl (O.cast (v':=.int .i64 ex71) (by rw[hex71];rfl) ?_)));rw[if_pos hva] at hlx71 hex71;refine O.j (O.j (K20 (C.sq λK21=>C.sr λK22=>?_)));have t23:=(t20.L e12).L e13;refine O.loadOA isAgg25 Z25 s4_1 t23 (leB rfl) (O.call call13 (args1 rfl) (valid_spec a vd F _ (t21.L e13) hsa (t22.L e13)) ?_);rintro v_75 w14 ⟨rfl,e14⟩;have z14:=e14.size;refine O.cast (v':=.bool true) (cB (by exact hva)) (O.not rfl (O.cast (v':=.bool false) rfl (O.mv (O.yes rfl rfl (O.mv (O.yes rfl rfl (O.loadOA isAgg25 Z25 s4_1 (t23.L e14) (leB rfl) (O.yes rfl rfl ?_))))))));have t24:=(t21.L e13).L e14;have t25:=(t22.L e13).L e14;refine O.call call18 (args3 s9_1 rfl rfl) (parses_spec (Cl.text a) a vd F 0 _ (by omega) t24 t25) ?_;rintro v_80 w15 ⟨bv80,rfl,hbv80,e15⟩;have z15:=e15.size;refine O.cast (v':=.bool true) (cB (by exact hbv80.2 (.inl ⟨rfl,hva,hqa,rfl⟩))) (O.yes rfl rfl (O.not rfl (O.cast (v':=.bool false) rfl (O.pickF rfl (O.mv (O.yes rfl rfl (O.mv (O.yes rfl rfl (O.neqI rfl rfl (O.cast (v':=.bool false) (cB (by exact dF (λh=>h hex71))) (O.pickF rfl (O.mv (O.yes rfl rfl (O.mv (O.yes rfl rfl ?_)))))))))))))));have t26:=(t23.L e14).L e15;refine O.loadOA isAgg25 Z25 s4_1 t26 (leB rfl) (O.yes rfl rfl (O.call call19 (args3 rfl rfl rfl) (decodes_spec rv71 lx71 (bk rv71) a vd F 0 _ ((h71s.L e14).L e15) (by rw[hlx71];omega) (t24.L e15) (t25.L e15)) ?_));rintro v_90 w16 ⟨bv90,rfl,hbv90,e16⟩;have z16:=e16.size;refine O.cast (v':=.bool true) (cB (by exact hbv90.2 (.inl ⟨rfl,hva,hqa,hlx71.symm⟩))) (O.yes rfl rfl (O.not rfl (O.cast (v':=.bool false) rfl (O.pickF rfl (K22 (C.condF rfl (C.skip (K21 (C.sr λK23=>?_)))))))));have t27:=(t18.L e11).L e12;have t28:=(t27.L e13).L e14;have t29:=(t28.L e15).L e16;refine O.loadOA isAgg25 Z25 s5_1 t29 (leB rfl) ?_;have t30:=(t19.L e11).L e12;have t31:=(t30.L e13).L e14;have t32:=(t31.L e15).L e16;refine O.call call12 (args1 rfl) (encode_spec b ud F2 _ t32 hsb ((t25.L e15).L e16)) ?_;rintro v_95 w17 ⟨rv95,rfl,hrv95,e17⟩;have z17:=e17.size;have sp4_:∃q,q=(if Cl.valid b=true then Cl.bytes b else []):=⟨_,rfl⟩
   obtain ⟨lx95,hlx95⟩:=sp4_;have sp5_:∃q:Int,q=(if Cl.valid b=true then 0 else 2):=⟨_,rfl⟩
   obtain ⟨ex95,hex95⟩:=sp5_;rw[<-hlx95] at hrv95;have h95s:=hrv95.sl;refine O.mv (O.extract rfl rfl (O.extract rfl rfl (O.cast (v':=.int .i64 ex95) (by rw[hex95];rfl) (O.j (O.j (K23 (C.sq λK24=>C.join (λf w f' w'=>Le w w'∧f' 3=f 3∧f' 6=f 6∧f' 123=.bool false) ?_ ?_)))))))
   ·
    refine C.draw (by kernel_rfl) λw18 e18=>?_
    have z18:=e18.size;refine D.mv 0 rfl leR (D.t 1 rfl leR (λ_ _ _ hN=>O.eqlI s12_1 rfl (O.o hN)) (D.mv 2 rfl leR (D.splitD (x:=.tmp 100) rfl (λc100=>?_) (λc100=>?_))))
    ·
     have sp6_:=Cl.Tx.ok htv54 c100;obtain ⟨hvb,htb⟩:=sp6_;rw[if_pos hvb] at hlx95 hex95;refine D.ty 3 rfl rfl rfl rfl (isT rfl c100) leR ⟨pure _,rfl⟩ (λ_ hw_ _ hN=>O.mv (O.o hN)) (D.ty 4 rfl rfl rfl rfl (isT rfl c100) leR ⟨_,rfl⟩ (λ_ hw_ _ hN=>O.neqI rfl rfl (O.o hN)) (D.cast (v':=.bool false) (cB (by exact dF (λh=>h hex95))) (D.ty 5 rfl rfl rfl rfl (isT rfl c100) leR ⟨pure _,rfl⟩ (λ_ hw_ _ hN=>O.mv (O.o hN)) (D.ty 6 rfl rfl rfl rfl rfl leR ⟨pure _,rfl⟩ (λ_ hw_ _ hN=>O.mv (O.o hN)) (D.ty 7 rfl rfl rfl rfl rfl leR ⟨pure _,rfl⟩ (λ_ hw_ _ hN=>O.mv (O.o hN)) ?_)))));refine D.ty 8 rfl rfl rfl rfl rfl leR ⟨_,rfl⟩ (λ_ hw_ _ hN=>O.eqlS s9_1 s11_1 (O.o hN)) ?_;have t33:=((t26.L e16).L e17).L e18;refine D.ty 9 rfl rfl rfl rfl rfl leR ⟨_,rfl⟩ (λ_ hw_ _ hN=>O.loadOA isAgg25 Z25 s4_1 (t33.L hw_) (leB rfl) (O.o hN)) (D.ty 10 rfl rfl rfl rfl rfl leR ⟨_,rfl⟩ (λ_ hw_ _ hN=>O.loadOA isAgg25 Z25 s5_1 (((t29.L e17).L e18).L hw_) (leB rfl) (O.o hN)) (D.oneYes (i:=11) rfl rfl rfl (by kernel_rfl) ?_));have t34:=((t24.L e15).L e16).L e17;refine O.call call30 (args2 rfl rfl) (sameCall_spec a vd F b ud F2 _ (t34.L e18) ((t32.L e17).L e18)) ?_;rintro v_109 w19 ⟨rfl,e19⟩;have z19:=e19.size;refine O.o ⟨e19,D.ty 12 rfl rfl rfl rfl rfl e19 ⟨_,rfl⟩ (λ_ hw_ _ hN=>O.neqB underlying4 rfl rfl (O.o hN)) (D.cast (v':=.bool false) (cB (by exact dF (λh=>h (Cl.text_same hva hvb hqa hqb htb)))) (D.ty 13 rfl rfl rfl rfl (isT rfl c100) e19 pick_form (λ_ hw_ _ hN=>O.pickF rfl (O.o hN)) (D.ty 14 rfl rfl rfl rfl (isT rfl c100) e19 ⟨pure _,rfl⟩ (λ_ hw_ _ hN=>O.mv (O.o hN)) (D.ty 15 rfl rfl rfl rfl rfl e19 ⟨pure _,rfl⟩ (λ_ hw_ _ hN=>O.mv (O.o hN)) ?_))))⟩;refine D.ty 16 rfl rfl rfl rfl rfl e19 ⟨_,rfl⟩ (λ_ hw_ _ hN=>O.bytesS U23 U5 U9 rfl ((((((h71s.L e14).L e15).L e16).L e17).L e18).L hw_) (O.o hN)) (D.ty 17 rfl rfl rfl rfl rfl e19 ⟨pure _,rfl⟩ (λ_ hw_ _ hN=>O.mv (O.o hN)) (D.ty 18 rfl rfl rfl rfl rfl e19 ⟨_,rfl⟩ (λ_ hw_ _ hN=>O.bytesS U23 U5 U9 rfl ((h95s.L e18).L hw_) (O.o hN)) (D.ty 19 rfl rfl rfl rfl rfl e19 ⟨_,rfl⟩ (λ_ hw_ _ hN=>O.eqlS rfl rfl (O.o hN)) ?_)));refine D.ty 20 rfl rfl rfl rfl rfl e19 ⟨_,rfl⟩ (λ_ hw_ _ hN=>O.loadOA isAgg25 Z25 s4_1 (t33.L hw_) (leB rfl) (O.o hN)) (D.ty 21 rfl rfl rfl rfl rfl e19 ⟨_,rfl⟩ (λ_ hw_ _ hN=>O.loadOA isAgg25 Z25 s5_1 (((t29.L e17).L e18).L hw_) (leB rfl) (O.o hN)) (D.oneYes (i:=22) rfl rfl rfl (by kernel_rfl) (O.call call30 (args2 rfl rfl) (sameCall_spec a vd F b ud F2 _ ((t34.L e18).L e19) (((t32.L e17).L e18).L e19)) ?_)));rintro v_120 w20 ⟨rfl,e20⟩;have z20:=e20.size;have t35:=Ext.T e19 e20;refine O.o ⟨t35,D.ty 23 rfl rfl rfl rfl rfl t35 ⟨_,rfl⟩ (λ_ hw_ _ hN=>O.neqB underlying4 rfl rfl (O.o hN)) (D.cast (v':=.bool false) (cB (by exact dF (λh=>h (Cl.bytes_same hva hvb hqa hqb hlx71 hlx95)))) (D.ty 24 rfl rfl rfl rfl (isT rfl c100) t35 pick_form (λ_ hw_ _ hN=>O.pickF rfl (O.o hN)) (D.tk 25 rfl rfl rfl rfl t35 pick_form (λ_ hw_ _ hN=>O.pickT (isT rfl c100) (O.o hN)) (D.dn ?_))))⟩;exact ⟨(Ext.T (Ext.T e18 e19) e20),rfl,rfl,rfl⟩
    refine D.tn 3 rfl rfl leR rfl (noB (isF rfl c100) rfl) (D.tn 4 rfl rfl leR rfl (noB (isF rfl c100) rfl) (D.tn 5 rfl rfl leR rfl (noB (isF rfl c100) rfl) (D.tn 6 rfl rfl leR rfl (noU rfl) (D.tn 7 rfl rfl leR rfl (noU rfl) (D.tn 8 rfl rfl leR rfl (noU rfl) (D.tn 9 rfl rfl leR rfl (noU rfl) (D.tn 10 rfl rfl leR rfl (noU rfl) (D.tn 11 rfl rfl leR rfl (noU rfl) (D.tn 12 rfl rfl leR rfl (noU rfl) (D.tn 13 rfl rfl leR rfl (noB (isF rfl c100) rfl) (D.tn 14 rfl rfl leR rfl (noB (isF rfl c100) rfl) (D.tn 15 rfl rfl leR rfl (noU rfl) ?_))))))))))));refine D.tn 16 rfl rfl leR rfl (noU rfl) (D.tn 17 rfl rfl leR rfl (noU rfl) (D.tn 18 rfl rfl leR rfl (noU rfl) (D.tn 19 rfl rfl leR rfl (noU rfl) (D.tn 20 rfl rfl leR rfl (noU rfl) (D.tn 21 rfl rfl leR rfl (noU rfl) (D.tn 22 rfl rfl leR rfl (noU rfl) (D.tn 23 rfl rfl leR rfl (noU rfl) (D.tn 24 rfl rfl leR rfl (noB (isF rfl c100) rfl) (D.tk 25 rfl rfl rfl rfl leR pick_form (λ_ hw_ _ hN=>O.pickF (isF rfl c100) (O.o hN)) (D.dn ?_))))))))));exact ⟨e18,rfl,rfl,rfl⟩
   rintro f_2 w21 ⟨e_2,s3_2,s6_2,s123_2⟩;have z_2:=e_2.size;refine K24 (C.condF s123_2 (C.skip ?_));exact ⟨(Ext.T (Ext.T (Ext.T (Ext.T (Ext.T e13 e14) e15) e16) e17) e_2),(Eq.trans s3_2 s3_1),(Eq.trans s6_2 s6_1)⟩
  refine C.skip ?_;exact ⟨leR,rfl,rfl⟩
 rintro f_3 w22 ⟨e_3,s3_3,s6_3⟩;have z_3:=e_3.size;refine K10 (C.sq λK25=>C.sr λK26=>?_);have t36:=((t5.L e8).L e11).L e12;refine O.loadOA isAgg48 Z48 s6_3 (t36.L e_3) (leB rfl) ?_;have t37:=(t17.L e11).L e12;have t38:=((t8.L e6).L e8).L e11;have t39:=(t38.L e12).L e_3;have t40:=((t9.L e6).L e8).L e11;have t41:=(t40.L e12).L e_3;have t42:=((t11.L e6).L e8).L e11;have t43:=(t42.L e12).L e_3;refine O.call call29 (args1 rfl) (answer_spec x xl xb xo F3 _ t41 t39 t43 hsx hX (t37.L e_3)) ?_;rintro v_126 w23 ⟨ttv126,tev126,rfl,htv126,e23⟩;have z23:=e23.size;refine O.mv (O.extract rfl rfl (O.extract rfl rfl (O.j (O.j (K26 (C.sq λK27=>C.join (λf w f' w'=>Le w w'∧f' 3=f 3∧f' 136=.bool false) ?_ ?_))))))
 ·
  refine C.region (O.mv (O.eqlI rfl rfl (O.mv (O.splitD (x:=.tmp 131) rfl (λc131=>?_) (λc131=>?_)))))
  ·
   refine O.yes rfl (isT rfl c131) (O.mv (O.yes rfl (isT rfl c131) (O.loadOA isAgg48 Z48 s6_3 ((t36.L e_3).L e23) (leB rfl) (O.yes rfl (isT rfl c131) (O.call call27 (args3 rfl rfl rfl) (reads_spec ttv126 x xl xb xo F3 0 _ (by rw[(htv126.ok c131).2];have h91:=Cl.said_sm (htv126.ok c131).1 hX hbx;omega) (t41.L e23) (t39.L e23) (t43.L e23) ((t37.L e_3).L e23)) ?_)))));rintro v_134 w24 ⟨bv134,rfl,hbv134,e24⟩;have z24:=e24.size;refine O.cast (v':=.bool true) (cB (by exact hbv134.2 (.inl ⟨rfl,(htv126.ok c131).1,hX,(htv126.ok c131).2.symm⟩))) (O.yes rfl (isT rfl c131) (O.not rfl (O.cast (v':=.bool false) rfl (O.pickT (isT rfl c131) (O.o ?_)))));exact ⟨e24,rfl,rfl⟩
  refine O.no rfl (noB (isF rfl c131) rfl) (O.no rfl (noB (isF rfl c131) rfl) (O.no rfl (noB (isF rfl c131) rfl) (O.no rfl (noB (isF rfl c131) rfl) (O.pickF (isF rfl c131) (O.o ?_)))));exact ⟨leR,rfl,rfl⟩
 rintro f_4 w25 ⟨e_4,s3_4,s136_4⟩;have z_4:=e_4.size;refine K27 (C.condF s136_4 (C.skip (K25 (C.sq λK28=>C.sr λK29=>O.mv (O.call call31 (args1 (Eq.trans s3_4 s3_3)) (parse_spec s _ (by omega) (((t37.L e_3).L e23).L e_4)) ?_)))));rintro v_139 w26 ⟨cv139,vdv139,e9v139,rfl,hdv139,hgv139,e26⟩;have z26:=e26.size;refine O.mv (O.extract rfl rfl (O.extract rfl rfl (O.alloc zeroValue25 (λb20 w27 hb20 hz20 e27=>?_))));have z27:=e27.size;have h20:=hz20.own;have hl20:=h20.lt;refine O.storeA (vs:=[.int .i64 cv139.op,str cv139.key,str cv139.other,str cv139.item,.int .i64 cv139.qty,vdv139]) Z25 rfl rfl rfl (ones6 hdv139.oneC) h20 (leB rfl) (λw28 hs28 e28 z28=>O.j (K29 (C.sq λK30=>C.join (λf w f' w'=>Le w w'∧f' 3=f 3∧f' 149=.bool false) ?_ ?_)))
 ·
  refine C.region (O.mv (O.eqlI rfl rfl (O.mv (O.splitD (x:=.tmp 144) rfl (λc144=>?_) (λc144=>?_)))))
  ·
   refine O.yes rfl (isT rfl c144) (O.loadOA isAgg25 Z25 rfl hs28 (leB rfl) (O.yes rfl (isT rfl c144) (O.mv (O.yes rfl (isT rfl c144) (O.call call15 (args3 rfl (Eq.trans s3_4 s3_3) rfl) (texts_spec cv139 vdv139 _ s 0 _ ((hdv139.L e27).keepA e28) (Cl.valid_short (hgv139.ok c144).1) (hgv139.ok c144).2.1 (gw.L (Ext.nr (Ext.T (Ext.T (Ext.T (Ext.T (Ext.T (Ext.T (Ext.T (Ext.T (Ext.T (Ext.T (Ext.T (Ext.T e1 e2) e3) e4) e6) e8) e11) e12) e_3) e23) e_4) e26) e27) e28))) ?_)))));rintro v_147 w29 ⟨bv147,rfl,hbv147,e29⟩;have z29:=e29.size;refine O.cast (v':=.bool true) (cB (by exact hbv147.2 (.inl ⟨(hgv139.ok c144).1,(hgv139.ok c144).2.2.symm,rfl⟩))) (O.yes rfl (isT rfl c144) (O.not rfl (O.cast (v':=.bool false) rfl (O.pickT (isT rfl c144) (O.o ?_)))));exact ⟨e29,rfl,rfl⟩
  refine O.no rfl (noB (isF rfl c144) rfl) (O.no rfl (noB (isF rfl c144) rfl) (O.no rfl (noB (isF rfl c144) rfl) (O.no rfl (noB (isF rfl c144) rfl) (O.pickF (isF rfl c144) (O.o ?_)))));exact ⟨leR,rfl,rfl⟩
 rintro f_5 w30 ⟨e_5,s3_5,s149_5⟩;have z_5:=e_5.size;refine K30 (C.condF s149_5 (C.skip (K28 (C.sq λK31=>C.sr λK32=>O.mv ?_))));have t44:=Ext.T (Ext.T e1 e2) e3;have t45:=Ext.T t44 e4;have t46:=Ext.T t45 e6;have t47:=Ext.T t46 e8;have t48:=Ext.T t47 e11;have t49:=Ext.T t48 e12;have t50:=Ext.T t49 e_3;have t51:=Ext.T t50 e23;have t52:=Ext.T t51 e_4;have t53:=Ext.T t52 e26;have t54:=Ext.T t53 e27;have t55:=Ext.T (Ext.nr t54 e28) e_5;refine O.call call32 (args1 (Eq.trans s3_5 (Eq.trans s3_4 s3_3))) (read_spec s _ (by omega) (gw.L t55)) ?_;rintro v_152 w31 ⟨av152,vlv152,vbv152,rov152,e9v152,rfl,hlv152,hbv152,hbsv152,hgv152,e31⟩;have z31:=e31.size;refine O.mv (O.extract rfl rfl (O.extract rfl rfl (O.alloc zeroValue48 (λb22 w32 hb22 hz22 e32=>?_))));have z32:=e32.size;have h22:=hz22.own;have hl22:=h22.lt;refine O.storeA (vs:=[.int .i64 av152.op,.int .i64 av152.err,.int .i64 av152.count,vlv152,vbv152]) Z48 rfl rfl rfl (ones5 hlv152.oneC hbv152.oneC) h22 (leB rfl) (λw33 hs33 e33 z33=>O.j (K32 (C.sq λK33=>C.join (λf w f' w'=>Le w w'∧f' 3=f 3∧f' 162=.bool false) ?_ ?_)))
 ·
  refine C.region (O.mv (O.eqlI rfl rfl (O.mv (O.splitD (x:=.tmp 157) rfl (λc157=>?_) (λc157=>?_)))))
  ·
   refine O.yes rfl (isT rfl c157) (O.loadOA isAgg48 Z48 rfl hs33 (leB rfl) (O.yes rfl (isT rfl c157) (O.mv (O.yes rfl (isT rfl c157) (O.call call33 (args3 rfl (Eq.trans s3_5 (Eq.trans s3_4 s3_3)) rfl) (says_spec av152 vlv152 vbv152 rov152 _ s 0 _ ((hlv152.L e32).keepA e33) ((hbv152.L e32).keepA e33) ((hbsv152.L e32).keepA e33) (Cl.hasT_short (hgv152.ok c157).1) (hgv152.ok c157).2.1 (gw.L (Ext.nr (Ext.T (Ext.T t55 e31) e32) e33))) ?_)))));rintro v_160 w34 ⟨bv160,rfl,hbv160,e34⟩;have z34:=e34.size;refine O.cast (v':=.bool true) (cB (by exact hbv160.2 (.inl ⟨(hgv152.ok c157).1,(hgv152.ok c157).2.2.symm,rfl⟩))) (O.yes rfl (isT rfl c157) (O.not rfl (O.cast (v':=.bool false) rfl (O.pickT (isT rfl c157) (O.o ?_)))));exact ⟨e34,rfl,rfl⟩
  refine O.no rfl (noB (isF rfl c157) rfl) (O.no rfl (noB (isF rfl c157) rfl) (O.no rfl (noB (isF rfl c157) rfl) (O.no rfl (noB (isF rfl c157) rfl) (O.pickF (isF rfl c157) (O.o ?_)))));exact ⟨leR,rfl,rfl⟩
 rintro f_6 w35 ⟨e_6,s3_6,s162_6⟩;have z_6:=e_6.size;refine K33 (C.condF s162_6 (C.skip (K31 (C.sq λK34=>C.sr λK35=>O.mv (O.strB U9 U23 U5 (Eq.trans s3_6 (Eq.trans s3_5 (Eq.trans s3_4 s3_3))) (by unfold maxLen;omega) (λb165 cap165 w36 hb165 hc165 h165 hs165 e36=>?_))))));have z36:=e36.size;have t56:=Ext.T t55 e31;have t57:=Ext.T t56 e32;have t58:=Ext.T (Ext.nr t57 e33) e_6;have t59:=Ext.T t58 e36;refine O.call call22 (args1 rfl) (decode_spec _ s _ _ hs165 (by omega) (gw.L t59)) ?_;rintro v_166 w37 ⟨cv166,vdv166,e9v166,rfl,hdv166,hgv166,hdwv166,e37⟩;have z37:=e37.size;refine O.mv (O.extract rfl rfl (O.extract rfl rfl (O.alloc zeroValue25 (λb24 w38 hb24 hz24 e38=>?_))));have z38:=e38.size;have h24:=hz24.own;have hl24:=h24.lt;refine O.storeA (vs:=[.int .i64 cv166.op,str cv166.key,str cv166.other,str cv166.item,.int .i64 cv166.qty,vdv166]) Z25 rfl rfl rfl (ones6 hdv166.oneC) h24 (leB rfl) (λw39 hs39 e39 z39=>O.j (K35 (C.sr λK36=>O.mv (O.eqlI rfl rfl (K36 (C.join (λf w f' w'=>Le w w') ?_ ?_))))))
 ·
  refine C.condD rfl (λc170=>?_) (λc170=>?_)
  ·
   have sp7_:=hgv166.ok c170;obtain ⟨hve,hqe,hbe⟩:=sp7_;refine C.sr λK37=>O.loadOA isAgg25 Z25 rfl hs39 (leB rfl) (O.call call12 (args1 rfl) (encode_spec cv166 vdv166 _ _ ((hdv166.L e38).keepA e39) (Cl.valid_short hve) (gw.L (Ext.nr (Ext.T (Ext.T t59 e37) e38) e39))) ?_)
   rintro v_173 w40 ⟨rv173,rfl,hrv173,e40⟩;have z40:=e40.size;have sp8_:∃q,q=(if Cl.valid cv166=true then Cl.bytes cv166 else []):=⟨_,rfl⟩
   obtain ⟨lx173,hlx173⟩:=sp8_;have sp9_:∃q:Int,q=(if Cl.valid cv166=true then 0 else 2):=⟨_,rfl⟩
   obtain ⟨ex173,hex173⟩:=sp9_;rw[<-hlx173] at hrv173;have h173s:=hrv173.sl;refine O.mv (O.extract rfl rfl (O.extract rfl rfl (O.cast (v':=.int .i64 ex173) (by rw[hex173];rfl) ?_)));rw[if_pos hve] at hlx173 hex173;refine O.j (O.j (K37 (C.sr λK38=>O.mv (O.bytesS U23 U5 U9 rfl h173s (O.mv (O.neqS rfl (Eq.trans s3_6 (Eq.trans s3_5 (Eq.trans s3_4 s3_3))) (O.cast (v':=.bool false) (cB (by exact dF (λh=>h (hlx173.trans hbe)))) (O.mv (O.yes rfl rfl (O.mv (O.yes rfl rfl (O.neqI rfl rfl (O.cast (v':=.bool false) (cB (by exact dF (λh=>h hex173))) (O.pickF rfl (K38 (C.condF rfl (C.skip ?_)))))))))))))))));exact e40
  refine C.skip ?_;exact leR
 rintro f_7 w41 e_7;have z_7:=e_7.size;refine K34 (C.sr λK39=>?_);have t60:=Ext.T (Ext.T t59 e37) e38;have t61:=Ext.T (Ext.nr t60 e39) e_7;refine O.call call11 (argsN) (known_spec _ (gw.L t61)) ?_;rintro v_184 w42 ⟨rfl,e42⟩;have z42:=e42.size;refine O.j (K39 (C.ret (Outs.one rfl rfl ?_)));exact ⟨rfl,(Ext.T t61 e42)⟩
end Go.Proofs.YtbnblcnabgdndaaGreatDoor
