/-
 The walk of the law ClientTexts. Conditions: what lies in memory.
-/
import Derived.Deep.Slices
import Derived.Lib.AppendZeros
import Derived.Lib.AppendStr
import Derived.Lib.IndexMore
import Derived.Lib.TrimByte
import Derived.Lib.ItoaMem
import Derived.Lib.AtoiAllCases
import Derived.Lib.Bytealg
import Derived.Lib.Join
import Derived.Lib.IndexLaws
import Derived.Scope
import Derived.Lib.SplitLaws
import Derived.Shelf.Strings.Builder1
import Derived.Shelf.Strings.Builder2
import Derived.Shelf.Strings.OnBuilder
import Derived.Shelf.Small.Strs
import Derived.Shelf.Strings.BuilderF
import Derived.Shelf.Strings.BuilderK
import Derived.Shelf.Utf8.RuneCount
import Derived.Shelf.Strings.Builder2Cap
import Derived.Shelf.Strconv.Atoi
import Derived.Shelf.Strconv.Itoa0
import Derived.Shelf.Strconv.Itoa1
import Derived.Shelf.LaysM
import Derived.Shelf.Strconv.Itoa2
import Derived.Shelf.Strconv.Itoa3
import Derived.Shelf.Strconv.AtoiErrFast
import Derived.Shelf.Strconv.ParseIntEmpty
import Derived.Shelf.Strconv.AtoiFail
import Derived.Shelf.Strconv.Clone
import Derived.Shelf.Strconv.SyntaxError
import Derived.Shelf.LaysC
import Derived.Shelf.Strconv.ToError
import Derived.Shelf.Strconv.Lower
import Derived.Shelf.Strconv.ParseUint10
import Derived.Shelf.Strconv.ParseUint10Empty
import Derived.Shelf.Strconv.ParseUint10Any
import Derived.Shelf.Strconv.ParseInt10
import Derived.Shelf.Strconv.AtoiLong
import Derived.Shelf.Strconv.AtoiInnerAll
import Derived.Shelf.Strconv.RangeError
import Derived.Shelf.Strconv.ToErrorRange
import Derived.Shelf.Strconv.AtoiAll
import Derived.Shelf.Strconv.ErrVarAll
import Derived.Shelf.Strings.Search1
import Derived.Shelf.Strings.Search2
import Derived.Shelf.Strings.Search3
import Derived.Shelf.Strings.Cut
import Derived.Shelf.Strings.Count
import Derived.Shelf.Strings.Shaped
import Derived.Shelf.Strings.Prefix
import Derived.Shelf.Strings.Split
import Derived.Shelf.Strings.SplitShaped
import Derived.Shelf.Unicode.Decode
import Derived.Shelf.Strings.RuneCount
import Derived.Shelf.Strings.Explode
import Derived.Shelf.Unicode.DecodeSlow
import Derived.Shelf.Unicode.DecodeAny
import Derived.Shelf.Strings.BuilderCap
import Derived.Test.YtbnblcnabgdndaaGreatDoorProg
import Derived.Lib.SmallJoins
import Derived.Test.YtbnblcnabgdndaaGreatDoorCards
import Derived.Test.YtbnblcnabgdndaaGreatDoorTie
import Derived.Test.YtbnblcnabgdndaaGreatDoorClientTextsM1
namespace Go.Proofs.YtbnblcnabgdndaaGreatDoor
open Go.Pn Go.RowKit Go.Proofs _root_.Go.Proofs.Tryz
attribute [local irreducible] O C D
set_option maxHeartbeats 4000000 in
theorem clientTexts_spec (c:Cl.Call)(vd:Value)(F:Nat->Prop)(w:World)(hd:Sl byteE w F vd c.data)(hq:Cl.InI64 c.qty)(gw:Gw w):
 Ret prog 3 #[.agg #[.int .i64 c.op,str c.key,str c.other,str c.item,.int .i64 c.qty,vd]] w (λv w'=>v=.bool true∧Le w w'):=by
 have hrw:=gw.o;have hdo:=hd.oneC;refine enT [.agg #[.int .i64 c.op,str c.key,str c.other,str c.item,.int .i64 c.qty,vd]] 66 func3 rfl rfl (C.sr λK1=>O.box (v:=.agg #[.int .i64 c.op,str c.key,str c.other,str c.item,.int .i64 c.qty,vd]) rfl (λb1 w1 hb1 hz1 e1=>?_));have z1:=e1.size;have h1:=hz1.own;have hl1:=h1.lt;refine O.j (K1 (C.sq λK2=>C.sr λK3=>O.loadOA isAgg25 Z25 rfl h1 (leB rfl) (O.call call10 (args1 rfl) (short_spec c vd F _ (hd.L e1)) ?_)));rintro v_6 w2 ⟨bv6,rfl,hbv6,e2⟩;have z2:=e2.size;refine O.not rfl (K3 (C.cond rfl (λc7=>?_) (λc7=>?_)))
 ·
  refine C.sr λK4=>O.call call11 (argsN) (known_spec _ ((gw.L e1).L e2)) ?_
  rintro v_8 w3 ⟨rfl,e3⟩;have z3:=e3.size;refine O.j (K4 (C.ret (Outs.one rfl rfl ?_)));exact ⟨rfl,(Ext.T (Ext.T e1 e2) e3)⟩
 have hsm:Cl.Sm 200 c:=hbv6 (Cl.nn c7);have hs:=hsm.short (by decide);have htl:=Cl.text_sm hsm hq;have hbl:=Cl.bytes_sm hsm (by decide);refine C.skip (K2 (C.sr λK5=>O.loadOA isAgg25 Z25 rfl (h1.L e2) (leB rfl) ?_));have t0:=(gw.L e1).L e2;have t1:=(hd.L e1).L e2;refine O.call call12 (args1 rfl) (encode_spec c vd F _ t1 hs t0) ?_;rintro v_11 w4 ⟨rv11,rfl,hrv11,e4⟩;have z4:=e4.size;have sp1_:∃q,q=(if Cl.valid c=true then Cl.bytes c else []):=⟨_,rfl⟩
 obtain ⟨lx11,hlx11⟩:=sp1_;have sp2_:∃q:Int,q=(if Cl.valid c=true then 0 else 2):=⟨_,rfl⟩
 obtain ⟨ex11,hex11⟩:=sp2_;rw[<-hlx11] at hrv11;have h11s:=hrv11.sl;refine O.mv (O.extract rfl rfl (O.extract rfl rfl (O.cast (v':=.int .i64 ex11) (by rw[hex11];rfl) (O.j (O.j (K5 (C.sq λK6=>C.sq λK7=>C.join (λf w f' w'=>Le w w'∧f' 1=f 1∧f' 2=f 2∧f' 3=f 3∧f' 4=f 4∧f' 18=.bool false) ?_ ?_)))))))
 ·
  refine C.draw (by kernel_rfl) λw5 e5=>?_
  have z5:=e5.size;have t2:=((h1.L e2).L e4).L e5;refine D.t 0 rfl leR (λ_ hw_ _ hN=>O.loadOA isAgg25 Z25 rfl (t2.L hw_) (leB rfl) (O.o hN)) (D.t 2 rfl leR (λ_ hw_ _ hN=>O.loadOA isAgg25 Z25 rfl (t2.L hw_) (leB rfl) (O.o hN)) (D.on 1 rfl rfl (O.call call13 (args1 rfl) (valid_spec c vd F _ ((t1.L e4).L e5) hs ((t0.L e4).L e5)) ?_)));rintro v_15 w6 ⟨rfl,e6⟩;have z6:=e6.size;refine O.o ⟨e6,D.on 3 rfl rfl (O.call call14 (args1 rfl) (rvalid_spec c vd F _ (((t1.L e4).L e5).L e6) hs) ?_)⟩;rintro v_17 w7 ⟨rfl,e7⟩;have z7:=e7.size;refine O.o ⟨(Ext.T e6 e7),D.t 4 rfl (Ext.T e6 e7) (λ_ _ _ hN=>O.neqB underlying4 rfl rfl (O.o hN)) (D.cast (v':=.bool false) (cB (by exact dF (λh=>h rfl))) (D.dn ?_))⟩;exact ⟨(Ext.T (Ext.T e5 e6) e7),rfl,rfl,rfl,rfl,rfl⟩
 rintro f_1 w8 ⟨e_1,s1_1,s2_1,s3_1,s4_1,s18_1⟩;have z_1:=e_1.size;refine K7 (C.condF s18_1 (C.skip (K6 (C.sq λK8=>C.sr λK9=>?_))));have t3:=(h1.L e2).L e4;refine O.loadOA isAgg25 Z25 s1_1 (t3.L e_1) (leB rfl) ?_;have t4:=(t1.L e4).L e_1;refine O.call call14 (args1 rfl) (rvalid_spec c vd F _ t4 hs) ?_;rintro v_20 w9 ⟨rfl,e9⟩;have z9:=e9.size;refine O.not rfl (K9 (C.cond rfl (λc21=>?_) (λc21=>?_)))
 ·
  have hv:Cl.valid c=false:=Cl.nt c21;rw[hv] at hlx11 hex11;replace hlx11:lx11=[]:=hlx11;replace hex11:ex11=2:=hex11;refine C.sr λK10=>O.loadOA isAgg25 Z25 s1_1 ((t3.L e_1).L e9) (leB rfl) ?_
  have t5:=((t0.L e4).L e_1).L e9;refine O.call call15 (args3 rfl rfl rfl) (texts_spec c vd F [] 2 _ (t4.L e9) hs hq t5) ?_;rintro v_23 w10 ⟨bv23,rfl,hbv23,e10⟩;have z10:=e10.size;refine O.cast (v':=.bool true) (cB (by exact hbv23.2 (.inr ⟨hv,rfl,rfl⟩))) (O.mv (O.yes rfl rfl (O.mv (O.yes rfl rfl (O.len U23 s3_1 (((h11s.L e_1).L e9).L e10) (O.yes rfl rfl (O.eqlI rfl rfl (O.cast (v':=.bool true) (cB (by exact dT (by rw[hlx11];rfl))) (O.pickT rfl (O.mv (O.yes rfl rfl (O.mv (O.yes rfl rfl (O.eqlI s4_1 rfl (O.cast (v':=.bool true) (cB (by exact decide_eq_true hex11)) (O.pickT rfl (O.mv (O.yes rfl rfl (O.call call11 (argsN) (known_spec _ (t5.L e10)) ?_)))))))))))))))))));rintro v_34 w11 ⟨rfl,e11⟩;have z11:=e11.size;refine O.pickT rfl (O.j (K10 (C.ret (Outs.one rfl rfl ?_))));exact ⟨rfl,(Ext.T (Ext.T (Ext.T (Ext.T (Ext.T (Ext.T e1 e2) e4) e_1) e9) e10) e11)⟩
 have hv:Cl.valid c=true:=Cl.nn c21;rw[if_pos hv] at hlx11 hex11;refine C.skip (K8 (C.sq λK11=>C.sd λK12 w12 e12 z12=>?_));have t6:=(t3.L e_1).L e9;refine D.t 0 rfl leR (λ_ hw_ _ hN=>O.loadOA isAgg25 Z25 s1_1 ((t6.L e12).L hw_) (leB rfl) (O.o hN)) (D.t 1 rfl leR (λ_ hw_ _ hN=>O.loadOA isAgg25 Z25 s1_1 ((t6.L e12).L hw_) (leB rfl) (O.o hN)) (D.on 2 rfl rfl ?_));have t7:=(t4.L e9).L e12;refine O.call call16 (args1 rfl) (rtext_spec c vd F _ t7 hs hq hv) ?_;rintro v_38 w13 ⟨rfl,e13⟩;have z13:=e13.size;refine O.o ⟨e13,D.on 3 rfl rfl ?_⟩;have t8:=(t0.L e4).L e_1;have t9:=(t8.L e9).L e12;refine O.call call15 (args3 rfl rfl rfl) (texts_spec c vd F (Cl.text c) 0 _ (t7.L e13) hs hq (t9.L e13)) ?_;rintro v_39 w14 ⟨bv39,rfl,hbv39,e14⟩;have z14:=e14.size;have t10:=Ext.T e13 e14;refine O.o ⟨t10,D.cast (v':=.bool true) (cB (by exact hbv39.2 (.inl ⟨hv,rfl,rfl⟩))) (D.t 4 rfl t10 (λ_ _ _ hN=>O.not rfl (O.cast (v':=.bool false) rfl (O.o hN))) (D.mv 5 rfl t10 (D.ty 6 rfl rfl rfl rfl rfl t10 ⟨pure _,rfl⟩ (λ_ hw_ _ hN=>O.mv (O.o hN)) (D.ty 7 rfl rfl rfl rfl rfl t10 ⟨_,rfl⟩ (λ_ hw_ _ hN=>O.bytesS U23 U5 U9 s3_1 ((((h11s.L e_1).L e9).L e12).L hw_) (O.o hN)) (D.ty 8 rfl rfl rfl rfl rfl t10 ⟨_,rfl⟩ (λ_ hw_ _ hN=>O.loadOA isAgg25 Z25 s1_1 ((t6.L e12).L hw_) (leB rfl) (O.o hN)) (D.oneYes (i:=9) rfl rfl rfl (by kernel_rfl) ?_))))))⟩;have t11:=(t7.L e13).L e14;refine O.call call17 (args1 rfl) (rbytes_spec c vd F _ t11 hs hv) ?_;rintro v_45 w15 ⟨e15,h45⟩;have z15:=e15.size;have t12:=Ext.T t10 e15;refine O.o ⟨t12,?_⟩;have h45s:=h45.sl;refine D.oneYes (i:=10) rfl rfl rfl (by kernel_rfl) (O.bytesS U23 U5 U9 rfl h45s (O.o ⟨t12,D.ty 11 rfl rfl rfl rfl rfl t12 ⟨_,rfl⟩ (λ_ hw_ _ hN=>O.neqS rfl rfl (O.o hN)) (D.cast (v':=.bool false) (cB (by exact dF (λh=>h hlx11))) (D.tk 12 rfl rfl rfl rfl t12 pick_form (λ_ hw_ _ hN=>O.pickF rfl (O.o hN)) (D.mv 13 rfl t12 (D.ty 14 rfl rfl rfl rfl rfl t12 ⟨pure _,rfl⟩ (λ_ hw_ _ hN=>O.mv (O.o hN)) (D.ty 15 rfl rfl rfl rfl rfl t12 ⟨_,rfl⟩ (λ_ hw_ _ hN=>O.neqI s4_1 rfl (O.o hN)) ?_)))))⟩));refine D.cast (v':=.bool false) (cB (by exact dF (λh=>h hex11))) (D.tk 16 rfl rfl rfl rfl t12 pick_form (λ_ hw_ _ hN=>O.pickF rfl (O.o hN)) (K12 (C.condF rfl (C.skip (K11 (C.sd λK13 w16 e16 z16=>?_))))));have t13:=(t6.L e12).L e13;have t14:=(t13.L e14).L e15;refine D.t 0 rfl leR (λ_ hw_ _ hN=>O.loadOA isAgg25 Z25 s1_1 ((t14.L e16).L hw_) (leB rfl) (O.o hN)) (D.t 2 rfl leR (λ_ hw_ _ hN=>O.loadOA isAgg25 Z25 s1_1 ((t14.L e16).L hw_) (leB rfl) (O.o hN)) (D.on 1 rfl rfl ?_));have t15:=(t11.L e15).L e16;refine O.call call16 (args1 rfl) (rtext_spec c vd F _ t15 hs hq hv) ?_;rintro v_54 w17 ⟨rfl,e17⟩;have z17:=e17.size;refine O.o ⟨e17,D.on 3 rfl rfl ?_⟩;have t16:=(t9.L e13).L e14;have t17:=(t16.L e15).L e16;refine O.call call18 (args3 rfl rfl rfl) (parses_spec (Cl.text c) c vd F 0 _ (by omega) (t15.L e17) (t17.L e17)) ?_;rintro v_56 w18 ⟨bv56,rfl,hbv56,e18⟩;have z18:=e18.size;have t18:=Ext.T e17 e18;refine O.o ⟨t18,D.cast (v':=.bool true) (cB (by exact hbv56.2 (.inl ⟨rfl,hv,hq,rfl⟩))) (D.mv 4 rfl t18 (D.ty 5 rfl rfl rfl rfl rfl t18 ⟨_,rfl⟩ (λ_ hw_ _ hN=>O.loadOA isAgg25 Z25 s1_1 ((t14.L e16).L hw_) (leB rfl) (O.o hN)) (D.ty 7 rfl rfl rfl rfl rfl t18 ⟨_,rfl⟩ (λ_ hw_ _ hN=>O.loadOA isAgg25 Z25 s1_1 ((t14.L e16).L hw_) (leB rfl) (O.o hN)) (D.oneYes (i:=6) rfl rfl rfl (by kernel_rfl) ?_))))⟩;have t19:=(t15.L e17).L e18;refine O.call call17 (args1 rfl) (rbytes_spec c vd F _ t19 hs hv) ?_;rintro v_59 w19 ⟨e19,h59⟩;have z19:=e19.size;have t20:=Ext.T t18 e19;refine O.o ⟨t20,?_⟩;have h59s:=h59.sl;refine D.oneYes (i:=8) rfl rfl rfl (by kernel_rfl) ?_;have t21:=(t17.L e17).L e18;refine O.call call19 (args3 rfl rfl rfl) (decodes_spec v_59 (Cl.bytes c) (bk v_59) c vd F 0 _ h59s (by omega) (t19.L e19) (t21.L e19)) ?_;rintro v_61 w20 ⟨bv61,rfl,hbv61,e20⟩;have z20:=e20.size;have t22:=Ext.T t20 e20;refine O.o ⟨t22,D.cast (v':=.bool true) (cB (by exact hbv61.2 (.inl ⟨rfl,hv,hq,rfl⟩))) (D.tk 9 rfl rfl rfl rfl t22 pick_form (λ_ hw_ _ hN=>O.pickT rfl (O.o hN)) (D.mv 10 rfl t22 (D.oneYes (i:=11) rfl rfl rfl (by kernel_rfl) (O.call call11 (argsN) (known_spec _ ((t21.L e19).L e20)) ?_))))⟩;rintro v_64 w21 ⟨rfl,e21⟩;have z21:=e21.size;have t23:=Ext.T t22 e21;refine O.o ⟨t23,D.tk 12 rfl rfl rfl rfl t23 pick_form (λ_ hw_ _ hN=>O.pickT rfl (O.o hN)) (D.as 13 rfl t23 (K13 (C.ret (Outs.one rfl rfl ?_))))⟩;exact ⟨rfl,(Ext.T (Ext.T (Ext.T (Ext.T (Ext.T (Ext.T (Ext.T (Ext.T (Ext.T (Ext.T (Ext.T (Ext.T (Ext.T (Ext.T e1 e2) e4) e_1) e9) e12) e13) e14) e15) e16) e17) e18) e19) e20) e21)⟩
end Go.Proofs.YtbnblcnabgdndaaGreatDoor
