/-
 The walk of the law ClientAnswers. Conditions: what lies in memory.
-/
import Derived.Shelf.Strings.Builder1
import Derived.Shelf.Strings.Builder2
import Derived.Shelf.Strings.OnBuilder
import Derived.Shelf.Small.Strs
import Derived.Shelf.Strings.BuilderF
import Derived.Shelf.Strings.BuilderK
import Derived.Shelf.Utf8.RuneCount
import Derived.Shelf.Strings.Builder2Cap
import Derived.Shelf.Strconv.Atoi
import Derived.Shelf.Strconv.Itoa0
import Derived.Shelf.Strconv.Itoa1
import Derived.Shelf.LaysM
import Derived.Shelf.Strconv.Itoa2
import Derived.Shelf.Strconv.Itoa3
import Derived.Shelf.Strconv.AtoiErrFast
import Derived.Shelf.Strconv.ParseIntEmpty
import Derived.Shelf.Strconv.AtoiFail
import Derived.Shelf.Strconv.Clone
import Derived.Shelf.Strconv.SyntaxError
import Derived.Shelf.LaysC
import Derived.Shelf.Strconv.ToError
import Derived.Shelf.Strconv.Lower
import Derived.Shelf.Strconv.ParseUint10
import Derived.Shelf.Strconv.ParseUint10Empty
import Derived.Shelf.Strconv.ParseUint10Any
import Derived.Shelf.Strconv.ParseInt10
import Derived.Shelf.Strconv.AtoiLong
import Derived.Shelf.Strconv.AtoiInnerAll
import Derived.Shelf.Strconv.RangeError
import Derived.Shelf.Strconv.ToErrorRange
import Derived.Shelf.Strconv.AtoiAll
import Derived.Shelf.Strconv.ErrVarAll
import Derived.Shelf.Strings.Search1
import Derived.Shelf.Strings.Search2
import Derived.Shelf.Strings.Search3
import Derived.Shelf.Strings.Cut
import Derived.Shelf.Strings.Count
import Derived.Shelf.Strings.Shaped
import Derived.Shelf.Strings.Prefix
import Derived.Shelf.Strings.Split
import Derived.Shelf.Strings.SplitShaped
import Derived.Shelf.Unicode.Decode
import Derived.Shelf.Strings.RuneCount
import Derived.Shelf.Strings.Explode
import Derived.Shelf.Unicode.DecodeSlow
import Derived.Shelf.Unicode.DecodeAny
import Derived.Shelf.Strings.BuilderCap
import Derived.Test.YtbnblcnabgdndaaGreatDoorProg
import Derived.Lib.SmallJoins
import Derived.Test.YtbnblcnabgdndaaGreatDoorCards
import Derived.Test.YtbnblcnabgdndaaGreatDoorTie
import Derived.Test.YtbnblcnabgdndaaGreatDoorClientAnswersM1
namespace Go.Proofs.YtbnblcnabgdndaaGreatDoor
open Go.Pn Go.RowKit Go.Proofs _root_.Go.Proofs.Tryz
attribute [local irreducible] O C D
set_option maxHeartbeats 4000000 in
theorem clientAnswers_spec (a:Cl.Ans)(vl vb:Value)(ro:List Raw)(F:Nat->Prop)(b:Cl.Ans)(ul ub:Value)(so:List Raw)(F2:Nat->Prop)(w:World)(hl:Sl lineF.enc w F vl a.lines)(hb:Sl slF.enc w F vb ro)(hbs:SlsL byteE w F ro a.bats)(kl:Sl lineF.enc w F2 ul b.lines)(kb:Sl slF.enc w F2 ub so)(kbs:SlsL byteE w F2 so b.bats)(hA:Cl.InA a)(gw:Gw w):
 Ret prog 9 #[.agg #[.int .i64 a.op,.int .i64 a.err,.int .i64 a.count,vl,vb],.agg #[.int .i64 b.op,.int .i64 b.err,.int .i64 b.count,ul,ub]] w (λv w'=>v=.bool true∧Le w w'):=by
 have hrw:=gw.o;have hlo:=hl.oneC;have hbo:=hb.oneC;have hle:=hl.le;have hbe:=hb.le;have hrl:=hbs.1;have klo:=kl.oneC;have kbo:=kb.oneC;have kle:=kl.le;have kbe:=kb.le;have krl:=kbs.1;refine enT [.agg #[.int .i64 a.op,.int .i64 a.err,.int .i64 a.count,vl,vb],.agg #[.int .i64 b.op,.int .i64 b.err,.int .i64 b.count,ul,ub]] 57 func9 rfl rfl (C.sr λK1=>O.box (v:=.agg #[.int .i64 a.op,.int .i64 a.err,.int .i64 a.count,vl,vb]) rfl (λb2 w1 hb2 hz2 e1=>?_));have z1:=e1.size;have h2:=hz2.own;have hl2:=h2.lt;refine O.box (v:=.agg #[.int .i64 b.op,.int .i64 b.err,.int .i64 b.count,ul,ub]) rfl (λb3 w2 hb3 hz3 e2=>?_);have z2:=e2.size;have h3:=hz3.own;have hl3:=h3.lt;refine O.j (K1 (C.sq λK2=>C.sr λK3=>O.loadOA isAgg48 Z48 rfl (h2.L e2) (leB rfl) ?_));have t0:=(hb.L e1).L e2;have t1:=(hl.L e1).L e2;have t2:=(hbs.L e1).L e2;refine O.call call23 (args1 rfl) (brief_spec a vl vb ro F _ t1 t0 t2) ?_;rintro v_6 w3 ⟨bv6,rfl,hbv6,e3⟩;have z3:=e3.size;refine O.not rfl (O.mv (O.split (x:=.tmp 8) rfl (λc8=>?_) (λc8=>?_)))
 ·
  refine O.no rfl (noB (isT' rfl c8) rfl) (O.no rfl (noB (isT' rfl c8) rfl) (O.no rfl (noB (isT' rfl c8) rfl) (O.pickT (isT' rfl c8) (K3 (C.condT rfl (C.sr λK4=>O.call call11 (argsN) (known_spec _ (((gw.L e1).L e2).L e3)) ?_))))));rintro v_13 w4 ⟨rfl,e4⟩;have z4:=e4.size;refine O.j (K4 (C.ret (Outs.one rfl rfl ?_)));exact ⟨rfl,(Ext.T (Ext.T (Ext.T e1 e2) e3) e4)⟩
 have hba:=hbv6 (Cl.nn c8);have hs:=hba.short;refine O.yes rfl (isF' rfl c8) (O.loadOA isAgg48 Z48 rfl (h3.L e3) (leB rfl) (O.yes rfl (isF' rfl c8) ?_));have t3:=(kb.L e1).L e2;have t4:=(kl.L e1).L e2;have t5:=(kbs.L e1).L e2;refine O.call call23 (args1 rfl) (brief_spec b ul ub so F2 _ (t4.L e3) (t3.L e3) (t5.L e3)) ?_;rintro v_10 w5 ⟨bv10,rfl,hbv10,e5⟩;have z5:=e5.size;refine O.yes rfl (isF' rfl c8) (O.not rfl (O.pickF (isF' rfl c8) (K3 (C.cond rfl (λc12=>?_) (λc12=>?_)))))
 ·
  refine C.sr λK5=>O.call call11 (argsN) (known_spec _ ((((gw.L e1).L e2).L e3).L e5)) ?_
  rintro v_13 w6 ⟨rfl,e6⟩;have z6:=e6.size;refine O.j (K5 (C.ret (Outs.one rfl rfl ?_)));exact ⟨rfl,(Ext.T (Ext.T (Ext.T (Ext.T e1 e2) e3) e5) e6)⟩
 refine C.skip (K2 (C.sq λK6=>C.sq λK7=>C.join (λf w f' w'=>Le w w'∧f' 2=f 2∧f' 4=f 4∧f' 35=.bool false) ?_ ?_))
 ·
  refine C.draw (by kernel_rfl) λw7 e7=>?_
  have z7:=e7.size;have t6:=(h2.L e2).L e3;have t7:=(t6.L e5).L e7;refine D.t 0 rfl leR (λ_ hw_ _ hN=>O.loadOA isAgg48 Z48 rfl (t7.L hw_) (leB rfl) (O.o hN)) ?_;have t8:=(h3.L e3).L e5;refine D.t 1 rfl leR (λ_ hw_ _ hN=>O.loadOA isAgg48 Z48 rfl ((t8.L e7).L hw_) (leB rfl) (O.o hN)) (D.t 3 rfl leR (λ_ hw_ _ hN=>O.loadOA isAgg48 Z48 rfl (t7.L hw_) (leB rfl) (O.o hN)) (D.t 4 rfl leR (λ_ hw_ _ hN=>O.loadOA isAgg48 Z48 rfl ((t8.L e7).L hw_) (leB rfl) (O.o hN)) (D.on 2 rfl rfl ?_)));have t9:=(t0.L e3).L e5;have t10:=(t1.L e3).L e5;have t11:=(t2.L e3).L e5;have t12:=(t3.L e3).L e5;have t13:=(t4.L e3).L e5;have t14:=(t5.L e3).L e5;refine O.call call34 (args2 rfl rfl) (same_spec a vl vb ro F b ul ub so F2 _ (t10.L e7) (t9.L e7) (t11.L e7) (t13.L e7) (t12.L e7) (t14.L e7)) ?_;rintro v_16 w8 ⟨rfl,e8⟩;have z8:=e8.size;refine O.o ⟨e8,D.on 5 rfl rfl ?_⟩;have t15:=(t9.L e7).L e8;have t16:=(t10.L e7).L e8;have t17:=(t11.L e7).L e8;have t18:=(t12.L e7).L e8;have t19:=(t13.L e7).L e8;have t20:=(t14.L e7).L e8;refine O.call call35 (args2 rfl rfl) (rsame_spec a vl vb ro F b ul ub so F2 _ t16 t15 t17 t19 t18 t20) ?_;rintro v_19 w9 ⟨rfl,e9⟩;have z9:=e9.size;refine O.o ⟨(Ext.T e8 e9),D.t 6 rfl (Ext.T e8 e9) (λ_ _ _ hN=>O.neqB underlying4 rfl rfl (O.o hN)) (D.cast (v':=.bool false) (cB (by exact dF (λh=>h rfl))) (D.mv 7 rfl (Ext.T e8 e9) (D.ty 8 rfl rfl rfl rfl rfl (Ext.T e8 e9) ⟨_,rfl⟩ (λ_ hw_ _ hN=>O.loadOA isAgg48 Z48 rfl ((t8.L e7).L hw_) (leB rfl) (O.o hN)) (D.ty 9 rfl rfl rfl rfl rfl (Ext.T e8 e9) ⟨_,rfl⟩ (λ_ hw_ _ hN=>O.loadOA isAgg48 Z48 rfl (t7.L hw_) (leB rfl) (O.o hN)) ?_))))⟩;refine D.ty 11 rfl rfl rfl rfl rfl (Ext.T e8 e9) ⟨_,rfl⟩ (λ_ hw_ _ hN=>O.loadOA isAgg48 Z48 rfl (t7.L hw_) (leB rfl) (O.o hN)) (D.ty 12 rfl rfl rfl rfl rfl (Ext.T e8 e9) ⟨_,rfl⟩ (λ_ hw_ _ hN=>O.loadOA isAgg48 Z48 rfl ((t8.L e7).L hw_) (leB rfl) (O.o hN)) (D.oneYes (i:=10) rfl rfl rfl (by kernel_rfl) (O.call call34 (args2 rfl rfl) (same_spec b ul ub so F2 a vl vb ro F _ (t19.L e9) (t18.L e9) (t20.L e9) (t16.L e9) (t15.L e9) (t17.L e9)) ?_)));rintro v_24 w10 ⟨rfl,e10⟩;have z10:=e10.size;have t21:=Ext.T (Ext.T e8 e9) e10;refine O.o ⟨t21,D.oneYes (i:=13) rfl rfl rfl (by kernel_rfl) ?_⟩;have t22:=(t15.L e9).L e10;have t23:=(t16.L e9).L e10;have t24:=(t17.L e9).L e10;refine O.call call35 (args2 rfl rfl) (rsame_spec a vl vb ro F b ul ub so F2 _ t23 t22 t24 ((t19.L e9).L e10) ((t18.L e9).L e10) ((t20.L e9).L e10)) ?_;rintro v_27 w11 ⟨rfl,e11⟩;have z11:=e11.size;have t25:=Ext.T t21 e11;refine O.o ⟨t25,D.ty 14 rfl rfl rfl rfl rfl t25 ⟨_,rfl⟩ (λ_ hw_ _ hN=>O.neqB underlying4 rfl rfl (O.o hN)) (D.cast (v':=.bool false) (cB (by exact dF (λh=>h (Cl.sameA_comm b a)))) (D.tk 15 rfl rfl rfl rfl t25 pick_form (λ_ hw_ _ hN=>O.pickF rfl (O.o hN)) (D.mv 16 rfl t25 (D.ty 17 rfl rfl rfl rfl rfl t25 ⟨_,rfl⟩ (λ_ hw_ _ hN=>O.loadOA isAgg48 Z48 rfl (t7.L hw_) (leB rfl) (O.o hN)) (D.ty 18 rfl rfl rfl rfl rfl t25 ⟨_,rfl⟩ (λ_ hw_ _ hN=>O.loadOA isAgg48 Z48 rfl (t7.L hw_) (leB rfl) (O.o hN)) (D.oneYes (i:=19) rfl rfl rfl (by kernel_rfl) ?_))))))⟩;refine O.call call34 (args2 rfl rfl) (same_spec a vl vb ro F a vl vb ro F _ (t23.L e11) (t22.L e11) (t24.L e11) (t23.L e11) (t22.L e11) (t24.L e11)) ?_;rintro v_33 w12 ⟨rfl,e12⟩;have z12:=e12.size;have t26:=Ext.T t25 e12;refine O.o ⟨t26,D.cast (v':=.bool true) (cB (by exact Cl.sameA_self a)) (D.ty 20 rfl rfl rfl rfl rfl t26 ⟨_,rfl⟩ (λ_ hw_ _ hN=>O.not rfl (O.cast (v':=.bool false) rfl (O.o hN))) (D.tk 21 rfl rfl rfl rfl t26 pick_form (λ_ hw_ _ hN=>O.pickF rfl (O.o hN)) (D.dn ?_)))⟩;exact ⟨(Ext.T (Ext.T (Ext.T (Ext.T (Ext.T e7 e8) e9) e10) e11) e12),rfl,rfl,rfl⟩
 rintro f_1 w13 ⟨e_1,s2_1,s4_1,s35_1⟩;have z_1:=e_1.size;refine K7 (C.condF s35_1 (C.skip (K6 (C.sq λK8=>C.sr λK9=>?_))));have t27:=(h2.L e2).L e3;have t28:=(t27.L e5).L e_1;refine O.loadOA isAgg48 Z48 s2_1 t28 (leB rfl) ?_;have t29:=(t0.L e3).L e5;have t30:=(t1.L e3).L e5;have t31:=(t2.L e3).L e5;refine O.call call24 (args1 rfl) (ranswers_spec a vl vb ro F _ (t30.L e_1) (t29.L e_1) (t31.L e_1) hs) ?_;rintro v_37 w14 ⟨rfl,e14⟩;have z14:=e14.size;refine O.not rfl (K9 (C.cond rfl (λc38=>?_) (λc38=>?_)))
 ·
  have hT:Cl.hasT a=false:=Cl.nt c38;refine C.sr λK10=>O.loadOA isAgg48 Z48 s2_1 (t28.L e14) (leB rfl) ?_
  have t32:=((gw.L e1).L e2).L e3;have t33:=((t32.L e5).L e_1).L e14;refine O.call call33 (args3 rfl rfl rfl) (says_spec a vl vb ro F [] 2 _ ((t30.L e_1).L e14) ((t29.L e_1).L e14) ((t31.L e_1).L e14) hs hA t33) ?_;rintro v_40 w15 ⟨bv40,rfl,hbv40,e15⟩;have z15:=e15.size;refine O.cast (v':=.bool true) (cB (by exact hbv40.2 (.inr ⟨hT,rfl,rfl⟩))) (O.mv (O.yes rfl rfl (O.call call11 (argsN) (known_spec _ (t33.L e15)) ?_)));rintro v_42 w16 ⟨rfl,e16⟩;have z16:=e16.size;refine O.pickT rfl (O.j (K10 (C.ret (Outs.one rfl rfl ?_))));exact ⟨rfl,(Ext.T (Ext.T (Ext.T (Ext.T (Ext.T (Ext.T (Ext.T e1 e2) e3) e5) e_1) e14) e15) e16)⟩
 have hT:Cl.hasT a=true:=Cl.nn c38;have hsl:=Cl.said_sm hT hA hba;refine C.skip (K8 (C.sd λK11 w17 e17 z17=>?_));have t34:=(t28.L e14).L e17;refine D.t 0 rfl leR (λ_ hw_ _ hN=>O.loadOA isAgg48 Z48 s2_1 (t34.L hw_) (leB rfl) (O.o hN)) (D.t 1 rfl leR (λ_ hw_ _ hN=>O.loadOA isAgg48 Z48 s2_1 (t34.L hw_) (leB rfl) (O.o hN)) (D.on 2 rfl rfl ?_));have t35:=(t29.L e_1).L e14;have t36:=(t30.L e_1).L e14;have t37:=(t31.L e_1).L e14;refine O.call call25 (args1 rfl) (rsaid_spec a vl vb ro F _ (t36.L e17) (t35.L e17) (t37.L e17) hs hA hT) ?_;rintro v_46 w18 ⟨rfl,e18⟩;have z18:=e18.size;refine O.o ⟨e18,D.on 3 rfl rfl ?_⟩;have t38:=(gw.L e1).L e2;have t39:=(t38.L e3).L e5;have t40:=(t35.L e17).L e18;have t41:=(t36.L e17).L e18;have t42:=(t37.L e17).L e18;have t43:=(t39.L e_1).L e14;have t44:=(t43.L e17).L e18;refine O.call call33 (args3 rfl rfl rfl) (says_spec a vl vb ro F (Cl.said a) 0 _ t41 t40 t42 hs hA t44) ?_;rintro v_47 w19 ⟨bv47,rfl,hbv47,e19⟩;have z19:=e19.size;have t45:=Ext.T e18 e19;refine O.o ⟨t45,D.cast (v':=.bool true) (cB (by exact hbv47.2 (.inl ⟨hT,rfl,rfl⟩))) (D.mv 4 rfl t45 (D.ty 5 rfl rfl rfl rfl rfl t45 ⟨_,rfl⟩ (λ_ hw_ _ hN=>O.loadOA isAgg48 Z48 s2_1 (t34.L hw_) (leB rfl) (O.o hN)) (D.ty 7 rfl rfl rfl rfl rfl t45 ⟨_,rfl⟩ (λ_ hw_ _ hN=>O.loadOA isAgg48 Z48 s2_1 (t34.L hw_) (leB rfl) (O.o hN)) (D.oneYes (i:=6) rfl rfl rfl (by kernel_rfl) (O.call call25 (args1 rfl) (rsaid_spec a vl vb ro F _ (t41.L e19) (t40.L e19) (t42.L e19) hs hA hT) ?_)))))⟩;rintro v_50 w20 ⟨rfl,e20⟩;have z20:=e20.size;have t46:=Ext.T t45 e20;refine O.o ⟨t46,D.oneYes (i:=8) rfl rfl rfl (by kernel_rfl) ?_⟩;have t47:=(t44.L e19).L e20;refine O.call call27 (args3 rfl rfl rfl) (reads_spec (Cl.said a) a vl vb ro F 0 _ (by omega) ((t41.L e19).L e20) ((t40.L e19).L e20) ((t42.L e19).L e20) t47) ?_;rintro v_52 w21 ⟨bv52,rfl,hbv52,e21⟩;have z21:=e21.size;have t48:=Ext.T t46 e21;refine O.o ⟨t48,D.cast (v':=.bool true) (cB (by exact hbv52.2 (.inl ⟨rfl,hT,hA,rfl⟩))) (D.tk 9 rfl rfl rfl rfl t48 pick_form (λ_ hw_ _ hN=>O.pickT rfl (O.o hN)) (D.mv 10 rfl t48 (D.oneYes (i:=11) rfl rfl rfl (by kernel_rfl) (O.call call11 (argsN) (known_spec _ (t47.L e21)) ?_))))⟩;rintro v_55 w22 ⟨rfl,e22⟩;have z22:=e22.size;have t49:=Ext.T t48 e22;refine O.o ⟨t49,D.tk 12 rfl rfl rfl rfl t49 pick_form (λ_ hw_ _ hN=>O.pickT rfl (O.o hN)) (D.as 13 rfl t49 (K11 (C.ret (Outs.one rfl rfl ?_))))⟩;exact ⟨rfl,(Ext.T (Ext.T (Ext.T (Ext.T (Ext.T (Ext.T (Ext.T (Ext.T (Ext.T (Ext.T (Ext.T e1 e2) e3) e5) e_1) e14) e17) e18) e19) e20) e21) e22)⟩
end Go.Proofs.YtbnblcnabgdndaaGreatDoor
