/-
 The walk of the law ClientReads. Conditions: what lies in memory.
-/
import Derived.Shelf.Strings.Builder1
import Derived.Shelf.Strings.Builder2
import Derived.Shelf.Strings.OnBuilder
import Derived.Shelf.Small.Strs
import Derived.Shelf.Strings.BuilderF
import Derived.Shelf.Strings.BuilderK
import Derived.Shelf.Utf8.RuneCount
import Derived.Shelf.Strings.Builder2Cap
import Derived.Shelf.Strconv.Atoi
import Derived.Shelf.Strconv.Itoa0
import Derived.Shelf.Strconv.Itoa1
import Derived.Shelf.LaysM
import Derived.Shelf.Strconv.Itoa2
import Derived.Shelf.Strconv.Itoa3
import Derived.Shelf.Strconv.AtoiErrFast
import Derived.Shelf.Strconv.ParseIntEmpty
import Derived.Shelf.Strconv.AtoiFail
import Derived.Shelf.Strconv.Clone
import Derived.Shelf.Strconv.SyntaxError
import Derived.Shelf.LaysC
import Derived.Shelf.Strconv.ToError
import Derived.Shelf.Strconv.Lower
import Derived.Shelf.Strconv.ParseUint10
import Derived.Shelf.Strconv.ParseUint10Empty
import Derived.Shelf.Strconv.ParseUint10Any
import Derived.Shelf.Strconv.ParseInt10
import Derived.Shelf.Strconv.AtoiLong
import Derived.Shelf.Strconv.AtoiInnerAll
import Derived.Shelf.Strconv.RangeError
import Derived.Shelf.Strconv.ToErrorRange
import Derived.Shelf.Strconv.AtoiAll
import Derived.Shelf.Strconv.ErrVarAll
import Derived.Shelf.Strings.Search1
import Derived.Shelf.Strings.Search2
import Derived.Shelf.Strings.Search3
import Derived.Shelf.Strings.Cut
import Derived.Shelf.Strings.Count
import Derived.Shelf.Strings.Shaped
import Derived.Shelf.Strings.Prefix
import Derived.Shelf.Strings.Split
import Derived.Shelf.Strings.SplitShaped
import Derived.Shelf.Unicode.Decode
import Derived.Shelf.Strings.RuneCount
import Derived.Shelf.Strings.Explode
import Derived.Shelf.Unicode.DecodeSlow
import Derived.Shelf.Unicode.DecodeAny
import Derived.Shelf.Strings.BuilderCap
import Derived.Test.YtbnblcnabgdndaaGreatDoorProg
import Derived.Lib.SmallJoins
import Derived.Test.YtbnblcnabgdndaaGreatDoorCards
import Derived.Test.YtbnblcnabgdndaaGreatDoorTie
import Derived.Test.YtbnblcnabgdndaaGreatDoorClientReadsM1
namespace Go.Proofs.YtbnblcnabgdndaaGreatDoor
open Go.Pn Go.RowKit Go.Proofs _root_.Go.Proofs.Tryz
attribute [local irreducible] O C D
set_option maxHeartbeats 4000000 in
theorem clientReads_spec (s:List UInt8)(a:Cl.Ans)(vl vb:Value)(ro:List Raw)(F:Nat->Prop)(at16:BitVec 16)(more:List UInt8)(keep:Bool)(w:World)(hl:Sl lineF.enc w F vl a.lines)(hb:Sl slF.enc w F vb ro)(hbs:SlsL byteE w F ro a.bats)(hA:Cl.InA a)(gw:Gw w):
 Ret prog 6 #[str (s),.agg #[.int .i64 a.op,.int .i64 a.err,.int .i64 a.count,vl,vb],.int .u16 ((at16).toNat:Int),str (more),.bool (keep)] w (λv w'=>v=.bool true∧Le w w'):=by
 have hrw:=gw.o;have hlo:=hl.oneC;have hbo:=hb.oneC;have hle:=hl.le;have hbe:=hb.le;have hrl:=hbs.1;obtain ⟨ie9,ti9,ts9,tb9,tz9⟩:=inf9;refine enT [str (s),.agg #[.int .i64 a.op,.int .i64 a.err,.int .i64 a.count,vl,vb],.int .u16 ((at16).toNat:Int),str (more),.bool (keep)] 97 func6 rfl rfl (C.sr λK1=>O.box (v:=.agg #[.int .i64 a.op,.int .i64 a.err,.int .i64 a.count,vl,vb]) rfl (λb6 w1 hb6 hz6 e1=>?_));have z1:=e1.size;have h6:=hz6.own;have hl6:=h6.lt;refine O.j (K1 (C.sq λK2=>C.sr λK3=>O.mv (O.lenS U9 rfl (O.gtrI rfl rfl (O.mv (O.splitD (x:=.tmp 21) rfl (λc21=>?_) (λc21=>?_)))))))
 ·
  refine O.no rfl (noB (isT rfl c21) rfl) (O.no rfl (noB (isT rfl c21) rfl) (O.no rfl (noB (isT rfl c21) rfl) (O.pickT (isT rfl c21) (O.mv (O.no rfl (noB rfl rfl) (O.no rfl (noB rfl rfl) (O.no rfl (noB rfl rfl) (O.pickT rfl (K3 (C.condT rfl (C.sr λK4=>O.call call11 (argsN) (known_spec _ (gw.L e1)) ?_)))))))))));rintro v_31 w2 ⟨rfl,e2⟩;have z2:=e2.size;refine O.j (K4 (C.ret (Outs.one rfl rfl ?_)));exact ⟨rfl,(Ext.T e1 e2)⟩
 refine O.yes rfl (isF rfl c21) (O.loadOA isAgg48 Z48 rfl h6 (leB rfl) (O.yes rfl (isF rfl c21) (O.call call23 (args1 rfl) (brief_spec a vl vb ro F _ (hl.L e1) (hb.L e1) (hbs.L e1)) ?_)));rintro v_23 w3 ⟨bv23,rfl,hbv23,e3⟩;have z3:=e3.size;refine O.yes rfl (isF rfl c21) (O.not rfl (O.pickF (isF rfl c21) (O.mv (O.split (x:=.tmp 26) rfl (λc26=>?_) (λc26=>?_)))))
 ·
  refine O.no rfl (noB (isT' rfl c26) rfl) (O.no rfl (noB (isT' rfl c26) rfl) (O.no rfl (noB (isT' rfl c26) rfl) (O.pickT (isT' rfl c26) (K3 (C.condT rfl (C.sr λK5=>O.call call11 (argsN) (known_spec _ ((gw.L e1).L e3)) ?_))))));rintro v_31 w4 ⟨rfl,e4⟩;have z4:=e4.size;refine O.j (K5 (C.ret (Outs.one rfl rfl ?_)));exact ⟨rfl,(Ext.T (Ext.T e1 e3) e4)⟩
 have hba:=hbv23 (Cl.nn c26);have hs:=hba.short;refine O.yes rfl (isF' rfl c26) (O.mv (O.yes rfl (isF' rfl c26) (O.lenS U9 rfl (O.yes rfl (isF' rfl c26) (O.gtrI rfl rfl (O.pickF (isF' rfl c26) (K3 (C.condD rfl (λc30=>?_) (λc30=>?_)))))))))
 ·
  refine C.sr λK6=>O.call call11 (argsN) (known_spec _ ((gw.L e1).L e3)) ?_
  rintro v_31 w5 ⟨rfl,e5⟩;have z5:=e5.size;refine O.j (K6 (C.ret (Outs.one rfl rfl ?_)));exact ⟨rfl,(Ext.T (Ext.T e1 e3) e5)⟩
 refine C.skip (K2 (C.sr λK7=>O.mv ?_));have sp1_:∃n,n=w3.heap.size:=⟨_,rfl⟩
 obtain ⟨BA,hBA⟩:=sp1_;refine O.litn [str (s)] U37 ti9 ts9 tz9 rfl (by decide) (by decide) rfl (by intro u hu;simp only[List.mem_cons,List.not_mem_nil,or_false] at hu;rcases hu with rfl<;>rfl) (λb33 w6 hb33 hz33 e6=>?_);have z6:=e6.size;have hl33:=hz33.own.lt;have hap33:OwnF strF 9 BA w6 (.slice (some ⟨b33,0,none⟩) 1 1) [s]:=OwnF.lit1 rfl hz33 rfl (by omega);have hob33:=hap33.bk_ge;have sp2_:∃n,n=w6.heap.size:=⟨_,rfl⟩
 obtain ⟨hi33,hhi33⟩:=sp2_;have h33w:Sl strF.enc w6 (λj=>BA<=j∧j<hi33) (.slice (some ⟨b33,0,none⟩) 1 1) [s]:=hap33.sl.weak (λj hj=>by have q:=hob33 j hj;exact ⟨q.1,by omega⟩);have hlL:([s]:List (List UInt8)).length<=2∧∀x∈([s]:List (List UInt8)),x.length<=60000:=⟨by simp,λx hx=>by rw[List.mem_singleton.1 hx];omega⟩
 refine O.j (K7 (C.sq λK8=>C.sr λK9=>O.loadOA isAgg48 Z48 rfl ((h6.L e3).L e6) (leB rfl) ?_));have t0:=((hb.L e1).L e3).L e6;have t1:=((hl.L e1).L e3).L e6;have t2:=((hbs.L e1).L e3).L e6;refine O.call call24 (args1 rfl) (ranswers_spec a vl vb ro F _ t1 t0 t2 hs) ?_;rintro v_35 w7 ⟨rfl,e7⟩;have z7:=e7.size;refine K9 (C.join (λf w f' w'=>Ext (λj=>j=b33) w w'∧f' 10=f 10∧∃(o11:Value) (l:List (List UInt8)) (hiL:Nat),f' 11=o11∧Sl strF.enc w' (λj=>BA<=j∧j<hiL) o11 l∧hiL<=w'.heap.size∧l.length<=2∧∀x∈l,x.length<=60000) ?_ ?_)
 ·
  refine C.cond rfl (λc35=>?_) (λc35=>?_)
  ·
   have htl:=Cl.said_sm c35 hA hba;have htp:=Cl.said_pos (a:=a);refine C.sr λK10=>O.loadOA isAgg48 Z48 rfl (((h6.L e3).L e6).L e7) (leB rfl) (O.call call25 (args1 rfl) (rsaid_spec a vl vb ro F _ (t1.L e7) (t0.L e7) (t2.L e7) hs hA c35) ?_)
   rintro v_37 w8 ⟨rfl,e8⟩;have z8:=e8.size;refine O.j (K10 (C.sr λK11=>O.mv (O.convUI (m:=16) underlying36 U3 rfl (by decide) (O.mv (O.lenS U9 rfl (O.remI rfl rfl (by omega) ?_))))));have sp3_:∃n:Nat,n=at16.toNat%(Cl.said a).length:=⟨_,rfl⟩
   obtain ⟨i9,hi9⟩:=sp3_;have hil9:i9<(Cl.said a).length:=by rw[hi9];exact Nat.mod_lt _ (by omega)
   refine O.cast (v':=.int .i64 (i9:Int)) (cI (by rw[hi9];exact (Int.natCast_emod _ _).symm)) (O.j (K11 (C.sr λK12=>O.mv (O.ad rfl rfl (O.j (K12 (C.sq λK13=>C.sr λK14=>O.mv (K14 (C.join (λf w f' w'=>Le w w'∧f' 3=f 3∧f' 10=f 10∧f' 11=f 11∧f' 12=f 12∧f' 13=f 13∧∃(k14:Int),f' 14=.int .i64 (k14)∧0<=k14∧k14<=(((Cl.said a)).length:Int)) ?_ ?_)))))))))
   ·
    refine C.cond rfl (λc45=>?_) (λc45=>?_)
    ·
     refine C.region (O.mv (O.j (O.o ?_)));exact ⟨leR,rfl,rfl,rfl,rfl,rfl,⟨(i9:Int),rfl,(by omega)⟩⟩
    refine C.skip ?_;exact ⟨leR,rfl,rfl,rfl,rfl,rfl,⟨((i9:Int)+1),rfl,(by omega)⟩⟩
   rintro f_1 w9 ⟨e_1,s3_1,s10_1,s11_1,s12_1,s13_1,⟨k14,s14_1,q0_1⟩⟩;have z_1:=e_1.size;have hk14:=q0_1;refine K13 (C.drawB (wB:=w) (by kernel_rfl) λw10 e10=>?_);have z10:=e10.size;have t3:=Ext.T (Ext.T e1 e3) e6;have t4:=Ext.T (Ext.T t3 e7) e8;have t5:=Ext.T t4 e_1;have t6:=Ext.T t5 e10;refine D.mv 0 rfl t6 (D.mv 1 rfl t6 (D.mv 2 rfl t6 (D.t 3 rfl t6 (λ_ _ _ hN=>O.subS (l:=(Cl.said a)) U9 s12_1 (.inl ⟨rfl,rfl⟩) (.inr ⟨_,_,rfl,s13_1⟩) (by omega) (O.o hN)) (D.cast (v':=str ((Cl.said a).take i9)) (by simp) (D.mv 4 rfl t6 (D.t 5 rfl t6 (λ_ _ _ hN=>O.addS rfl s3_1 (by rw[List.length_take];omega) (O.o hN)) (D.mv 6 rfl t6 (D.mv 7 rfl t6 (D.t 8 rfl t6 (λ_ _ _ hN=>O.subS (l:=(Cl.said a)) U9 s12_1 (.inr ⟨_,_,rfl,s14_1⟩) (.inl ⟨rfl,rfl⟩) (by omega) (O.o hN)) (D.cast (v':=str ((Cl.said a).drop k14.toNat)) (by simp) ?_))))))))));refine D.t 9 rfl t6 (λ_ _ _ hN=>O.addS rfl rfl (by rw[List.length_append,List.length_take,List.length_drop];omega) (O.o hN)) ?_;have sp4_:∃q:List UInt8,q=((Cl.said a).take i9++more)++(Cl.said a).drop k14.toNat:=⟨_,rfl⟩
   obtain ⟨y57,hy57⟩:=sp4_;refine D.cast (v':=str y57) (by rw[hy57]) ?_;have hyl:y57.length<=60000:=by rw[hy57];simp only[List.length_append,List.length_take,List.length_drop];omega
   refine D.on 10 rfl rfl (O.litn [str (y57)] U37 ti9 ts9 tz9 rfl (by decide) (by decide) rfl (by intro u hu;simp only[List.mem_cons,List.not_mem_nil,or_false] at hu;rcases hu with rfl<;>rfl) (λb57 w11 hb57 hz57 e11=>?_));have z11:=e11.size;have h57:=hz57.own;have hl57:=h57.lt;have t7:=Ext.T t6 e11;refine O.o ⟨t7,?_⟩;have h57s:Sl strF.enc w11 (λk=>k=b57) (.slice (some ⟨b57,0,none⟩) 1 1) [y57]:=Sl.of_own (G:=strF) h57 rfl (Nat.le_refl _) (by unfold maxLen;simp) (by simp[strF]);refine D.on 11 rfl rfl (O.appW (G:=strF) U37 ti9 tz9 ts9 rfl s11_1 rfl (((((hap33.L e7).L e8).L e_1).L e10).L e11) h57s (by rw[tb9];simp only[List.length_cons,List.length_nil];omega) (by unfold maxLen;simp only[List.length_cons,List.length_nil];omega) (by omega) (λv58 w12 h58 e12 hw58=>?_));have z12:=e12.size;have h58s:=h58.sl;have t8:=Ext.new t7 e12 (by intro i hi h;have q1:=hob33 i h;omega);refine O.o ⟨t8,?_⟩;have h58b:=h58.bk_ge;have sp5_:∃n,n=w12.heap.size:=⟨_,rfl⟩
   obtain ⟨hi58,hhi58⟩:=sp5_;have h58w:Sl strF.enc w12 (λj=>BA<=j∧j<hi58) v58 ([s]++[y57]):=h58s.weak (λj hj=>by have q:=h58b j hj;exact ⟨q.1,by omega⟩);have hlL:([s]++[y57]).length<=2∧∀x∈[s]++[y57],x.length<=60000:=⟨by simp,λx hx=>by rcases List.mem_append.1 hx with hx|hx;(rw[List.mem_singleton.1 hx];omega);(rw[List.mem_singleton.1 hx];exact hyl)⟩
   refine D.as 12 rfl t8 (D.dn ?_);exact ⟨(Ext.new (Ext.new (Ext.new (Ext.new (Ext.new (Ext.L _ _) e8 (by intro i hi hk;first|exact hk.elim|exact hk|((try dsimp only at hk);(try dsimp only);omega))) e_1 (by intro i hi hk;first|exact hk.elim|exact hk|((try dsimp only at hk);(try dsimp only);omega))) e10 (by intro i hi hk;first|exact hk.elim|exact hk|((try dsimp only at hk);(try dsimp only);omega))) e11 (by intro i hi hk;first|exact hk.elim|exact hk|((try dsimp only at hk);(try dsimp only);omega))) e12 (by intro i hi hk;first|exact hk.elim|exact hk|((try dsimp only at hk);(try dsimp only);omega))),s10_1,⟨v58,[s]++[y57],hi58,rfl,h58w,(by omega),hlL⟩⟩
  refine C.skip ?_;exact ⟨(Ext.L _ _),rfl,⟨(.slice (some ⟨b33,0,none⟩) 1 1),[s],hi33,rfl,(h33w.L e7),(by omega),hlL⟩⟩
 rintro f_2 w13 ⟨e_2,s10_2,⟨o11,l,hiL,s11_2,q0_2,q1_2,q2_2⟩⟩;have z_2:=e_2.size;have hhiL:=q1_2;have hll:=q2_2;obtain ⟨hll1,hll2⟩:=hll;refine K8 (C.sq λK15=>C.sr λK16=>O.j (K16 (C.bl λK17=>C.loop0 (σ:=Nat) (λf0 w0 k f w=>f 15=.int .i64 ((k:Int))∧f 11=f0 11∧Le w0 w∧k<=l.length) (λk=>l.length-k) 0 ?_ ?_)))
 ·
  refine ⟨rfl,rfl,Le.refl _,?_⟩;exact Nat.zero_le _
 rintro k f_3 w14 ⟨s15_3,s11_3,e_3,hk⟩;have z_3:=e_3.size;refine C.sq λK18=>C.sr λK19=>O.mv (O.mv (O.len U37 (Eq.trans s11_3 s11_2) (q0_2.L e_3) (O.lssI s15_3 rfl (K19 (C.condD rfl (λc62=>?_) (λc62=>?_))))))
 ·
  have hk2:k<l.length:=by omega
  have sp6_:∃q:List UInt8,q=l[k]'hk2:=⟨_,rfl⟩
  obtain ⟨x,hx⟩:=sp6_;have hxl:=hll2 x (by rw[hx];exact List.getElem_mem _);refine C.skip (K18 (C.sq λK20=>C.bl λK21=>C.sr λK22=>O.mv (O.mv (O.idx U37 Z9 rfl (Eq.trans s11_3 s11_2) (q0_2.L e_3) s15_3 (by omega) (λa68 h68=>O.load1F (G:=strF) isAgg9 rfl rfl rfl h68 (O.cast (v':=str x) (by rw[hx];rfl) (O.call call26 (args1 rfl) (rread_spec x _ (by omega)) ?_)))))));rintro v_70 w15 ⟨av70,vlv70,vbv70,rov70,e9v70,rfl,hlv70,hbv70,hbsv70,hshv70,hgv70,e15⟩;have z15:=e15.size;refine O.mv (O.extract rfl rfl (O.extract rfl rfl (O.alloc zeroValue48 (λb16 w16 hb16 hz16 e16=>?_))));have z16:=e16.size;have h16:=hz16.own;have hl16:=h16.lt;refine O.storeA (vs:=[.int .i64 av70.op,.int .i64 av70.err,.int .i64 av70.count,vlv70,vbv70]) Z48 rfl rfl rfl (ones5 hlv70.oneC hbv70.oneC) h16 (leB rfl) (λw17 hs17 e17 z17=>O.j (K22 (C.sq λK23=>C.join (λf w f' w'=>Le w w'∧f' 11=f 11∧f' 15=f 15∧f' 95=.bool false) ?_ ?_)))
  ·
   refine C.draw (by kernel_rfl) λw18 e18=>?_
   have z18:=e18.size;refine D.mv 0 rfl leR (D.mv 1 rfl leR (D.split (x:=.tmp 74) rfl (λc74=>?_) (λc74=>?_)))
   ·
    refine D.ty 2 rfl rfl rfl rfl (isT' rfl c74) leR ⟨pure _,rfl⟩ (λ_ hw_ _ hN=>O.mv (O.o hN)) (D.ty 3 rfl rfl rfl rfl (isT' rfl c74) leR ⟨pure _,rfl⟩ (λ_ hw_ _ hN=>O.mv (O.o hN)) ?_);have sp7_:=Sl.at (i:=(k:Int)) (P:=prog) U37 Z9 rfl (((((q0_2.L e_3).L e15).L e16).kM e17 (by intro j hj h;(try dsimp only at hj);(try dsimp only at h);omega)).L e18) (by omega);obtain ⟨a77,h77,hr77⟩:=sp7_;refine D.ty 4 rfl rfl rfl rfl (isT' rfl c74) leR ⟨_,rfl⟩ (λ_ hw_ _ hN=>O.idxR (Eq.trans s11_3 s11_2) s15_3 hr77 (O.o hN)) (D.ty 5 rfl rfl rfl rfl (isT' rfl c74) leR ⟨_,rfl⟩ (λ_ hw_ _ hN=>O.load1F (G:=strF) isAgg9 rfl rfl rfl (h77.L hw_) (O.o hN)) (D.cast (v':=str x) (by rw[hx];rfl) (D.ty 6 rfl rfl rfl rfl (isT' rfl c74) leR ⟨_,rfl⟩ (λ_ hw_ _ hN=>O.loadOA isAgg48 Z48 rfl ((hs17.L e18).L hw_) (leB rfl) (O.o hN)) (D.oneYes (i:=7) rfl rfl (isT' rfl c74) (by kernel_rfl) ?_))));refine O.call call27 (args3 rfl rfl rfl) (reads_spec x av70 vlv70 vbv70 rov70 _ 0 _ (by omega) (((hlv70.L e16).keepA e17).L e18) (((hbv70.L e16).keepA e17).L e18) (((hbsv70.L e16).keepA e17).L e18) (gw.L (Ext.T (Ext.nr (Ext.T (Ext.T (Ext.T (Ext.new (Ext.T (Ext.T (Ext.T e1 e3) e6) e7) e_2 (by intro i hi h;(try dsimp only at h);omega)) e_3) e15) e16) e17) e18))) ?_;rintro v_80 w19 ⟨bv80,rfl,hbv80,e19⟩;have z19:=e19.size;refine O.o ⟨e19,D.cast (v':=.bool true) (cB (by exact hbv80.2 (.inl ⟨rfl,hgv70.1 c74⟩))) (D.ty 8 rfl rfl rfl rfl (isT' rfl c74) e19 ⟨_,rfl⟩ (λ_ hw_ _ hN=>O.not rfl (O.cast (v':=.bool false) rfl (O.o hN))) (D.tk 9 rfl rfl rfl rfl e19 pick_form (λ_ hw_ _ hN=>O.pickT (isT' rfl c74) (O.o hN)) (D.mv 10 rfl e19 (D.ty 11 rfl rfl rfl rfl rfl e19 ⟨pure _,rfl⟩ (λ_ hw_ _ hN=>O.mv (O.o hN)) (D.ty 12 rfl rfl rfl rfl rfl e19 ⟨_,rfl⟩ (λ_ hw_ _ hN=>O.not rfl (O.o hN)) (D.ty 13 rfl rfl rfl rfl rfl e19 ⟨pure _,rfl⟩ (λ_ hw_ _ hN=>O.mv (O.o hN)) (D.split (x:=.tmp 86) rfl (λc86=>?_) (λc86=>?_))))))))⟩
    ·
     rw[c74] at c86;cases c86
    refine D.tn 14 rfl rfl e19 rfl (noB (isF' rfl c86) rfl) (D.tn 15 rfl rfl e19 rfl (noB (isF' rfl c86) rfl) (D.tn 16 rfl rfl e19 rfl (noB (isF' rfl c86) rfl) (D.tn 17 rfl rfl e19 rfl (noB (isF' rfl c86) rfl) (D.tn 18 rfl rfl e19 rfl (noB (isF' rfl c86) rfl) (D.tn 19 rfl rfl e19 rfl (noB (isF' rfl c86) rfl) (D.tn 20 rfl rfl e19 rfl (noB (isF' rfl c86) rfl) (D.ty 21 rfl rfl rfl rfl rfl e19 pick_form (λ_ hw_ _ hN=>O.pickF (isF' rfl c86) (O.o hN)) (D.tk 22 rfl rfl rfl rfl e19 pick_form (λ_ hw_ _ hN=>O.pickF rfl (O.o hN)) (D.dn ?_)))))))));exact ⟨(Ext.T e18 e19),rfl,rfl,rfl⟩
   refine D.tn 2 rfl rfl leR rfl (noB (isF' rfl c74) rfl) (D.tn 3 rfl rfl leR rfl (noB (isF' rfl c74) rfl) (D.tn 4 rfl rfl leR rfl (noB (isF' rfl c74) rfl) (D.tn 5 rfl rfl leR rfl (noB (isF' rfl c74) rfl) (D.tn 6 rfl rfl leR rfl (noB (isF' rfl c74) rfl) (D.tn 7 rfl rfl leR rfl (noB (isF' rfl c74) rfl) (D.tn 8 rfl rfl leR rfl (noB (isF' rfl c74) rfl) (D.tk 9 rfl rfl rfl rfl leR pick_form (λ_ hw_ _ hN=>O.pickF (isF' rfl c74) (O.o hN)) (D.mv 10 rfl leR (D.ty 11 rfl rfl rfl rfl rfl leR ⟨pure _,rfl⟩ (λ_ hw_ _ hN=>O.mv (O.o hN)) ?_)))))))));refine D.ty 12 rfl rfl rfl rfl rfl leR ⟨_,rfl⟩ (λ_ hw_ _ hN=>O.not rfl (O.o hN)) (D.ty 13 rfl rfl rfl rfl rfl leR ⟨pure _,rfl⟩ (λ_ hw_ _ hN=>O.mv (O.o hN)) (D.split (x:=.tmp 86) rfl (λc86=>?_) (λc86=>?_)))
   ·
    refine D.ty 14 rfl rfl rfl rfl (isT' rfl c86) leR ⟨pure _,rfl⟩ (λ_ hw_ _ hN=>O.mv (O.o hN)) (D.ty 15 rfl rfl rfl rfl (isT' rfl c86) leR ⟨pure _,rfl⟩ (λ_ hw_ _ hN=>O.mv (O.o hN)) ?_);have sp8_:=Sl.at (i:=(k:Int)) (P:=prog) U37 Z9 rfl (((((q0_2.L e_3).L e15).L e16).kM e17 (by intro j hj h;(try dsimp only at hj);(try dsimp only at h);omega)).L e18) (by omega);obtain ⟨a89,h89,hr89⟩:=sp8_;refine D.ty 16 rfl rfl rfl rfl (isT' rfl c86) leR ⟨_,rfl⟩ (λ_ hw_ _ hN=>O.idxR (Eq.trans s11_3 s11_2) s15_3 hr89 (O.o hN)) (D.ty 17 rfl rfl rfl rfl (isT' rfl c86) leR ⟨_,rfl⟩ (λ_ hw_ _ hN=>O.load1F (G:=strF) isAgg9 rfl rfl rfl (h89.L hw_) (O.o hN)) (D.cast (v':=str x) (by rw[hx];rfl) (D.oneYes (i:=18) rfl rfl (isT' rfl c86) (by kernel_rfl) (O.build (cells:=#[.int .i64 0,.int .i64 0,.int .i64 0,.slice none 0 0,.slice none 0 0]) rfl (by kernel_rfl) (O.o ⟨leR,D.oneYes (i:=19) rfl rfl (isT' rfl c86) (by kernel_rfl) ?_⟩)))));refine O.call call27 (args3 rfl rfl rfl) (reads_spec x Cl.zeroA (.slice none 0 0) (.slice none 0 0) [] (λ_=>False) 6 _ (by omega) (Sl.nil _ _ _) (Sl.nil _ _ _) SlsL.nil (gw.L (Ext.T (Ext.nr (Ext.T (Ext.T (Ext.T (Ext.new (Ext.T (Ext.T (Ext.T e1 e3) e6) e7) e_2 (by intro i hi h;(try dsimp only at h);omega)) e_3) e15) e16) e17) e18))) ?_;rintro v_92 w20 ⟨bv92,rfl,hbv92,e20⟩;have z20:=e20.size;refine O.o ⟨e20,D.cast (v':=.bool true) (cB (by exact hbv92.2 (.inr ⟨rfl,rfl,hgv70.2 c74⟩))) (D.ty 20 rfl rfl rfl rfl (isT' rfl c86) e20 ⟨_,rfl⟩ (λ_ hw_ _ hN=>O.not rfl (O.cast (v':=.bool false) rfl (O.o hN))) (D.ty 21 rfl rfl rfl rfl rfl e20 pick_form (λ_ hw_ _ hN=>O.pickT (isT' rfl c86) (O.o hN)) (D.tk 22 rfl rfl rfl rfl e20 pick_form (λ_ hw_ _ hN=>O.pickF rfl (O.o hN)) (D.dn ?_))))⟩;exact ⟨(Ext.T e18 e20),rfl,rfl,rfl⟩
   rw[c74] at c86;cases c86
  rintro f_4 w21 ⟨e_4,s11_4,s15_4,s95_4⟩;have z_4:=e_4.size;refine K23 (C.condF s95_4 (C.skip (K21 (K20 (C.region (O.mv (O.ad (Eq.trans s15_4 s15_3) rfl (O.j (O.o (⟨k+1,⟨rfl,(Eq.trans s11_4 s11_3),(Ext.T (Ext.nr (Ext.T (Ext.T e_3 e15) e16) e17) e_4),?_⟩,by first|omega|(simp only[];omega)⟩))))))))))
  omega
 refine C.exit (K17 (K15 (C.sr λK24=>?_)));have t9:=Ext.T (Ext.T e1 e3) e6;have t10:=Ext.new (Ext.T t9 e7) e_2 (by intro i hi h;(try dsimp only at h);omega);refine O.call call11 (argsN) (known_spec _ (gw.L (Ext.T t10 e_3))) ?_;rintro v_96 w22 ⟨rfl,e22⟩;have z22:=e22.size;refine O.j (K24 (C.ret (Outs.one rfl rfl ?_)));exact ⟨rfl,(Ext.T (Ext.T t10 e_3) e22)⟩
end Go.Proofs.YtbnblcnabgdndaaGreatDoor
