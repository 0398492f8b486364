/-
 The walks of dots: what is allowed, their order. Conditions: slices as they lie in memory.
-/
import Derived.Test.YtpbcafkcfobngaaGreatDoorRows
import Derived.Shelf.SlLaysF
import Derived.Shelf.SlLaysF0
import Derived.Ground.SlsfProg
import Derived.Test.YtpbcafkcfobngaaGreatDoorProg
import Derived.Shelf.Strings.Trim
import Derived.Shelf.Small.Bits
import Derived.Shelf.Small.Wraps
import Derived.Shelf.Strings.Search3
import Derived.Shelf.LaysM
import Derived.Shelf.Strings.Shaped
import Derived.Shelf.Strings.Runes
import Derived.Shelf.Slices.CompactS
import Derived.Shelf.SlSortCmp.WholeK
import Derived.Test.YtpbcafkcfobngaaGreatDoorOutboxM3
set_option maxHeartbeats 16000000
namespace Go.Proofs
open _root_.Go.Proofs.Tryz
theorem Z110:type_of%@sizeOf110:=sizeOf110
theorem Z112:type_of%@sizeOf112:=sizeOf112
theorem Z114:type_of%@sizeOf114:=sizeOf114
theorem Z115:type_of%@sizeOf115:=sizeOf115
theorem Z117:type_of%@sizeOf117:=sizeOf117
theorem Z22:type_of%@sizeOf22:=sizeOf22
theorem Z3:type_of%@sizeOf3:=sizeOf3
theorem Z30:type_of%@sizeOf30:=sizeOf30
theorem Z41:type_of%@sizeOf41:=sizeOf41
theorem Z42:type_of%@sizeOf42:=sizeOf42
theorem Z44:type_of%@sizeOf44:=sizeOf44
theorem Z45:type_of%@sizeOf45:=sizeOf45
theorem Z47:type_of%@sizeOf47:=sizeOf47
theorem Z5:type_of%@sizeOf5:=sizeOf5
theorem Z50:type_of%@sizeOf50:=sizeOf50
theorem Z69:type_of%@sizeOf69:=sizeOf69
theorem Z9:type_of%@sizeOf9:=sizeOf9
theorem U110:type_of%@underlying110:=underlying110
theorem U112:type_of%@underlying112:=underlying112
theorem U114:type_of%@underlying114:=underlying114
theorem U115:type_of%@underlying115:=underlying115
theorem U117:type_of%@underlying117:=underlying117
theorem U129:type_of%@underlying129:=underlying129
theorem U135:type_of%@underlying135:=underlying135
theorem U22:type_of%@underlying22:=underlying22
theorem U234:type_of%@underlying234:=underlying234
theorem U266:type_of%@underlying266:=underlying266
theorem U275:type_of%@underlying275:=underlying275
theorem U282:type_of%@underlying282:=underlying282
theorem U3:type_of%@underlying3:=underlying3
theorem U30:type_of%@underlying30:=underlying30
theorem U34:type_of%@underlying34:=underlying34
theorem U38:type_of%@underlying38:=underlying38
theorem U41:type_of%@underlying41:=underlying41
theorem U42:type_of%@underlying42:=underlying42
theorem U44:type_of%@underlying44:=underlying44
theorem U45:type_of%@underlying45:=underlying45
theorem U47:type_of%@underlying47:=underlying47
theorem U5:type_of%@underlying5:=underlying5
theorem U50:type_of%@underlying50:=underlying50
theorem U68:type_of%@underlying68:=underlying68
theorem U69:type_of%@underlying69:=underlying69
theorem U71:type_of%@underlying71:=underlying71
theorem U9:type_of%@underlying9:=underlying9
end Go.Proofs
section
namespace Go.Proofs.YtpbcafkcfobngaaGreatDoor
open Go.Pn Go.RowKit _root_.Go.Proofs.Tryz
theorem inf112:∃ie,prog.info? 112=some ie∧ie.size=2∧ie.bytes=16∧ie.zero=some (.agg #[.int .i64 0,.int .i64 0]):=by
 have h:(prog.info? 112).isSome=true:=by kernel_rfl
 exact ⟨(prog.info? 112).get h,(Option.some_get h).symm,by kernel_rfl,by kernel_rfl,by kernel_rfl⟩
theorem inf3:∃ie,prog.info? 3=some ie∧ie.size=1∧ie.bytes=8∧ie.zero=some (.int .i64 0):=by
 have h:(prog.info? 3).isSome=true:=by kernel_rfl
 exact ⟨(prog.info? 3).get h,(Option.some_get h).symm,by kernel_rfl,by kernel_rfl,by kernel_rfl⟩
theorem valid_spec (d:Dt.Dot)(w:World):
 Ret prog 217 #[Dt.dv (d)] w (λv w'=>v=.bool (decide (Dt.Valid d))∧Le w w'):=by
 refine enT [Dt.dv (d)] 21 func217 rfl rfl (C.sr λK1=>O.box (v:=Dt.dv (d)) rfl (λb1 w1 hb1 hz1 e1=>?_));have z1:=e1.size;have h1:=hz1.own;have hl1:=h1.lt;refine O.j (K1 (C.sr λK2=>O.fa U112 rfl Z3 rfl (O.loadO isAgg3 rfl h1 rfl (O.geqI rfl rfl (O.mv (O.cut 4 (λf f'=>f' 10=.bool (decide (1<=d.1∧d.1<=65535))∧f' 1=f 1) ?_ ?_))))))
 ·
  refine O.splitD (x:=.tmp 6) rfl (λc6=>?_) (λc6=>?_)
  ·
   refine O.yes rfl (isT rfl c6) (O.fa U112 rfl Z3 rfl (O.yes rfl (isT rfl c6) (O.loadO isAgg3 rfl h1 rfl (O.yes rfl (isT rfl c6) (O.leqI rfl rfl (O.pickT (isT rfl c6) (O.o (⟨⟨?_,rfl⟩,rfl⟩))))))));exact dJ rfl
  refine O.no rfl (noB (isF rfl c6) rfl) (O.no rfl (noB (isF rfl c6) rfl) (O.no rfl (noB (isF rfl c6) rfl) (O.pickF (isF rfl c6) (O.o (⟨⟨?_,rfl⟩,rfl⟩)))));exact dJ rfl
 rintro f_1 ⟨s10_1,s1_1⟩;refine O.mv (O.cut 4 (λf f'=>f' 15=.bool (decide ((1<=d.1∧d.1<=65535)∧1<=d.2))∧f' 1=f 1) ?_ ?_)
 ·
  refine O.splitD (x:=.tmp 11) s10_1 (λc11=>?_) (λc11=>?_)
  ·
   refine O.yes rfl (isT s10_1 c11) (O.fa U112 rfl Z3 s1_1 (O.yes rfl (isT s10_1 c11) (O.loadO isAgg3 rfl h1 rfl (O.yes rfl (isT s10_1 c11) (O.geqI rfl rfl (O.pickT (isT s10_1 c11) (O.o (⟨⟨?_,rfl⟩,rfl⟩))))))));exact dJ rfl
  refine O.no rfl (noB (isF s10_1 c11) rfl) (O.no rfl (noB (isF s10_1 c11) rfl) (O.no rfl (noB (isF s10_1 c11) rfl) (O.pickF (isF s10_1 c11) (O.o (⟨⟨?_,rfl⟩,rfl⟩)))));exact dJ rfl
 rintro f_2 ⟨s15_2,s1_2⟩;refine O.mv (O.cut 4 (λf f'=>f' 20=.bool (decide (((1<=d.1∧d.1<=65535)∧1<=d.2)∧d.2<=4294967295))) ?_ ?_)
 ·
  refine O.splitD (x:=.tmp 16) s15_2 (λc16=>?_) (λc16=>?_)
  ·
   refine O.yes rfl (isT s15_2 c16) (O.fa U112 rfl Z3 (Eq.trans s1_2 s1_1) (O.yes rfl (isT s15_2 c16) (O.loadO isAgg3 rfl h1 rfl (O.yes rfl (isT s15_2 c16) (O.leqI rfl rfl (O.pickT (isT s15_2 c16) (O.o (⟨?_,rfl⟩))))))));exact dJ rfl
  refine O.no rfl (noB (isF s15_2 c16) rfl) (O.no rfl (noB (isF s15_2 c16) rfl) (O.no rfl (noB (isF s15_2 c16) rfl) (O.pickF (isF s15_2 c16) (O.o (⟨?_,rfl⟩)))));exact dJ rfl
 intro f_3 s20_3;refine O.j (K2 (C.ret (Outs.one rfl s20_3 ?_)));exact ⟨cB (decide_eq_decide.2 (by unfold Dt.Valid;omega)),e1⟩
theorem isNaN_spec (x:Int)(w:World):
 Ret prog 241 #[.int .i64 (x)] w (λv w'=>v=.bool false∧w'=w):=by
 refine enT [.int .i64 (x)] 6 func241 rfl rfl (C.sr λK1=>O.j (K1 (C.sr λK2=>O.mv (O.mv (O.neqI rfl rfl (O.cast (v':=.bool false) (cB (by exact dF (λh=>h rfl))) (O.j (K2 (C.ret (Outs.one rfl rfl ?_))))))))));exact ⟨rfl,rfl⟩
theorem icmp_spec (a b:Int)(w:World):
 Ret prog 182 #[.int .i64 (a),.int .i64 (b)] w (λv w'=>v=.int .i64 (Dt.icmp a b)∧w'=w):=by
 refine enT [.int .i64 (a),.int .i64 (b)] 20 func182 rfl rfl (C.sr λK1=>O.j (K1 (C.sr λK2=>O.mv (O.call call241 (args1 rfl) (isNaN_spec _ _) ?_))));rintro v_8 w1 ⟨rfl,hw_⟩;replace hw_:=hw_.symm;subst hw_;refine O.j (K2 (C.sr λK3=>O.mv (O.call call241 (args1 rfl) (isNaN_spec _ _) ?_)));rintro v_10 w1 ⟨rfl,hw_⟩;replace hw_:=hw_.symm;subst hw_;refine O.j (K3 (C.sq λK4=>C.sr λK5=>O.mv (K5 (C.condF rfl (C.skip (K4 (C.sq λK6=>C.sr λK7=>O.mv (K7 (C.condF rfl (C.skip (K6 (C.sq λK8=>C.sr λK9=>O.mv (O.mv (O.lssI rfl rfl (K9 (C.condD rfl (λc16=>?_) (λc16=>?_)))))))))))))))))
 ·
  refine C.sr λK10=>O.j (K10 (C.ret (Outs.one rfl rfl ?_)))
  unfold Dt.icmp
  (rw[if_pos (by assumption)];exact ⟨rfl,rfl⟩)
 refine C.skip (K8 (C.sq λK11=>C.sr λK12=>O.mv (O.mv (O.gtrI rfl rfl (K12 (C.condD rfl (λc19=>?_) (λc19=>?_)))))))
 ·
  refine C.sr λK13=>O.j (K13 (C.ret (Outs.one rfl rfl ?_)))
  unfold Dt.icmp
  first
  |(rw[if_pos (by assumption)];exact ⟨rfl,rfl⟩)
  |(rw[if_neg (by assumption),if_pos (by assumption)];exact ⟨rfl,rfl⟩)
 refine C.skip (K11 (C.sr λK14=>O.j (K14 (C.ret (Outs.one rfl rfl ?_)))));unfold Dt.icmp
 first
 |(rw[if_pos (by assumption)];exact ⟨rfl,rfl⟩)
 |(rw[if_neg (by assumption),if_pos (by assumption)];exact ⟨rfl,rfl⟩)
 |(rw[if_neg (by assumption),if_neg (by assumption)];exact ⟨rfl,rfl⟩)
theorem cor_spec (v0:Value)(a b:Int)(F:Nat->Prop)(w:World)(hl:Sl Dt.intE w F v0 [a,b]):
 Ret prog 181 #[v0] w (λv w'=>v=.int .i64 (if a≠0 then a else b)∧w'=w):=by
 refine enT [v0] 18 func181 rfl rfl (C.sr λK1=>O.j (K1 (C.sr λK2=>O.j (K2 (C.sq λK3=>C.sr λK4=>O.mv (O.len U275 rfl hl (O.mv (K4 (C.bl λK5=>C.loop0 (σ:=Nat) (λf0 w0 k f w=>f 8=.int .i64 (k)∧f 3=f0 3∧f 6=f0 6∧f 7=f0 7∧w=w0∧k<=2∧∀i,(h:i<2)->i<k->[a,b][i]=0) (λk=>2-k) 0 ?_ ?_)))))))))
 ·
  refine ⟨rfl,rfl,rfl,rfl,rfl,?_⟩;exact ⟨by omega,λi _ h=>absurd h (by omega)⟩
 rintro k f_1 wx ⟨s8_1,s3_1,s6_1,s7_1,rfl,⟨hk,hI⟩⟩;refine C.sr λK6=>O.lssI s8_1 s7_1 (K6 (C.sq λK7=>C.condD rfl (λc9=>?_) (λc9=>?_)))
 ·
  have hk2:k<2:=by simp at c9;omega
  refine C.skip (K7 (C.sq λK8=>C.bl λK9=>C.sr λK10=>O.idx U275 Z3 rfl s6_1 hl s8_1 (by omega) (λa10 h10=>O.load1F (G:=Dt.intF) isAgg3 rfl rfl rfl h10 ?_)));obtain ⟨u,hu⟩:∃u:Int,u=[a,b][k]:=⟨_,rfl⟩
  refine O.cast (v':=.int .i64 u) (by rw[hu];rfl) (O.j (K10 (C.sr λK11=>O.mv (O.mv (O.neqI rfl s3_1 (K11 (C.condD rfl (λc14=>?_) (λc14=>?_))))))))
  ·
   refine C.sr λK12=>O.mv (O.j (K12 (C.ret (Outs.one rfl rfl ?_))))
   (refine ⟨congrArg (Value.int .i64) ?_,rfl⟩
    have h01:k=0∨k=1:=by omega
    rcases h01 with rfl|rfl
    ·have e0:u=a:=hu
     rw[<-e0,if_pos c14]
    ·have e0:a=0:=hI 0 (by omega) (by omega)
     have e1:u=b:=hu;rw[if_neg (λh=>h e0),e1])
  refine C.skip (K9 (K8 (C.region (O.ad s8_1 rfl (O.mv (O.o (⟨k+1,⟨rfl,s3_1,s6_1,s7_1,rfl,?_⟩,by first|omega|(simp only[];omega)⟩)))))));refine ⟨by omega,λi hi2 hik=>?_⟩;rcases Nat.lt_or_eq_of_le (Nat.le_of_lt_succ hik) with h|rfl
  ·exact hI i hi2 h
  ·rw [<-hu];exact Decidable.of_not_not c14
 refine C.exit (K5 (K3 (C.sr λK13=>O.mv (O.j (K13 (C.ret (Outs.one rfl s3_1 ?_)))))))
 first
 |(refine ⟨congrArg (Value.int .i64) ?_,rfl⟩
   have h01:k=0∨k=1:=by omega
   rcases h01 with rfl|rfl
   ·have e0:u=a:=hu
    rw[<-e0,if_pos c14]
   ·have e0:a=0:=hI 0 (by omega) (by omega)
    have e1:u=b:=hu;rw[if_neg (λh=>h e0),e1])
 |(have hk2:k=2:=by simp at c9;omega
   have e0:a=0:=hI 0 (by omega) (by omega);have e1:b=0:=hI 1 (by omega) (by omega);refine ⟨congrArg (Value.int .i64) ?_,rfl⟩;rw[if_neg (λh=>h e0),e1])
theorem cmp_spec (a b:Dt.Dot)(w:World):
 Ret prog 119 #[Dt.dv (a),Dt.dv (b)] w (λv w'=>v=.int .i64 (Dt.cmp a b)∧Le w w'∧w.drawn<=w'.drawn):=by
 obtain ⟨ie3,ti3,ts3,tb3,tz3⟩:=inf3;refine enT [Dt.dv (a),Dt.dv (b)] 17 func119 rfl rfl (C.sr λK1=>O.boxD (v:=Dt.dv (a)) rfl (λb2 w1 hb2 hz2 e1 d1=>?_));have z1:=e1.size;have h2:=hz2.own;have hl2:=h2.lt;refine O.boxD (v:=Dt.dv (b)) rfl (λb3 w2 hb3 hz3 e2 d2=>?_);have z2:=e2.size;have h3:=hz3.own;have hl3:=h3.lt;refine O.j (K1 (C.sq λK2=>C.drawD (by kernel_rfl) λw3 e3 d3=>?_));have z3:=e3.size;refine D.t 0 rfl leR (λ_ _ _ hN=>O.fa U112 rfl Z3 rfl (O.o hN)) (D.t 1 rfl leR (λ_ hw_ _ hN=>O.loadO isAgg3 rfl (((h2.L e2).L e3).L hw_) rfl (O.o hN)) (D.t 2 rfl leR (λ_ _ _ hN=>O.fa U112 rfl Z3 rfl (O.o hN)) (D.t 3 rfl leR (λ_ hw_ _ hN=>O.loadO isAgg3 rfl ((h3.L e3).L hw_) rfl (O.o hN)) (D.t 5 rfl leR (λ_ _ _ hN=>O.fa U112 rfl Z3 rfl (O.o hN)) (D.t 6 rfl leR (λ_ hw_ _ hN=>O.loadO isAgg3 rfl (((h2.L e2).L e3).L hw_) rfl (O.o hN)) ?_)))));refine D.t 7 rfl leR (λ_ _ _ hN=>O.fa U112 rfl Z3 rfl (O.o hN)) (D.t 8 rfl leR (λ_ hw_ _ hN=>O.loadO isAgg3 rfl ((h3.L e3).L hw_) rfl (O.o hN)) (D.on 4 rfl rfl (O.call call182 (args2 rfl rfl) (icmp_spec _ _ _) ?_)));rintro v_9 w4 ⟨rfl,hw_⟩;replace hw_:=hw_.symm;subst hw_;refine O.o ⟨leR,D.on 9 rfl rfl (O.call call182 (args2 rfl rfl) (icmp_spec _ _ _) ?_)⟩;rintro v_14 w4 ⟨rfl,hw_⟩;replace hw_:=hw_.symm;subst hw_;refine O.o ⟨leR,D.on 10 rfl rfl (O.litnD [.int .i64 (Dt.icmp a.2 b.2),.int .i64 (Dt.icmp a.1 b.1)] U275 ti3 ts3 tz3 rfl (by decide) (by decide) rfl (by simp[Value.oneCell']) (λb15 w4 hb15 hz15 e4 d4=>?_))⟩;have z4:=e4.size;have h15:=hz15.own;have hl15:=h15.lt;refine O.o ⟨e4,?_⟩;have h1015:Sl Dt.intF.enc w4 (λk=>k=b15) (.slice (some ⟨b15,0,none⟩) 2 2) [Dt.icmp a.2 b.2,Dt.icmp a.1 b.1]:=Sl.of_own (G:=Dt.intF) h15 rfl (Nat.le_refl _) (by unfold maxLen;omega) (by simp[Dt.intF]);refine D.on 11 rfl rfl (O.call call181 (args1 rfl) (cor_spec _ _ _ _ _ h1015) ?_);rintro v_16 w5 ⟨rfl,hw_⟩;replace hw_:=hw_.symm;subst hw_;refine O.o ⟨e4,D.as 12 rfl e4 (D.dn (K2 (C.ret (Outs.one rfl rfl ?_))))⟩;exact ⟨cI (Dt.cmp_or a b).symm,(Ext.T (Ext.T (Ext.T e1 e2) e3) e4),by omega⟩
end Go.Proofs.YtpbcafkcfobngaaGreatDoor
end
section
namespace Go.Proofs.YtpbcafkcfobngaaGreatDoor
open Go.Pn Go.RowKit _root_.Go.Proofs.Tryz
theorem isSet_spec (v0:Value)(l:List Dt.Dot)(F:Nat->Prop)(w:World)(hl:Sl Dt.dotF.enc w F v0 l):
 Ret prog 169 #[v0] w (λv w'=>v=.bool (Dt.isSet l)∧Le w w'):=by
 have hle:=hl.le;refine enT [v0] 21 func169 rfl rfl (C.sr λK1=>O.j (K1 (C.sq λK2=>C.sr λK3=>O.j (K3 (C.bl λK4=>C.loop0 (σ:=Nat) (λf0 w0 k f wz=>f 3=.int .i64 ((k:Int)+1)∧f 0=f0 0∧Le w wz∧∀i,∀h:i+1<l.length,i<k->Dt.Less l[i] l[i+1]) (λk=>l.length-k) 0 ?_ ?_)))))
 ·
  refine ⟨(Eq.trans rfl (i64_eq (by omega))),rfl,leR,?_⟩;exact λi h k=>absurd k (Nat.not_lt_zero _)
 rintro k f_1 w1 ⟨s3_1,s0_1,e_1,hI⟩;have z_1:=e_1.size;refine C.sq λK5=>C.sr λK6=>O.mv (O.mv (O.len U41 s0_1 (hl.L e_1) (O.lssI s3_1 rfl (K6 (C.condD rfl (λc7=>?_) (λc7=>?_))))))
 ·
  have hk2:k+1<l.length:=by omega
  have x0:((k:Int)+1-1).toNat=k:=by omega
  have x1:((k:Int)+1).toNat=k+1:=by omega
  refine C.skip (K5 (C.sq λK7=>C.bl λK8=>C.sd λK9 w2 e2 z2=>D.mv 0 rfl leR (D.mv 1 rfl leR (D.t 2 rfl leR (λ_ _ _ hN=>O.sb s3_1 rfl (O.o hN)) ?_))));obtain ⟨a13,h13,hr13⟩:=Sl.at (i:=(k:Int)+1-1) (P:=prog) U41 Z112 rfl ((hl.L e_1).L e2) (by omega);refine D.t 3 rfl leR (λ_ _ _ hN=>O.idxR s0_1 rfl hr13 (O.o hN)) (D.t 4 rfl leR (λ_ hw_ _ hN=>O.loadG (G:=Dt.dotF) isAgg112 Z112 rfl (h13.L hw_) (O.o hN)) (D.mv 5 rfl leR (D.mv 6 rfl leR ?_)));obtain ⟨a17,h17,hr17⟩:=Sl.at (i:=(k:Int)+1) (P:=prog) U41 Z112 rfl ((hl.L e_1).L e2) (by omega);refine D.t 7 rfl leR (λ_ _ _ hN=>O.idxR s0_1 s3_1 hr17 (O.o hN)) (D.t 8 rfl leR (λ_ hw_ _ hN=>O.loadG (G:=Dt.dotF) isAgg112 Z112 rfl (h17.L hw_) (O.o hN)) (D.on 9 rfl rfl (O.call call119 (args2 rfl rfl) (cmp_spec _ _ _) ?_)));rintro v_19 w3 ⟨rfl,e3,_⟩;have z3:=e3.size;refine O.o ⟨e3,D.t 10 rfl e3 (λ_ _ _ hN=>O.geqI rfl rfl (O.o hN)) (K9 (C.condD rfl (λc20=>?_) (λc20=>?_)))⟩
  ·
   simp only[x0,x1,Dt.cmp_ge] at c20;refine C.sr λK10=>O.j (K10 (C.ret (Outs.one rfl rfl ?_)))
   exact ⟨cB (Dt.isSet_no hk2 (by omega) rfl c20).symm,(Ext.T (Ext.T e_1 e2) e3)⟩
  simp only[x0,x1,Dt.cmp_ge,Decidable.not_not] at c20;refine C.skip (K8 (K7 (C.region (O.mv (O.ad s3_1 rfl (O.j (O.o (⟨k+1,⟨(Eq.trans rfl (i64_eq (by omega))),s0_1,(Ext.T (Ext.T e_1 e2) e3),?_⟩,by first|omega|(simp only[];omega)⟩))))))));intro i hi hik;rcases Nat.lt_or_eq_of_le (Nat.le_of_lt_succ hik) with h|rfl
  ·exact hI i hi h
  ·exact c20
 refine C.exit (K4 (K2 (C.sr λK11=>O.j (K11 (C.ret (Outs.one rfl rfl ?_))))))
 first
 |exact ⟨cB (Dt.isSet_no hk2 (by omega) rfl c20).symm,e_1⟩
 |exact ⟨cB (Dt.isSet_yes (λi hi=>hI i hi (by omega))).symm,e_1⟩
theorem index_spec (v0:Value)(l:List Dt.Dot)(F:Nat->Prop)(d:Dt.Dot)(w:World)(hl:Sl Dt.dotF.enc w F v0 l):
 Ret prog 285 #[v0,Dt.dv (d)] w (λv w'=>(∃r:Int,v=.int .i64 r∧(r≥0↔d∈l))∧Le w w'):=by
 have hle:=hl.le;refine enT [v0,Dt.dv (d)] 19 func285 rfl rfl (C.sr λK1=>O.box (v:=Dt.dv (d)) rfl (λb3 w1 hb3 hz3 e1=>?_));have z1:=e1.size;have h3:=hz3.own;have hl3:=h3.lt;refine O.j (K1 (C.sq λK2=>C.sr λK3=>O.mv (O.len U41 rfl (hl.L e1) (O.mv (K3 (C.bl λK4=>C.loop0 (σ:=Nat) (λf0 w0 k f wz=>f 8=.int .i64 (k)∧f 0=f0 0∧f 3=f0 3∧f 7=f0 7∧Le w wz∧Own wz b3 112 (Dt.dv d).cells.toList∧k<=l.length∧∀i,∀h:i<l.length,i<k->l[i]≠d) (λk=>l.length-k) 0 ?_ ?_))))))
 ·
  refine ⟨rfl,rfl,rfl,rfl,e1,h3,?_⟩;exact ⟨Nat.zero_le _,λi h k=>absurd k (Nat.not_lt_zero _)⟩
 rintro k f_1 w2 ⟨s8_1,s0_1,s3_1,s7_1,e_1,r0_1,⟨hk,hI⟩⟩;have z_1:=e_1.size;refine C.sr λK5=>O.lssI s8_1 s7_1 (K5 (C.sq λK6=>C.condD rfl (λc9=>?_) (λc9=>?_)))
 ·
  refine C.skip (K6 (C.sq λK7=>C.bl λK8=>C.sr λK9=>O.mv (O.j (K9 (C.sd λK10 w3 e3 z3=>D.t 0 rfl leR (λ_ hw_ _ hN=>O.loadOA isAgg112 Z112 s3_1 ((r0_1.L e3).L hw_) (leB rfl) (O.o hN)) (D.mv 1 rfl leR (D.mv 2 rfl leR ?_)))))));obtain ⟨a14,h14,hr14⟩:=Sl.at (i:=(k:Int)) (P:=prog) U41 Z112 rfl ((hl.L e_1).L e3) (by omega);refine D.t 3 rfl leR (λ_ _ _ hN=>O.idxR s0_1 s8_1 hr14 (O.o hN)) (D.t 4 rfl leR (λ_ hw_ _ hN=>O.loadG (G:=Dt.dotF) isAgg112 Z112 rfl (h14.L hw_) (O.o hN)) (D.t 5 rfl leR (λ_ _ _ hN=>O.eqlP U112 (by decide) (by decide) rfl rfl U3 U3 isAgg3 isAgg3 (by kernel_rfl) (by kernel_rfl) rfl rfl (O.o hN)) (K10 (C.condD rfl (λc16=>?_) (λc16=>?_)))))
  ·
   refine C.sr λK11=>O.mv (O.j (K11 (C.ret (Outs.one rfl s8_1 ?_))))
   exact ⟨⟨_,rfl,⟨λ_=>by rw[c16];exact List.getElem_mem _,λ_=>by omega⟩⟩,(Ext.T e_1 e3)⟩
  refine C.skip (K8 (K7 (C.region (O.ad s8_1 rfl (O.mv (O.o (⟨k+1,⟨rfl,s0_1,s3_1,s7_1,(Ext.T e_1 e3),(r0_1.L e3),?_⟩,by first|omega|(simp only[];omega)⟩)))))));refine ⟨by omega,λi hi hik=>?_⟩;rcases Nat.lt_or_eq_of_le (Nat.le_of_lt_succ hik) with h|rfl
  ·exact hI i hi h
  ·exact λh=>c16 h.symm
 refine C.exit (K4 (K2 (C.sr λK12=>O.j (K12 (C.ret (Outs.one rfl rfl ?_))))))
 first
 |exact ⟨⟨_,rfl,⟨λ_=>by rw[c16];exact List.getElem_mem _,λ_=>by omega⟩⟩,e_1⟩
 |exact ⟨⟨-1,rfl,⟨λh=>absurd h (by omega),λh=>absurd h (Dt.not_mem λi hi=>hI i hi (by omega))⟩⟩,e_1⟩
theorem contains_spec (v0:Value)(l:List Dt.Dot)(F:Nat->Prop)(d:Dt.Dot)(w:World)(hl:Sl Dt.dotF.enc w F v0 l):
 Ret prog 256 #[v0,Dt.dv (d)] w (λv w'=>v=.bool (decide (d∈l))∧Le w w'):=by
 refine enT [v0,Dt.dv (d)] 9 func256 rfl rfl (C.sr λK1=>O.box (v:=Dt.dv (d)) rfl (λb3 w1 hb3 hz3 e1=>?_));have z1:=e1.size;have h3:=hz3.own;have hl3:=h3.lt;refine O.j (K1 (C.sr λK2=>O.mv (O.loadOA isAgg112 Z112 rfl h3 (leB rfl) (O.call call285 (args2 rfl rfl) (index_spec _ _ _ d _ (hl.L e1)) ?_))));rintro v_7 w2 ⟨⟨rv7,rfl,hrv7⟩,e2⟩;have z2:=e2.size;refine O.geqI rfl rfl (O.j (K2 (C.ret (Outs.one rfl rfl ?_))));exact ⟨cB (decide_eq_decide.2 hrv7),(Ext.T e1 e2)⟩
theorem has_spec (v0:Value)(l:List Dt.Dot)(F:Nat->Prop)(d:Dt.Dot)(w:World)(hl:Sl Dt.dotF.enc w F v0 l):
 Ret prog 218 #[v0,Dt.dv (d)] w (λv w'=>v=.bool (decide (d∈l))∧Le w w'):=by
 refine enT [v0,Dt.dv (d)] 8 func218 rfl rfl (C.sr λK1=>O.box (v:=Dt.dv (d)) rfl (λb3 w1 hb3 hz3 e1=>?_));have z1:=e1.size;have h3:=hz3.own;have hl3:=h3.lt;refine O.j (K1 (C.sr λK2=>O.mv (O.loadOA isAgg112 Z112 rfl h3 (leB rfl) (O.call call256 (args2 rfl rfl) (contains_spec _ _ _ d _ (hl.L e1)) ?_))));rintro v_7 w2 ⟨rfl,e2⟩;have z2:=e2.size;refine O.j (K2 (C.ret (Outs.one rfl rfl ?_)));exact ⟨rfl,(Ext.T e1 e2)⟩
theorem clone_spec (v0:Value)(l:List Dt.Dot)(F:Nat->Prop)(w:World)(hl:Sl Dt.dotF.enc w F v0 l)(hn:l.length<=1000000000000):
 Ret prog 123 #[v0] w (λv w'=>Le w w'∧OwnF Dt.dotF 112 w.heap.size w' v l):=by
 have hle:=hl.le;obtain ⟨ie112,ti112,ts112,tb112,tz112⟩:=inf112;refine enT [v0] 8 func123 rfl rfl (C.sr λK1=>O.j (K1 (C.sq λK2=>C.sr λK3=>O.mv (O.eqlNilS U41 rfl hl (K3 (C.cond rfl (λc4=>?_) (λc4=>?_)))))))
 ·
  refine C.sr λK4=>O.j (K4 (C.ret (Outs.one rfl rfl ?_)))
  (obtain rfl:=isNilS_nil hl c4
   exact ⟨leR,OwnF.nil _ _ _ _⟩)
 refine C.skip (K2 (C.sr λK5=>O.lit0 U41 ti112 (λb5 w1 hb5 hz5 e1=>?_)));have z1:=e1.size;have hl5:=hz5.own.lt;have h1005:OwnF Dt.dotF 112 w.heap.size w1 _ []:=OwnF.lit0 hz5 hb5;refine O.mv (O.appF (G:=Dt.dotF) U41 ti112 tz112 ts112 rfl rfl rfl h1005 (hl.L e1) (by rw[tb112];simp;omega) (by unfold maxLen;simp;omega) (by omega) (λv7 w2 h7 e2=>?_));have z2:=e2.size;have h7s:=h7.sl;refine O.j (K5 (C.ret (Outs.one rfl rfl ?_)))
 first
 |(obtain rfl:=isNilS_nil hl c4
   exact ⟨(Ext.new e1 e2 (by intro i hi h;have:=h1005.bk_ge i h;omega)),OwnF.nil _ _ _ _⟩)
 |exact ⟨(Ext.new e1 e2 (by intro i hi h;have:=h1005.bk_ge i h;omega)),h7⟩
end Go.Proofs.YtpbcafkcfobngaaGreatDoor
end
section
namespace Go.Proofs.YtpbcafkcfobngaaGreatDoor
open Go.Pn Go.RowKit _root_.Go.Proofs.Tryz
theorem vbad_spec (d:Dt.Dot)(w:World):
 Ret prog 226 #[Dt.dv (d)] w (λv w'=>v=.bool (Cn.badD d)∧Le w w'):=by
 refine enT [Dt.dv (d)] 6 func226 rfl rfl (C.sr λK1=>O.box (v:=Dt.dv (d)) rfl (λb1 w1 hb1 hz1 e1=>?_));have z1:=e1.size;have h1:=hz1.own;have hl1:=h1.lt;refine O.j (K1 (C.sr λK2=>O.loadOA isAgg112 Z112 rfl h1 (leB rfl) (O.call call217 (args1 rfl) (valid_spec d _) ?_)));rintro v_4 w2 ⟨rfl,e2⟩;have z2:=e2.size;refine O.not rfl (O.j (K2 (C.ret (Outs.one rfl rfl ?_))));exact ⟨rfl,(Ext.T e1 e2)⟩
theorem cbad_spec (d:Dt.Dot)(w:World):
 Ret prog 227 #[Dt.dv (d)] w (λv w'=>v=.bool (Cn.badD d)∧Le w w'):=by
 refine enT [Dt.dv (d)] 6 func227 rfl rfl (C.sr λK1=>O.box (v:=Dt.dv (d)) rfl (λb1 w1 hb1 hz1 e1=>?_));have z1:=e1.size;have h1:=hz1.own;have hl1:=h1.lt;refine O.j (K1 (C.sr λK2=>O.loadOA isAgg112 Z112 rfl h1 (leB rfl) (O.call call217 (args1 rfl) (valid_spec d _) ?_)));rintro v_4 w2 ⟨rfl,e2⟩;have z2:=e2.size;refine O.not rfl (O.j (K2 (C.ret (Outs.one rfl rfl ?_))));exact ⟨rfl,(Ext.T e1 e2)⟩
theorem pred_vbad (M:Nat->Prop)(w:World):Pred prog M w (.func (.func 226) #[] #[]) Dt.dv Cn.badD:=⟨226,[],rfl,call226,λd w' _=>vbad_spec d w'⟩
theorem pred_cbad (M:Nat->Prop)(w:World):Pred prog M w (.func (.func 227) #[] #[]) Dt.dv Cn.badD:=⟨227,[],rfl,call227,λd w' _=>cbad_spec d w'⟩
theorem indexV_spec (v0 vf:Value)(l:List Dt.Dot)(F M:Nat->Prop)(p:Dt.Dot->Bool)(w:World)(hl:Sl Dt.dotF.enc w F v0 l)(hp:Pred prog M w vf Dt.dv p):
 Ret prog 206 #[v0,vf] w (λv w'=>v=.int .i64 (Cn.idx p l)∧Le w w'):=by
 have hle:=hl.le;refine enT [v0,vf] 19 func206 rfl rfl (C.sr λK1=>O.j (K1 (C.sq λK2=>C.sr λK3=>O.mv (O.len U42 rfl hl (O.mv (K3 (C.bl λK4=>C.loop0 (σ:=Nat) (λf0 w0 k f wz=>f 8=.int .i64 (k)∧f 0=f0 0∧f 1=f0 1∧f 7=f0 7∧Le w wz∧k<=l.length∧∀i,∀h:i<l.length,i<k->p l[i]=false) (λk=>l.length-k) 0 ?_ ?_)))))))
 ·
  refine ⟨rfl,rfl,rfl,rfl,leR,?_⟩;exact ⟨Nat.zero_le _,λi h k=>absurd k (Nat.not_lt_zero _)⟩
 rintro k f_1 w1 ⟨s8_1,s0_1,s1_1,s7_1,e_1,⟨hk,hI⟩⟩;have z_1:=e_1.size;refine C.sr λK5=>O.lssI s8_1 s7_1 (K5 (C.sq λK6=>C.condD rfl (λc9=>?_) (λc9=>?_)))
 ·
  have hk2:k<l.length:=by omega
  refine C.skip (K6 (C.sq λK7=>C.bl λK8=>C.sr λK9=>O.mv (O.j (K9 (C.sr λK10=>O.mv (O.mv (O.mv (O.idx U42 Z112 rfl s0_1 (hl.L e_1) s8_1 (by omega) (λa14 h14=>O.loadG (G:=Dt.dotF) isAgg112 Z112 rfl h14 (O.callP (_) (hp.L e_1) s1_1 rfl (λw2 e2=>?_)))))))))));have z2:=e2.size;refine K10 (C.cond rfl (λc16=>?_) (λc16=>?_))
  ·
   simp only[Int.toNat_natCast] at c16;refine C.sr λK11=>O.mv (O.j (K11 (C.ret (Outs.one rfl s8_1 ?_))))
   exact ⟨cI (Cn.idx_yes hk2 c16 hI).symm,(Ext.T e_1 e2)⟩
  simp only[Int.toNat_natCast] at c16;refine C.skip (K8 (K7 (C.region (O.ad s8_1 rfl (O.mv (O.o (⟨k+1,⟨rfl,s0_1,s1_1,s7_1,(Ext.T e_1 e2),?_⟩,by first|omega|(simp only[];omega)⟩)))))));refine ⟨by omega,λi hi hik=>?_⟩;rcases Nat.lt_or_eq_of_le (Nat.le_of_lt_succ hik) with h|rfl
  ·exact hI i hi h
  ·exact c16
 refine C.exit (K4 (K2 (C.sr λK12=>O.j (K12 (C.ret (Outs.one rfl rfl ?_))))))
 first
 |exact ⟨cI (Cn.idx_yes hk2 c16 hI).symm,e_1⟩
 |exact ⟨cI (Cn.idx_no λi hi=>hI i hi (by omega)).symm,e_1⟩
theorem indexD_spec (v0 vf:Value)(l:List Dt.Dot)(F M:Nat->Prop)(p:Dt.Dot->Bool)(w:World)(hl:Sl Dt.dotF.enc w F v0 l)(hp:Pred prog M w vf Dt.dv p):
 Ret prog 208 #[v0,vf] w (λv w'=>v=.int .i64 (Cn.idx p l)∧Le w w'):=by
 have hle:=hl.le;refine enT [v0,vf] 19 func208 rfl rfl (C.sr λK1=>O.j (K1 (C.sq λK2=>C.sr λK3=>O.mv (O.len U41 rfl hl (O.mv (K3 (C.bl λK4=>C.loop0 (σ:=Nat) (λf0 w0 k f wz=>f 8=.int .i64 (k)∧f 0=f0 0∧f 1=f0 1∧f 7=f0 7∧Le w wz∧k<=l.length∧∀i,∀h:i<l.length,i<k->p l[i]=false) (λk=>l.length-k) 0 ?_ ?_)))))))
 ·
  refine ⟨rfl,rfl,rfl,rfl,leR,?_⟩;exact ⟨Nat.zero_le _,λi h k=>absurd k (Nat.not_lt_zero _)⟩
 rintro k f_1 w1 ⟨s8_1,s0_1,s1_1,s7_1,e_1,⟨hk,hI⟩⟩;have z_1:=e_1.size;refine C.sr λK5=>O.lssI s8_1 s7_1 (K5 (C.sq λK6=>C.condD rfl (λc9=>?_) (λc9=>?_)))
 ·
  have hk2:k<l.length:=by omega
  refine C.skip (K6 (C.sq λK7=>C.bl λK8=>C.sr λK9=>O.mv (O.j (K9 (C.sr λK10=>O.mv (O.mv (O.mv (O.idx U41 Z112 rfl s0_1 (hl.L e_1) s8_1 (by omega) (λa14 h14=>O.loadG (G:=Dt.dotF) isAgg112 Z112 rfl h14 (O.callP (_) (hp.L e_1) s1_1 rfl (λw2 e2=>?_)))))))))));have z2:=e2.size;refine K10 (C.cond rfl (λc16=>?_) (λc16=>?_))
  ·
   simp only[Int.toNat_natCast] at c16;refine C.sr λK11=>O.mv (O.j (K11 (C.ret (Outs.one rfl s8_1 ?_))))
   exact ⟨cI (Cn.idx_yes hk2 c16 hI).symm,(Ext.T e_1 e2)⟩
  simp only[Int.toNat_natCast] at c16;refine C.skip (K8 (K7 (C.region (O.ad s8_1 rfl (O.mv (O.o (⟨k+1,⟨rfl,s0_1,s1_1,s7_1,(Ext.T e_1 e2),?_⟩,by first|omega|(simp only[];omega)⟩)))))));refine ⟨by omega,λi hi hik=>?_⟩;rcases Nat.lt_or_eq_of_le (Nat.le_of_lt_succ hik) with h|rfl
  ·exact hI i hi h
  ·exact c16
 refine C.exit (K4 (K2 (C.sr λK12=>O.j (K12 (C.ret (Outs.one rfl rfl ?_))))))
 first
 |exact ⟨cI (Cn.idx_yes hk2 c16 hI).symm,e_1⟩
 |exact ⟨cI (Cn.idx_no λi hi=>hI i hi (by omega)).symm,e_1⟩
theorem containsV_spec (v0 vf:Value)(l:List Dt.Dot)(F M:Nat->Prop)(p:Dt.Dot->Bool)(w:World)(hl:Sl Dt.dotF.enc w F v0 l)(hp:Pred prog M w vf Dt.dv p):
 Ret prog 225 #[v0,vf] w (λv w'=>v=.bool (l.any p)∧Le w w'):=by
 refine enT [v0,vf] 9 func225 rfl rfl (C.sr λK1=>O.j (K1 (C.sr λK2=>O.mv (O.mv (O.call call206 (args2 rfl rfl) (indexV_spec _ _ _ _ _ _ _ hl hp) ?_)))));rintro v_7 w1 ⟨rfl,e1⟩;have z1:=e1.size;refine O.geqI rfl rfl (O.j (K2 (C.ret (Outs.one rfl rfl ?_))));exact ⟨cB (Cn.idx_any l),e1⟩
theorem containsD_spec (v0 vf:Value)(l:List Dt.Dot)(F M:Nat->Prop)(p:Dt.Dot->Bool)(w:World)(hl:Sl Dt.dotF.enc w F v0 l)(hp:Pred prog M w vf Dt.dv p):
 Ret prog 146 #[v0,vf] w (λv w'=>v=.bool (l.any p)∧Le w w'):=by
 refine enT [v0,vf] 9 func146 rfl rfl (C.sr λK1=>O.j (K1 (C.sr λK2=>O.mv (O.mv (O.call call208 (args2 rfl rfl) (indexD_spec _ _ _ _ _ _ _ hl hp) ?_)))));rintro v_7 w1 ⟨rfl,e1⟩;have z1:=e1.size;refine O.geqI rfl rfl (O.j (K2 (C.ret (Outs.one rfl rfl ?_))));exact ⟨cB (Cn.idx_any l),e1⟩
theorem vecValid_spec (v0:Value)(l:List Dt.Dot)(F:Nat->Prop)(w:World)(hl:Sl Dt.dotF.enc w F v0 l):
 Ret prog 168 #[v0] w (λv w'=>v=.bool (Cn.vecValid l)∧Le w w'):=by
 have hle:=hl.le;refine enT [v0] 25 func168 rfl rfl (C.sr λK1=>O.j (K1 (C.sq λK2=>C.sr λK3=>O.j (K3 (C.bl λK4=>C.loop0 (σ:=Nat) (λf0 w0 k f wz=>f 3=.int .i64 ((k:Int)+1)∧f 0=f0 0∧Le w wz∧∀i,∀h:i+1<l.length,i<k->decide (l[i].1<l[i+1].1)=true) (λk=>l.length-k) 0 ?_ ?_)))))
 ·
  refine ⟨(Eq.trans rfl (i64_eq (by omega))),rfl,leR,?_⟩;exact λi h k=>absurd k (Nat.not_lt_zero _)
 rintro k f_1 w1 ⟨s3_1,s0_1,e_1,hI⟩;have z_1:=e_1.size;refine C.sq λK5=>C.sr λK6=>O.mv (O.mv (O.len U42 s0_1 (hl.L e_1) (O.lssI s3_1 rfl (K6 (C.condD rfl (λc7=>?_) (λc7=>?_))))))
 ·
  have hk2:k+1<l.length:=by omega
  have x0:((k:Int)+1-1).toNat=k:=by omega
  have x1:((k:Int)+1).toNat=k+1:=by omega
  refine C.skip (K5 (C.sq λK7=>C.bl λK8=>C.sd λK9 w2 e2 z2=>D.mv 0 rfl leR (D.mv 1 rfl leR (D.t 2 rfl leR (λ_ _ _ hN=>O.sb s3_1 rfl (O.o hN)) ?_))));obtain ⟨a13,h13,hr13⟩:=Sl.at (i:=(k:Int)+1-1) (P:=prog) U42 Z112 rfl ((hl.L e_1).L e2) (by omega);refine D.t 3 rfl leR (λ_ _ _ hN=>O.idxR s0_1 rfl hr13 (O.o hN)) (D.t 4 rfl leR (λ_ _ _ hN=>O.ft U112 rfl Z3 rfl (O.o hN)) (D.t 5 rfl leR (λ_ hw_ _ hN=>O.loadAtF (G:=Dt.dotF) isAgg3 rfl rfl (h13.L hw_) (O.o hN)) (D.mv 6 rfl leR (D.mv 7 rfl leR ?_))));obtain ⟨a18,h18,hr18⟩:=Sl.at (i:=(k:Int)+1) (P:=prog) U42 Z112 rfl ((hl.L e_1).L e2) (by omega);refine D.t 8 rfl leR (λ_ _ _ hN=>O.idxR s0_1 s3_1 hr18 (O.o hN)) (D.t 9 rfl leR (λ_ _ _ hN=>O.ft U112 rfl Z3 rfl (O.o hN)) (D.t 10 rfl leR (λ_ hw_ _ hN=>O.loadAtF (G:=Dt.dotF) isAgg3 rfl rfl (h18.L hw_) (O.o hN)) (D.t 11 rfl leR (λ_ _ _ hN=>O.geqI rfl rfl (O.o hN)) (K9 (C.condD rfl (λc21=>?_) (λc21=>?_))))))
  ·
   simp only[x0,x1] at c21;refine C.sr λK10=>O.j (K10 (C.ret (Outs.one rfl rfl ?_)))
   (refine ⟨congrArg Value.bool ?_,(Ext.T e_1 e2)⟩
    have q:Cn.incr l=false:=Cn.adj_no hk2 (Nat.lt_of_succ_lt hk2) rfl (dF (by omega));unfold Cn.vecValid;rw[q]
    rfl)
  simp only[x0,x1] at c21;refine C.skip (K8 (K7 (C.region (O.mv (O.ad s3_1 rfl (O.j (O.o (⟨k+1,⟨(Eq.trans rfl (i64_eq (by omega))),s0_1,(Ext.T e_1 e2),?_⟩,by first|omega|(simp only[];omega)⟩))))))));intro i hi hik;rcases Nat.lt_or_eq_of_le (Nat.le_of_lt_succ hik) with h|rfl
  ·exact hI i hi h
  ·exact dT (by omega)
 refine C.exit (K4 (K2 (C.sr λK11=>O.mv (O.call call225 (args2 s0_1 rfl) (containsV_spec _ _ _ _ _ _ _ (hl.L e_1) (pred_vbad (λ_=>False) _)) ?_))));rintro v_23 w3 ⟨rfl,e3⟩;have z3:=e3.size;refine O.not rfl (O.j (K11 (C.ret (Outs.one rfl rfl ?_))))
 first
 |(refine ⟨congrArg Value.bool ?_,(Ext.T e_1 e3)⟩
   have q:Cn.incr l=false:=Cn.adj_no hk2 (Nat.lt_of_succ_lt hk2) rfl (dF (by omega));unfold Cn.vecValid;rw[q]
   rfl)
 |(refine ⟨congrArg Value.bool ?_,(Ext.T e_1 e3)⟩
   have q:Cn.incr l=true:=Cn.adj_yes (λi hi=>hI i hi (by omega));unfold Cn.vecValid;rw[q]
   rfl)
theorem get1_spec (d:Dt.Dot)(bc:Nat)(r:Int)(w:World)(ho:Own w bc 3 [.int .i64 r]):
 Ret prog 207 #[Dt.dv (d),.pointer (some ⟨bc,0,none⟩)] w (λv w'=>v=.bool (decide (d.1=r))∧Le w w'):=by
 refine enT [Dt.dv (d),.pointer (some ⟨bc,0,none⟩)] 8 func207 rfl rfl (C.sr λK1=>O.box (v:=Dt.dv (d)) rfl (λb2 w1 hb2 hz2 e1=>?_));have z1:=e1.size;have h2:=hz2.own;have hl2:=h2.lt;refine O.j (K1 (C.sr λK2=>O.fa U112 rfl Z3 rfl (O.loadO isAgg3 rfl h2 rfl (O.loadO isAgg3 rfl (ho.L e1) rfl (O.eqlI rfl rfl (O.j (K2 (C.ret (Outs.one rfl rfl ?_)))))))));exact ⟨rfl,e1⟩
theorem pred_get (bc:Nat)(r:Int)(M:Nat->Prop)(w:World)(ho:Own w bc 3 [.int .i64 r])(hM:¬M bc):Pred prog M w (.func (.func 207) #[] #[.pointer (some ⟨bc,0,none⟩)]) Dt.dv (λd=>decide (d.1=r)):=⟨207,[.pointer (some ⟨bc,0,none⟩)],rfl,call207,λd w' e=>get1_spec d bc r w' (ho.kM e hM)⟩
theorem get_spec (v0:Value)(l:List Dt.Dot)(F:Nat->Prop)(r:Int)(w:World)(hl:Sl Dt.dotF.enc w F v0 l):
 Ret prog 145 #[v0,.int .i64 (r)] w (λv w'=>v=.int .i64 (Cn.get l r)∧Le w w'):=by
 have hle:=hl.le;have hge:=Cn.idx_ge (p:=λd:Dt.Dot=>decide (d.1=r)) l;refine enT [v0,.int .i64 (r)] 16 func145 rfl rfl (C.sr λK1=>O.box (v:=.int .i64 (r)) rfl (λb3 w1 hb3 hz3 e1=>?_));have z1:=e1.size;have h3:=hz3.own;have hl3:=h3.lt;refine O.j (K1 (C.sr λK2=>O.mv (O.makeF (v1:=[]) rfl rfl (O.call call206 (args2 rfl rfl) (indexV_spec _ _ _ _ (λ_=>False) _ _ (hl.L e1) (pred_get b3 r _ _ h3 not_false)) ?_))));rintro v_8 w2 ⟨rfl,e2⟩;have z2:=e2.size;refine O.j (K2 (C.sq λK3=>C.sr λK4=>O.mv (O.lssI rfl rfl (K4 (C.condD rfl (λc10=>?_) (λc10=>?_))))))
 ·
  refine C.sr λK5=>O.j (K5 (C.ret (Outs.one rfl rfl ?_)))
  exact ⟨cI (Cn.get_no c10).symm,(Ext.T e1 e2)⟩
 refine C.skip (K3 (C.sr λK6=>O.mv (O.mv (O.idx U42 Z112 rfl rfl ((hl.L e1).L e2) rfl ⟨by omega,by have:=Cn.idx_lt (p:=λd:Dt.Dot=>decide (d.1=r)) (l:=l) (by omega);omega⟩ (λa13 h13=>O.ft U112 rfl Z3 rfl (O.loadAtF (G:=Dt.dotF) isAgg3 rfl rfl h13 (O.j (K6 (C.ret (Outs.one rfl rfl ?_))))))))))
 first
 |exact ⟨cI (Cn.get_no c10).symm,(Ext.T e1 e2)⟩
 |(obtain ⟨hk,q⟩:=Cn.get_yes2 c10
   exact ⟨cI q.symm,(Ext.T e1 e2)⟩)
theorem cvalid_spec (v0:Value)(l:List Dt.Dot)(F:Nat->Prop)(w:World)(hl:Sl Dt.dotF.enc w F v0 l):
 Ret prog 170 #[v0] w (λv w'=>v=.bool (!l.any Cn.badD)∧Le w w'):=by
 refine enT [v0] 6 func170 rfl rfl (C.sr λK1=>O.j (K1 (C.sr λK2=>O.mv (O.call call146 (args2 rfl rfl) (containsD_spec _ _ _ _ _ _ _ hl (pred_cbad (λ_=>False) _)) ?_))));rintro v_4 w1 ⟨rfl,e1⟩;have z1:=e1.size;refine O.not rfl (O.j (K2 (C.ret (Outs.one rfl rfl ?_))));exact ⟨rfl,e1⟩
theorem ctxValid_spec (v1 v2:Value)(x:Cn.Ctx)(F:Nat->Prop)(w:World)(hv:Sl Dt.dotF.enc w F v1 x.1)(hc:Sl Dt.dotF.enc w F v2 x.2):
 Ret prog 111 #[.agg #[v1,v2]] w (λv w'=>v=.bool (Cn.ctxValid x)∧Le w w'):=by
 refine enT [.agg #[v1,v2]] 16 func111 rfl rfl (C.sr λK1=>O.box (v:=.agg #[v1,v2]) rfl (λb1 w1 hb1 hz1 e1=>?_));have z1:=e1.size;have h1:=hz1.own;have hl1:=h1.lt;refine O.j (K1 (C.sr λK2=>O.fa U44 rfl Z42 rfl (O.loadO isAgg42 rfl h1 rfl (O.call call168 (args1 rfl) (vecValid_spec _ _ _ _ (hv.L e1)) ?_))));rintro v_5 w2 ⟨rfl,e2⟩;have z2:=e2.size;refine O.mv (O.split (x:=.tmp 6) rfl (λc6=>?_) (λc6=>?_))
 ·
  refine O.yes rfl (isT' rfl c6) (O.fa U44 rfl Z41 rfl (O.yes rfl (isT' rfl c6) (O.loadO isAgg41 rfl (h1.L e2) rfl (O.yes rfl (isT' rfl c6) (O.call call169 (args1 rfl) (isSet_spec _ _ _ _ ((hc.L e1).L e2)) ?_)))));rintro v_9 w3 ⟨rfl,e3⟩;have z3:=e3.size;refine O.pickT (isT' rfl c6) (O.mv (O.split (x:=.tmp 11) rfl (λc11=>?_) (λc11=>?_)))
  ·
   refine O.yes rfl (isT' rfl c11) (O.fa U44 rfl Z41 rfl (O.yes rfl (isT' rfl c11) (O.loadO isAgg41 rfl ((h1.L e2).L e3) rfl (O.yes rfl (isT' rfl c11) (O.call call170 (args1 rfl) (cvalid_spec _ _ _ _ (((hc.L e1).L e2).L e3)) ?_)))));rintro v_14 w4 ⟨rfl,e4⟩;have z4:=e4.size;refine O.pickT (isT' rfl c11) (O.j (K2 (C.ret (Outs.one rfl rfl (⟨congrArg Value.bool ?_,(Ext.T (Ext.T (Ext.T e1 e2) e3) e4)⟩)))));unfold Cn.ctxValid
   first
   |(rw[c6];rfl)
   |(rw[c6,c11];rfl)
  refine O.no rfl (noB (isF' rfl c11) rfl) (O.no rfl (noB (isF' rfl c11) rfl) (O.no rfl (noB (isF' rfl c11) rfl) (O.pickF (isF' rfl c11) (O.j (K2 (C.ret (Outs.one rfl rfl (⟨congrArg Value.bool ?_,(Ext.T (Ext.T e1 e2) e3)⟩))))))));unfold Cn.ctxValid
  first
  |(rw[c6];rfl)
  |(rw[c6,c11];rfl)
 refine O.no rfl (noB (isF' rfl c6) rfl) (O.no rfl (noB (isF' rfl c6) rfl) (O.no rfl (noB (isF' rfl c6) rfl) (O.pickF (isF' rfl c6) (O.mv (O.no rfl (noB rfl rfl) (O.no rfl (noB rfl rfl) (O.no rfl (noB rfl rfl) (O.pickF rfl (O.j (K2 (C.ret (Outs.one rfl rfl (⟨congrArg Value.bool ?_,(Ext.T e1 e2)⟩)))))))))))));unfold Cn.ctxValid
 (rw[c6];rfl)
theorem near_spec (d:Dt.Dot)(bc:Nat)(v1 v2:Value)(x:Cn.Ctx)(F:Nat->Prop)(w:World)(ho:Own w bc 44 [v1,v2])(hv:Sl Dt.dotF.enc w F v1 x.1)(hg:∀r,0<=Cn.get x.1 r∧Cn.get x.1 r<=4294967295):
 Ret prog 144 #[Dt.dv (d),.pointer (some ⟨bc,0,none⟩)] w (λv w'=>v=.bool (Cn.near x.1 d)∧Le w w'):=by
 refine enT [Dt.dv (d),.pointer (some ⟨bc,0,none⟩)] 13 func144 rfl rfl (C.sr λK1=>O.box (v:=Dt.dv (d)) rfl (λb2 w1 hb2 hz2 e1=>?_));have z1:=e1.size;have h2:=hz2.own;have hl2:=h2.lt;refine O.j (K1 (C.sd λK2 w2 e2 z2=>D.t 0 rfl leR (λ_ _ _ hN=>O.fa U112 rfl Z3 rfl (O.o hN)) (D.t 1 rfl leR (λ_ hw_ _ hN=>O.loadO isAgg3 rfl ((h2.L e2).L hw_) rfl (O.o hN)) (D.t 2 rfl leR (λ_ _ _ hN=>O.fa U44 rfl Z42 rfl (O.o hN)) (D.t 3 rfl leR (λ_ hw_ _ hN=>O.loadO isAgg42 rfl (((ho.L e1).L e2).L hw_) rfl (O.o hN)) (D.t 4 rfl leR (λ_ _ _ hN=>O.fa U112 rfl Z3 rfl (O.o hN)) (D.t 5 rfl leR (λ_ hw_ _ hN=>O.loadO isAgg3 rfl ((h2.L e2).L hw_) rfl (O.o hN)) (D.on 6 rfl rfl ?_))))))));refine O.call call145 (args2 rfl rfl) (get_spec _ x.1 _ d.1 _ ((hv.L e1).L e2)) ?_;rintro v_10 w3 ⟨rfl,e3⟩;have z3:=e3.size;refine O.o ⟨e3,?_⟩;have hgd:=hg d.1;refine D.t 7 rfl e3 (λ_ _ _ hN=>O.ad rfl rfl (O.o hN)) (D.t 8 rfl e3 (λ_ _ _ hN=>O.leqI rfl rfl (O.o hN)) (D.as 9 rfl e3 (K2 (C.ret (Outs.one rfl rfl ?_)))));exact ⟨rfl,(Ext.T (Ext.T e1 e2) e3)⟩
theorem pred_near (bc:Nat)(v1 v2:Value)(x:Cn.Ctx)(F M:Nat->Prop)(w:World)(ho:Own w bc 44 [v1,v2])(hv:Sl Dt.dotF.enc w F v1 x.1)(hg:∀r,0<=Cn.get x.1 r∧Cn.get x.1 r<=4294967295)(hM:¬M bc)(hF:∀k,F k->¬M k):Pred prog M w (.func (.func 144) #[] #[.pointer (some ⟨bc,0,none⟩)]) Dt.dv (Cn.near x.1):=⟨144,[.pointer (some ⟨bc,0,none⟩)],rfl,call144,λd w' e=>near_spec d bc v1 v2 x F w' (ho.kM e hM) (hv.kM e hF) hg⟩
theorem isCompact_spec (v1 v2:Value)(x:Cn.Ctx)(F:Nat->Prop)(w:World)(hv:Sl Dt.dotF.enc w F v1 x.1)(hc:Sl Dt.dotF.enc w F v2 x.2):
 Ret prog 98 #[.agg #[v1,v2]] w (λv w'=>v=.bool (Cn.isCompact x)∧Le w w'):=by
 refine enT [.agg #[v1,v2]] 14 func98 rfl rfl (C.sr λK1=>O.box (v:=.agg #[v1,v2]) rfl (λb1 w1 hb1 hz1 e1=>?_));have z1:=e1.size;have h1:=hz1.own;have hl1:=h1.lt;refine O.j (K1 (C.sr λK2=>O.makeF (v1:=[]) rfl rfl (O.j (K2 (C.sr λK3=>O.loadOA isAgg44 Z44 rfl h1 (leB rfl) (O.call call111 (args1 rfl) (ctxValid_spec v1 v2 x F _ (hv.L e1) (hc.L e1)) ?_))))));rintro v_6 w2 ⟨rfl,e2⟩;have z2:=e2.size;refine O.mv (O.split (x:=.tmp 7) rfl (λc7=>?_) (λc7=>?_))
 ·
  refine O.yes rfl (isT' rfl c7) (O.fa U44 rfl Z41 rfl (O.yes rfl (isT' rfl c7) (O.loadO isAgg41 rfl (h1.L e2) rfl (O.yes rfl (isT' rfl c7) (O.mv (O.yes rfl (isT' rfl c7) (O.call call146 (args2 rfl rfl) (containsD_spec _ _ _ _ (λ_=>False) _ _ ((hc.L e1).L e2) (pred_near b1 v1 v2 x F _ _ (h1.L e2) ((hv.L e1).L e2) (Cn.get_bound c7) not_false (λ_ _=>not_false))) ?_)))))));rintro v_11 w3 ⟨rfl,e3⟩;have z3:=e3.size;refine O.yes rfl (isT' rfl c7) (O.not rfl (O.pickT (isT' rfl c7) (O.j (K3 (C.ret (Outs.one rfl rfl (⟨congrArg Value.bool ?_,(Ext.T (Ext.T e1 e2) e3)⟩)))))));unfold Cn.isCompact;rw[c7]
  rfl
 refine O.no rfl (noB (isF' rfl c7) rfl) (O.no rfl (noB (isF' rfl c7) rfl) (O.no rfl (noB (isF' rfl c7) rfl) (O.no rfl (noB (isF' rfl c7) rfl) (O.no rfl (noB (isF' rfl c7) rfl) (O.pickF (isF' rfl c7) (O.j (K3 (C.ret (Outs.one rfl rfl (⟨congrArg Value.bool ?_,(Ext.T e1 e2)⟩))))))))));unfold Cn.isCompact;rw[c7]
 rfl
theorem vecHas_spec (v0:Value)(l:List Dt.Dot)(F:Nat->Prop)(d:Dt.Dot)(w:World)(hl:Sl Dt.dotF.enc w F v0 l):
 Ret prog 216 #[v0,Dt.dv (d)] w (λv w'=>v=.bool (Cn.vecHas l d)∧Le w w'):=by
 refine enT [v0,Dt.dv (d)] 16 func216 rfl rfl (C.sr λK1=>O.box (v:=Dt.dv (d)) rfl (λb3 w1 hb3 hz3 e1=>?_));have z1:=e1.size;have h3:=hz3.own;have hl3:=h3.lt;refine O.j (K1 (C.sd λK2 w2 e2 z2=>D.t 0 rfl leR (λ_ hw_ _ hN=>O.loadOA isAgg112 Z112 rfl ((h3.L e2).L hw_) (leB rfl) (O.o hN)) (D.on 1 rfl rfl (O.call call217 (args1 rfl) (valid_spec d _) ?_))));rintro v_6 w3 ⟨rfl,e3⟩;have z3:=e3.size;refine O.o ⟨e3,D.mv 2 rfl e3 (D.splitD (x:=.tmp 7) rfl (λc7=>?_) (λc7=>?_))⟩
 ·
  refine D.ty 3 rfl rfl rfl rfl (isT rfl c7) e3 ⟨_,rfl⟩ (λ_ hw_ _ hN=>O.fa U112 rfl Z3 rfl (O.o hN)) (D.ty 4 rfl rfl rfl rfl (isT rfl c7) e3 ⟨_,rfl⟩ (λ_ hw_ _ hN=>O.loadO isAgg3 rfl ((h3.L e2).L hw_) rfl (O.o hN)) (D.ty 5 rfl rfl rfl rfl (isT rfl c7) e3 ⟨pure _,rfl⟩ (λ_ hw_ _ hN=>O.mv (O.o hN)) (D.ty 6 rfl rfl rfl rfl (isT rfl c7) e3 ⟨_,rfl⟩ (λ_ hw_ _ hN=>O.fa U112 rfl Z3 rfl (O.o hN)) (D.ty 7 rfl rfl rfl rfl (isT rfl c7) e3 ⟨_,rfl⟩ (λ_ hw_ _ hN=>O.loadO isAgg3 rfl ((h3.L e2).L hw_) rfl (O.o hN)) (D.oneYes (i:=8) rfl rfl (isT rfl c7) (by kernel_rfl) ?_)))));refine O.call call145 (args2 rfl rfl) (get_spec _ l _ d.1 _ (((hl.L e1).L e2).L e3)) ?_;rintro v_13 w4 ⟨rfl,e4⟩;have z4:=e4.size;refine O.o ⟨(Ext.T e3 e4),D.ty 9 rfl rfl rfl rfl (isT rfl c7) (Ext.T e3 e4) ⟨_,rfl⟩ (λ_ hw_ _ hN=>O.leqI rfl rfl (O.o hN)) (D.tk 10 rfl rfl rfl rfl (Ext.T e3 e4) pick_form (λ_ hw_ _ hN=>O.pickT (isT rfl c7) (O.o hN)) (D.as 11 rfl (Ext.T e3 e4) (K2 (C.ret (Outs.one rfl rfl (⟨congrArg Value.bool ?_,(Ext.T (Ext.T (Ext.T e1 e2) e3) e4)⟩))))))⟩;unfold Cn.vecHas Cn.okD
  (rw[decide_eq_true c7];rfl)
 refine D.tn 3 rfl rfl e3 rfl (noB (isF rfl c7) rfl) (D.tn 4 rfl rfl e3 rfl (noB (isF rfl c7) rfl) (D.tn 5 rfl rfl e3 rfl (noB (isF rfl c7) rfl) (D.tn 6 rfl rfl e3 rfl (noB (isF rfl c7) rfl) (D.tn 7 rfl rfl e3 rfl (noB (isF rfl c7) rfl) (D.tn 8 rfl rfl e3 rfl (noB (isF rfl c7) rfl) (D.tn 9 rfl rfl e3 rfl (noB (isF rfl c7) rfl) (D.tk 10 rfl rfl rfl rfl e3 pick_form (λ_ hw_ _ hN=>O.pickF (isF rfl c7) (O.o hN)) (D.as 11 rfl e3 (K2 (C.ret (Outs.one rfl rfl (⟨congrArg Value.bool ?_,(Ext.T (Ext.T e1 e2) e3)⟩))))))))))));unfold Cn.vecHas Cn.okD
 first
 |(rw[decide_eq_true c7];rfl)
 |(rw[decide_eq_false c7];rfl)
theorem ctxHas_spec (v1 v2:Value)(x:Cn.Ctx)(F:Nat->Prop)(d:Dt.Dot)(w:World)(hv:Sl Dt.dotF.enc w F v1 x.1)(hc:Sl Dt.dotF.enc w F v2 x.2):
 Ret prog 151 #[.agg #[v1,v2],Dt.dv (d)] w (λv w'=>v=.bool (Cn.ctxHas x d)∧Le w w'):=by
 refine enT [.agg #[v1,v2],Dt.dv (d)] 19 func151 rfl rfl (C.sr λK1=>O.box (v:=.agg #[v1,v2]) rfl (λb2 w1 hb2 hz2 e1=>?_));have z1:=e1.size;have h2:=hz2.own;have hl2:=h2.lt;refine O.box (v:=Dt.dv (d)) rfl (λb3 w2 hb3 hz3 e2=>?_);have z2:=e2.size;have h3:=hz3.own;have hl3:=h3.lt;refine O.j (K1 (C.sr λK2=>O.fa U44 rfl Z42 rfl (O.loadO isAgg42 rfl (h2.L e2) rfl (O.loadOA isAgg112 Z112 rfl h3 (leB rfl) (O.call call216 (args2 rfl rfl) (vecHas_spec _ x.1 _ d _ ((hv.L e1).L e2)) ?_)))));rintro v_8 w3 ⟨rfl,e3⟩;have z3:=e3.size;refine O.mv (O.split (x:=.tmp 9) rfl (λc9=>?_) (λc9=>?_))
 ·
  refine O.no rfl (noB (isT' rfl c9) rfl) (O.no rfl (noB (isT' rfl c9) rfl) (O.no rfl (noB (isT' rfl c9) rfl) (O.no rfl (noU rfl) (O.no rfl (noU rfl) (O.no rfl (noU rfl) (O.no rfl (noU rfl) (O.no rfl (noB (isT' rfl c9) rfl) (O.pickT (isT' rfl c9) (O.j (K2 (C.ret (Outs.one rfl rfl (⟨congrArg Value.bool ?_,(Ext.T (Ext.T e1 e2) e3)⟩)))))))))))));unfold Cn.ctxHas Cn.okD
  (rw[c9];rfl)
 refine O.yes rfl (isF' rfl c9) (O.loadOA isAgg112 Z112 rfl (h3.L e3) (leB rfl) (O.yes rfl (isF' rfl c9) (O.call call217 (args1 rfl) (valid_spec d _) ?_)));rintro v_11 w4 ⟨rfl,e4⟩;have z4:=e4.size;refine O.yes rfl (isF' rfl c9) (O.mv (O.splitD (x:=.tmp 12) rfl (λc12=>?_) (λc12=>?_)))
 ·
  refine O.yes rfl (isT rfl c12) (O.fa U44 rfl Z41 rfl (O.yes rfl (isT rfl c12) (O.loadO isAgg41 rfl (((h2.L e2).L e3).L e4) rfl (O.yes rfl (isT rfl c12) (O.loadOA isAgg112 Z112 rfl ((h3.L e3).L e4) (leB rfl) (O.yes rfl (isT rfl c12) (O.call call218 (args2 rfl rfl) (has_spec _ x.2 _ d _ ((((hc.L e1).L e2).L e3).L e4)) ?_)))))));rintro v_16 w5 ⟨rfl,e5⟩;have z5:=e5.size;refine O.yes rfl (isF' rfl c9) (O.pickT (isT rfl c12) (O.pickF (isF' rfl c9) (O.j (K2 (C.ret (Outs.one rfl rfl (⟨congrArg Value.bool ?_,(Ext.T (Ext.T (Ext.T (Ext.T e1 e2) e3) e4) e5)⟩)))))));unfold Cn.ctxHas Cn.okD
  first
  |(rw[c9];rfl)
  |(rw[c9,decide_eq_true c12];rfl)
 refine O.no rfl (noB (isF rfl c12) rfl) (O.no rfl (noB (isF rfl c12) rfl) (O.no rfl (noB (isF rfl c12) rfl) (O.no rfl (noB (isF rfl c12) rfl) (O.yes rfl (isF' rfl c9) (O.pickF (isF rfl c12) (O.pickF (isF' rfl c9) (O.j (K2 (C.ret (Outs.one rfl rfl (⟨congrArg Value.bool ?_,(Ext.T (Ext.T (Ext.T e1 e2) e3) e4)⟩)))))))))));unfold Cn.ctxHas Cn.okD
 first
 |(rw[c9];rfl)
 |(rw[c9,decide_eq_true c12];rfl)
 |(rw[c9,decide_eq_false c12];rfl)
theorem miss1_spec (d:Dt.Dot)(bc:Nat)(v1 v2:Value)(x:Cn.Ctx)(F:Nat->Prop)(w:World)(ho:Own w bc 44 [v1,v2])(hv:Sl Dt.dotF.enc w F v1 x.1)(hc:Sl Dt.dotF.enc w F v2 x.2):
 Ret prog 150 #[Dt.dv (d),.pointer (some ⟨bc,0,none⟩)] w (λv w'=>v=.bool (Cn.ctxHas x d)∧Le w w'):=by
 refine enT [Dt.dv (d),.pointer (some ⟨bc,0,none⟩)] 7 func150 rfl rfl (C.sr λK1=>O.box (v:=Dt.dv (d)) rfl (λb2 w1 hb2 hz2 e1=>?_));have z1:=e1.size;have h2:=hz2.own;have hl2:=h2.lt;refine O.j (K1 (C.sr λK2=>O.loadOA isAgg44 Z44 rfl (ho.L e1) (leB rfl) (O.loadOA isAgg112 Z112 rfl h2 (leB rfl) (O.call call151 (args2 rfl rfl) (ctxHas_spec v1 v2 x F d _ (hv.L e1) (hc.L e1)) ?_))));rintro v_6 w2 ⟨rfl,e2⟩;have z2:=e2.size;refine O.j (K2 (C.ret (Outs.one rfl rfl ?_)));exact ⟨rfl,(Ext.T e1 e2)⟩
theorem pred_miss (bc:Nat)(v1 v2:Value)(x:Cn.Ctx)(F M:Nat->Prop)(w:World)(ho:Own w bc 44 [v1,v2])(hv:Sl Dt.dotF.enc w F v1 x.1)(hc:Sl Dt.dotF.enc w F v2 x.2)(hM:¬M bc)(hF:∀k,F k->¬M k):Pred prog M w (.func (.func 150) #[] #[.pointer (some ⟨bc,0,none⟩)]) Dt.dv (Cn.ctxHas x):=⟨150,[.pointer (some ⟨bc,0,none⟩)],rfl,call150,λd w' e=>miss1_spec d bc v1 v2 x F w' (ho.kM e hM) (hv.kM e hF) (hc.kM e hF)⟩
end Go.Proofs.YtpbcafkcfobngaaGreatDoor
end
section
namespace Go.Proofs.YtpbcafkcfobngaaGreatDoor
open Go.Pn Go.RowKit _root_.Go.Proofs.Tryz
theorem inf114:∃ie,prog.info? 114=some ie∧ie.size=4∧ie.bytes=32∧ie.zero=some (.agg #[.int .i64 0,.int .i64 0,.int .i64 0,.int .u64 0]):=by
 have h:(prog.info? 114).isSome=true:=by kernel_rfl
 exact ⟨(prog.info? 114).get h,(Option.some_get h).symm,by kernel_rfl,by kernel_rfl,by kernel_rfl⟩
theorem inf117:∃ie,prog.info? 117=some ie∧ie.size=2∧ie.bytes=40∧ie.zero=some (.agg #[.string ⟨#[]⟩,.slice none 0 0]):=by
 have h:(prog.info? 117).isSome=true:=by kernel_rfl
 exact ⟨(prog.info? 117).get h,(Option.some_get h).symm,by kernel_rfl,by kernel_rfl,by kernel_rfl⟩
theorem okQ_spec (q:Int)(w:World):
 Ret prog 254 #[.int .i64 (q)] w (λv w'=>v=.bool (decide (1<=q∧q<=2147483647))∧Le w w'):=by
 refine enT [.int .i64 (q)] 9 func254 rfl rfl (C.sr λK1=>O.j (K1 (C.sr λK2=>O.mv (O.geqI rfl rfl (O.mv (O.cut 3 (λf f'=>f' 8=.bool (decide (1<=q∧q<=2147483647))) ?_ ?_))))))
 ·
  refine O.splitD (x:=.tmp 5) rfl (λc5=>?_) (λc5=>?_)
  ·
   refine O.yes rfl (isT rfl c5) (O.mv (O.yes rfl (isT rfl c5) (O.leqI rfl rfl (O.pickT (isT rfl c5) (O.o (⟨?_,rfl⟩))))));exact dJ rfl
  refine O.no rfl (noB (isF rfl c5) rfl) (O.no rfl (noB (isF rfl c5) rfl) (O.pickF (isF rfl c5) (O.o (⟨?_,rfl⟩))));exact dJ rfl
 intro f_1 s8_1;refine O.j (K2 (C.ret (Outs.one rfl s8_1 ?_)));exact ⟨rfl,leR⟩
theorem okM_spec (m:MarkT)(w:World):
 Ret prog 213 #[mv (m)] w (λv w'=>v=.bool (Cn.okM m)∧Le w w'):=by
 refine enT [mv (m)] 16 func213 rfl rfl (C.sr λK1=>O.box (v:=mv (m)) rfl (λb1 w1 hb1 hz1 e1=>?_));have z1:=e1.size;have h1:=hz1.own;have hl1:=h1.lt;refine O.j (K1 (C.sr λK2=>O.fa U114 rfl Z112 rfl (O.loadOA isAgg112 Z112 rfl h1 (leB rfl) (O.call call217 (args1 rfl) (valid_spec m.1 _) ?_))));rintro v_5 w2 ⟨rfl,e2⟩;have z2:=e2.size;refine O.mv (O.splitD (x:=.tmp 6) rfl (λc6=>?_) (λc6=>?_))
 ·
  refine O.yes rfl (isT rfl c6) (O.fa U114 rfl Z3 rfl (O.yes rfl (isT rfl c6) (O.loadO isAgg3 rfl (h1.L e2) rfl (O.yes rfl (isT rfl c6) (O.call call254 (args1 rfl) (okQ_spec m.2.1 _) ?_)))));rintro v_9 w3 ⟨rfl,e3⟩;have z3:=e3.size;refine O.pickT (isT rfl c6) (O.mv (O.splitD (x:=.tmp 11) rfl (λc11=>?_) (λc11=>?_)))
  ·
   refine O.yes rfl (isT rfl c11) (O.fa U114 rfl Z110 rfl (O.yes rfl (isT rfl c11) (O.loadO isAgg110 rfl ((h1.L e2).L e3) rfl (O.yes rfl (isT rfl c11) (O.gtrU (m:=64) (b:=0#64) rfl rfl (O.pickT (isT rfl c11) (O.j (K2 (C.ret (Outs.one rfl rfl (⟨congrArg Value.bool ?_,(Ext.T (Ext.T e1 e2) e3)⟩)))))))))));unfold Cn.okM Cn.okD
   first
   |(rw[decide_eq_false c6];rfl)
   |(rw[decide_eq_true c6,decide_eq_false c11];rfl)
   |(rw[decide_eq_true c6,decide_eq_true c11];rfl)
  refine O.no rfl (noB (isF rfl c11) rfl) (O.no rfl (noB (isF rfl c11) rfl) (O.no rfl (noB (isF rfl c11) rfl) (O.pickF (isF rfl c11) (O.j (K2 (C.ret (Outs.one rfl rfl (⟨congrArg Value.bool ?_,(Ext.T (Ext.T e1 e2) e3)⟩))))))));unfold Cn.okM Cn.okD
  first
  |(rw[decide_eq_false c6];rfl)
  |(rw[decide_eq_true c6,decide_eq_false c11];rfl)
 refine O.no rfl (noB (isF rfl c6) rfl) (O.no rfl (noB (isF rfl c6) rfl) (O.no rfl (noB (isF rfl c6) rfl) (O.pickF (isF rfl c6) (O.mv (O.no rfl (noB rfl rfl) (O.no rfl (noB rfl rfl) (O.no rfl (noB rfl rfl) (O.pickF rfl (O.j (K2 (C.ret (Outs.one rfl rfl (⟨congrArg Value.bool ?_,(Ext.T e1 e2)⟩)))))))))))));unfold Cn.okM Cn.okD
 (rw[decide_eq_false c6];rfl)
theorem mbad_spec (m:MarkT)(w:World):
 Ret prog 212 #[mv (m)] w (λv w'=>v=.bool (Cn.badM m)∧Le w w'):=by
 refine enT [mv (m)] 6 func212 rfl rfl (C.sr λK1=>O.box (v:=mv (m)) rfl (λb1 w1 hb1 hz1 e1=>?_));have z1:=e1.size;have h1:=hz1.own;have hl1:=h1.lt;refine O.j (K1 (C.sr λK2=>O.loadOA isAgg114 Z114 rfl h1 (leB rfl) (O.call call213 (args1 rfl) (okM_spec m _) ?_)));rintro v_4 w2 ⟨rfl,e2⟩;have z2:=e2.size;refine O.not rfl (O.j (K2 (C.ret (Outs.one rfl rfl ?_))));exact ⟨rfl,(Ext.T e1 e2)⟩
theorem pred_mbad (M:Nat->Prop)(w:World):Pred prog M w (.func (.func 212) #[] #[]) mv Cn.badM:=⟨212,[],rfl,call212,λd w' _=>mbad_spec d w'⟩
theorem indexM_spec (v0 vf:Value)(l:List MarkT)(F M:Nat->Prop)(p:MarkT->Bool)(w:World)(hl:Sl markF.enc w F v0 l)(hp:Pred prog M w vf mv p):
 Ret prog 177 #[v0,vf] w (λv w'=>v=.int .i64 (Cn.idx p l)∧Le w w'):=by
 have hle:=hl.le;refine enT [v0,vf] 19 func177 rfl rfl (C.sr λK1=>O.j (K1 (C.sq λK2=>C.sr λK3=>O.mv (O.len U115 rfl hl (O.mv (K3 (C.bl λK4=>C.loop0 (σ:=Nat) (λf0 w0 k f wz=>f 8=.int .i64 (k)∧f 0=f0 0∧f 1=f0 1∧f 7=f0 7∧Le w wz∧k<=l.length∧∀i,∀h:i<l.length,i<k->p l[i]=false) (λk=>l.length-k) 0 ?_ ?_)))))))
 ·
  refine ⟨rfl,rfl,rfl,rfl,leR,?_⟩;exact ⟨Nat.zero_le _,λi h k=>absurd k (Nat.not_lt_zero _)⟩
 rintro k f_1 w1 ⟨s8_1,s0_1,s1_1,s7_1,e_1,⟨hk,hI⟩⟩;have z_1:=e_1.size;refine C.sr λK5=>O.lssI s8_1 s7_1 (K5 (C.sq λK6=>C.condD rfl (λc9=>?_) (λc9=>?_)))
 ·
  have hk2:k<l.length:=by omega
  refine C.skip (K6 (C.sq λK7=>C.bl λK8=>C.sr λK9=>O.mv (O.j (K9 (C.sr λK10=>O.mv (O.mv (O.mv (O.idx U115 Z114 rfl s0_1 (hl.L e_1) s8_1 (by omega) (λa14 h14=>O.loadG (G:=markF) isAgg114 Z114 rfl h14 (O.callP (_) (hp.L e_1) s1_1 rfl (λw2 e2=>?_)))))))))));have z2:=e2.size;refine K10 (C.cond rfl (λc16=>?_) (λc16=>?_))
  ·
   simp only[Int.toNat_natCast] at c16;refine C.sr λK11=>O.mv (O.j (K11 (C.ret (Outs.one rfl s8_1 ?_))))
   exact ⟨cI (Cn.idx_yes hk2 c16 hI).symm,(Ext.T e_1 e2)⟩
  simp only[Int.toNat_natCast] at c16;refine C.skip (K8 (K7 (C.region (O.ad s8_1 rfl (O.mv (O.o (⟨k+1,⟨rfl,s0_1,s1_1,s7_1,(Ext.T e_1 e2),?_⟩,by first|omega|(simp only[];omega)⟩)))))));refine ⟨by omega,λi hi hik=>?_⟩;rcases Nat.lt_or_eq_of_le (Nat.le_of_lt_succ hik) with h|rfl
  ·exact hI i hi h
  ·exact c16
 refine C.exit (K4 (K2 (C.sr λK12=>O.j (K12 (C.ret (Outs.one rfl rfl ?_))))))
 first
 |exact ⟨cI (Cn.idx_yes hk2 c16 hI).symm,e_1⟩
 |exact ⟨cI (Cn.idx_no λi hi=>hI i hi (by omega)).symm,e_1⟩
theorem containsM_spec (v0 vf:Value)(l:List MarkT)(F M:Nat->Prop)(p:MarkT->Bool)(w:World)(hl:Sl markF.enc w F v0 l)(hp:Pred prog M w vf mv p):
 Ret prog 211 #[v0,vf] w (λv w'=>v=.bool (l.any p)∧Le w w'):=by
 refine enT [v0,vf] 9 func211 rfl rfl (C.sr λK1=>O.j (K1 (C.sr λK2=>O.mv (O.mv (O.call call177 (args2 rfl rfl) (indexM_spec _ _ _ _ _ _ _ hl hp) ?_)))));rintro v_7 w1 ⟨rfl,e1⟩;have z1:=e1.size;refine O.geqI rfl rfl (O.j (K2 (C.ret (Outs.one rfl rfl ?_))));exact ⟨cB (Cn.idx_any l),e1⟩
theorem qdots_spec (v0:Value)(l:List MarkT)(F:Nat->Prop)(w:World)(hl:Sl markF.enc w F v0 l)(hn:l.length<=1000000):
 Ret prog 152 #[v0] w (λv w'=>Le w w'∧OwnF Dt.dotF 112 w.heap.size w' v (Cn.mdots l)):=by
 have hle:=hl.le;obtain ⟨ie112,ti112,ts112,tb112,tz112⟩:=inf112;refine enT [v0] 19 func152 rfl rfl (C.sr λK1=>O.j (K1 (C.sr λK2=>O.j (K2 (C.sq λK3=>C.sr λK4=>O.mv (O.len U115 rfl hl (O.mv (K4 (C.bl λK5=>C.loop0 (σ:=Nat×Value) (λf0 w0 ⟨k,o⟩ f wz=>f 3=o∧f 8=.int .i64 (k)∧f 2=f0 2∧f 6=f0 6∧f 7=f0 7∧Le w wz∧OwnF Dt.dotF 112 w.heap.size wz o (Cn.mdots (l.take k))∧k<=l.length) (λ⟨k,o⟩=>l.length-k) (0,.slice none 0 0) ?_ ?_)))))))))
 ·
  refine ⟨rfl,rfl,rfl,rfl,rfl,leR,(OwnF.nil _ _ _ _),?_⟩;exact Nat.zero_le _
 rintro ⟨k,o⟩ f_1 w1 ⟨s3_1,s8_1,s2_1,s6_1,s7_1,e_1,r0_1,hk⟩;have z_1:=e_1.size;have r0_1s:=r0_1.sl;have hlk:(Cn.mdots (l.take k)).length=k:=by unfold Cn.mdots;simp;omega
 refine C.sr λK6=>O.lssI s8_1 s7_1 (K6 (C.sq λK7=>C.condD rfl (λc9=>?_) (λc9=>?_)))
 ·
  have hk2:k<l.length:=by omega
  refine C.skip (K7 (C.sq λK8=>C.bl λK9=>C.sr λK10=>O.idx U115 Z114 rfl s6_1 (hl.L e_1) s8_1 (by omega) (λa10 h10=>O.loadG (G:=markF) isAgg114 Z114 rfl h10 ?_)));obtain ⟨u,hu⟩:∃u:MarkT,u=l[k]:=⟨_,rfl⟩
  refine O.cast (v':=mv u) (by rw[hu];rfl) (O.alloc zeroValue114 (λb5 w2 hb5 hz5 e2=>?_));have z2:=e2.size;have h5:=hz5.own;have hl5:=h5.lt;refine O.storeA (vs:=[.int .i64 u.1.1,.int .i64 u.1.2,.int .i64 u.2.1,.int .u64 (u.2.2.toNat:Int)]) Z114 rfl rfl rfl (by simp[Value.oneCell']) h5 (leB rfl) (λw3 hs3 e3 z3=>K10 (C.region (O.mv (O.fa U114 rfl Z112 rfl (O.loadOA isAgg112 Z112 rfl hs3 (leB rfl) (O.litG (G:=Dt.dotF) [u.1] U41 ti112 ts112 tz112 rfl (by decide) (by decide) rfl (λb15 w4 hb15 hz15 e4=>?_)))))));have z4:=e4.size;have h15:=hz15.own;have hq15:=Sl.litG (n:=1) h15 rfl (by unfold maxLen;omega);have t0:=(r0_1.L e2).kM e3 (λk hk h=>by have:=r0_1.bk_ge k hk;(try dsimp only at h);omega);refine O.appF (G:=Dt.dotF) U41 ti112 tz112 ts112 rfl s3_1 rfl (t0.L e4) hq15 (by rw[tb112];simp;omega) (by unfold maxLen;simp;omega) (by omega) (λv16 w5 h16 e5=>?_);have z5:=e5.size;have h16s:=h16.sl;refine O.j (O.o (K9 (K8 (C.region (O.ad s8_1 rfl (O.mv (O.o (⟨(k+1,_),⟨rfl,rfl,s2_1,s6_1,s7_1,(Ext.new (Ext.T (Ext.nr (Ext.T e_1 e2) e3) e4) e5 (by intro i hi h;have:=(t0.L e4).bk_ge i h;omega)),(by rw[show Cn.mdots (l.take (k+1))=Cn.mdots (l.take k)++[u.1] from by rw[hu];exact Cn.map_take _ hk2];exact h16),?_⟩,by first|omega|(simp only[];omega)⟩))))))))
  omega
 refine C.exit (K5 (K3 (C.sr λK11=>O.mv (O.j (K11 (C.ret (Outs.one rfl s3_1 ?_)))))));obtain rfl:k=l.length:=by omega
 rw[List.take_length] at r0_1;exact ⟨e_1,r0_1⟩
theorem isList_spec (v0:Value)(l:List MarkT)(F:Nat->Prop)(w:World)(hl:Sl markF.enc w F v0 l)(hn:l.length<=1000000):
 Ret prog 210 #[v0] w (λv w'=>v=.bool (Dt.isSet (Cn.mdots l))∧Le w w'):=by
 refine enT [v0] 6 func210 rfl rfl (C.sr λK1=>O.j (K1 (C.sr λK2=>O.mv (O.call call152 (args1 rfl) (qdots_spec _ _ _ _ hl hn) ?_))));rintro v_4 w1 ⟨e1,h4⟩;have z1:=e1.size;have h4s:=h4.sl;refine O.call call169 (args1 rfl) (isSet_spec _ _ _ _ h4s) ?_;rintro v_5 w2 ⟨rfl,e2⟩;have z2:=e2.size;refine O.j (K2 (C.ret (Outs.one rfl rfl ?_)));exact ⟨rfl,(Ext.T e1 e2)⟩
theorem sameD_spec (v0:Value)(a:List Dt.Dot)(v1:Value)(b:List Dt.Dot)(F F2:Nat->Prop)(w:World)(ha:Sl Dt.dotF.enc w F v0 a)(hb:Sl Dt.dotF.enc w F2 v1 b):
 Ret prog 96 #[v0,v1] w (λv w'=>v=.bool (decide (a=b))∧Le w w'):=by
 have hale:=ha.le;have hble:=hb.le;refine enT [v0,v1] 26 func96 rfl rfl (C.sr λK1=>O.j (K1 (C.sq λK2=>C.sr λK3=>O.mv (O.len U41 rfl ha (O.mv (O.len U41 rfl hb (O.neqI rfl rfl (K3 (C.condD rfl (λc10=>?_) (λc10=>?_))))))))))
 ·
  refine C.sr λK4=>O.j (K4 (C.ret (Outs.one rfl rfl ?_)))
  exact ⟨cB (dF (λh=>c10 (congrArg (λl:List Dt.Dot=>(l.length:Int)) h))).symm,leR⟩
 have hlen:a.length=b.length:=by omega
 refine C.skip (K2 (C.sq λK5=>C.sr λK6=>O.j (K6 (C.bl λK7=>C.loop0 (σ:=Nat) (λf0 w0 k f wz=>f 5=.int .i64 (k)∧f 0=f0 0∧f 1=f0 1∧Le w wz∧k<=a.length∧a.take k=b.take k) (λk=>a.length-k) 0 ?_ ?_))))
 ·
  refine ⟨rfl,rfl,rfl,leR,?_⟩;exact ⟨Nat.zero_le _,rfl⟩
 rintro k f_1 w1 ⟨s5_1,s0_1,s1_1,e_1,⟨hk,hI⟩⟩;have z_1:=e_1.size;refine C.sq λK8=>C.sr λK9=>O.mv (O.mv (O.len U41 s0_1 (ha.L e_1) (O.lssI s5_1 rfl (K9 (C.condD rfl (λc14=>?_) (λc14=>?_))))))
 ·
  refine C.skip (K8 (C.sq λK10=>C.bl λK11=>C.sd λK12 w2 e2 z2=>D.mv 0 rfl leR (D.mv 1 rfl leR ?_)));obtain ⟨a19,h19,hr19⟩:=Sl.at (i:=(k:Int)) (P:=prog) U41 Z112 rfl ((ha.L e_1).L e2) (by omega);refine D.t 2 rfl leR (λ_ _ _ hN=>O.idxR s0_1 s5_1 hr19 (O.o hN)) (D.t 3 rfl leR (λ_ hw_ _ hN=>O.loadG (G:=Dt.dotF) isAgg112 Z112 rfl (h19.L hw_) (O.o hN)) (D.mv 4 rfl leR (D.mv 5 rfl leR ?_)));obtain ⟨a23,h23,hr23⟩:=Sl.at (i:=(k:Int)) (P:=prog) U41 Z112 rfl ((hb.L e_1).L e2) (by omega);refine D.t 6 rfl leR (λ_ _ _ hN=>O.idxR s1_1 s5_1 hr23 (O.o hN)) (D.t 7 rfl leR (λ_ hw_ _ hN=>O.loadG (G:=Dt.dotF) isAgg112 Z112 rfl (h23.L hw_) (O.o hN)) (D.t 8 rfl leR (λ_ _ _ hN=>O.neqP U112 (by decide) (by decide) rfl rfl U3 U3 isAgg3 isAgg3 (by kernel_rfl) (by kernel_rfl) rfl rfl (O.o hN)) (K12 (C.condD rfl (λc25=>?_) (λc25=>?_)))))
  ·
   refine C.sr λK13=>O.j (K13 (C.ret (Outs.one rfl rfl ?_)))
   first
   |exact ⟨cB (dF (λh=>c10 (congrArg (λl:List Dt.Dot=>(l.length:Int)) h))).symm,(Ext.T e_1 e2)⟩
   |exact ⟨cB (dF (λh=>c25 (by simp only[h]))).symm,(Ext.T e_1 e2)⟩
  refine C.skip (K11 (K10 (C.region (O.mv (O.ad s5_1 rfl (O.j (O.o (⟨k+1,⟨rfl,s0_1,s1_1,(Ext.T e_1 e2),?_⟩,by first|omega|(simp only[];omega)⟩))))))));have hka:k<a.length:=by omega
  have hkb:k<b.length:=by omega
  have hq:a[k]=b[k]:=Decidable.of_not_not c25;refine ⟨by omega,?_⟩;rw[List.take_succ_eq_append_getElem hka,List.take_succ_eq_append_getElem hkb,hI,hq]
 refine C.exit (K7 (K5 (C.sr λK14=>O.j (K14 (C.ret (Outs.one rfl rfl ?_))))))
 first
 |exact ⟨cB (dF (λh=>c10 (congrArg (λl:List Dt.Dot=>(l.length:Int)) h))).symm,e_1⟩
 |exact ⟨cB (dF (λh=>c25 (by simp only[h]))).symm,e_1⟩
 |(have hk2:k=a.length:=by omega
   subst hk2;rw[List.take_length,List.take_of_length_le (by omega)] at hI;exact ⟨cB (decide_eq_true hI).symm,e_1⟩)
end Go.Proofs.YtpbcafkcfobngaaGreatDoor
end
section
namespace Go.Proofs.YtpbcafkcfobngaaGreatDoor
open Go.Pn Go.RowKit _root_.Go.Proofs.Tryz
theorem compact_a_spec (g cap B:Nat)(l:List Dt.Dot)(w:World)(ho:OwnF Dt.dotF 112 B w (.slice (some ⟨g,0,none⟩) l.length cap) l)(hn:l.length<=1000000000000):
 Ret prog 215 #[.slice (some ⟨g,0,none⟩) l.length cap] w (λv w'=>v=.slice (some ⟨g,0,none⟩) (Dt.compact l).length cap∧OwnF Dt.dotF 112 B w' v (Dt.compact l)∧Ext (λk=>k=g) w w'):=by
 have hs0:=ho.sl;have hcap:=ho.le_cap;refine enT [.slice (some ⟨g,0,none⟩) l.length cap] 61 func215 rfl rfl (C.sr λK1=>O.j (K1 (C.sq λK2=>C.sr λK3=>O.mv (O.len U41 rfl hs0 (O.lssI rfl rfl (K3 (C.condD rfl (λc8=>?_) (λc8=>?_))))))))
 ·
  refine C.sr λK4=>O.mv (O.j (K4 (C.ret (Outs.one rfl rfl ?_))))
  (have q0:Dt.compact l=l:=by
    rcases hq:l with _|⟨a,_|⟨b,r⟩⟩
    ·rfl
    ·rfl
    ·rw [hq] at c8;simp at c8;omega
   refine ⟨congrArg (λx:List Dt.Dot=>Value.slice (some ⟨g,0,none⟩) x.length cap) q0.symm,?_,(Ext.L _ _)⟩;rw[q0];exact ho)
 have hn2:2<=l.length:=by omega
 refine C.skip (K2 (C.sq λK5=>C.sr λK6=>O.j (K6 (C.bl λK7=>C.loop0 (σ:=Nat) (λf0 w0 k f wz=>f 3=.int .i64 (k)∧f 0=f0 0∧Le w wz∧OwnF Dt.dotF 112 B wz (.slice (some ⟨g,0,none⟩) l.length cap) l∧1<=k∧k<=l.length∧∀i,∀h:i+1<l.length,i+1<k->l[i]≠l[i+1]) (λk=>l.length-k) 1 ?_ ?_))))
 ·
  refine ⟨rfl,rfl,leR,ho,?_⟩;exact ⟨by omega,by omega,λi h k=>absurd k (by omega)⟩
 rintro k f_1 w1 ⟨s3_1,s0_1,e_1,r0_1,⟨hk1,hk,hI⟩⟩;have z_1:=e_1.size;have r0_1s:=r0_1.sl;refine C.sq λK8=>C.sr λK9=>O.mv (O.mv (O.len U41 s0_1 r0_1s (O.lssI s3_1 rfl (K9 (C.condD rfl (λc13=>?_) (λc13=>?_))))))
 ·
  have hk2:k<l.length:=by omega
  have x0:((k:Int)).toNat=k:=by omega
  have x1:((k:Int)-1).toNat=k-1:=by omega
  refine C.skip (K8 (C.sq λK10=>C.bl λK11=>C.sd λK12 w2 e2 z2=>D.mv 0 rfl leR (D.mv 1 rfl leR ?_)));obtain ⟨a18,h18,hr18⟩:=Sl.at (i:=(k:Int)) (P:=prog) U41 Z112 rfl (r0_1s.L e2) (by omega);refine D.t 2 rfl leR (λ_ _ _ hN=>O.idxR s0_1 s3_1 hr18 (O.o hN)) (D.t 3 rfl leR (λ_ hw_ _ hN=>O.loadG (G:=Dt.dotF) isAgg112 Z112 rfl (h18.L hw_) (O.o hN)) (D.mv 4 rfl leR (D.mv 5 rfl leR (D.t 6 rfl leR (λ_ _ _ hN=>O.sb s3_1 rfl (O.o hN)) ?_))));obtain ⟨a23,h23,hr23⟩:=Sl.at (i:=(k:Int)-1) (P:=prog) U41 Z112 rfl (r0_1s.L e2) (by omega);refine D.t 7 rfl leR (λ_ _ _ hN=>O.idxR s0_1 rfl hr23 (O.o hN)) (D.t 8 rfl leR (λ_ hw_ _ hN=>O.loadG (G:=Dt.dotF) isAgg112 Z112 rfl (h23.L hw_) (O.o hN)) (D.t 9 rfl leR (λ_ _ _ hN=>O.eqlP U112 (by decide) (by decide) rfl rfl U3 U3 isAgg3 isAgg3 (by kernel_rfl) (by kernel_rfl) rfl rfl (O.o hN)) (K12 (C.condD rfl (λc25=>?_) (λc25=>?_)))))
  ·
   simp only[x0,x1] at c25;refine C.sr λK13=>O.mv (O.mv (O.subHi U41 Z112 s0_1 s3_1 (by omega) (by omega) (O.j (K13 (C.sq λK14=>C.sr λK15=>O.j (K15 (C.bl λK16=>C.loop0 (σ:=Nat×Nat×List Dt.Dot) (λf0 w0 ⟨j,m,c⟩ f w=>f 5=.int .i64 (j)∧f 3=.int .i64 (m)∧f 0=f0 0∧f 2=f0 2∧f 4=f0 4∧Ext (λk=>k=g) w0 w∧OwnF Dt.dotF 112 B w (.slice (some ⟨g,0,none⟩) l.length cap) c∧c.length=l.length∧1<=j∧k+j<=l.length∧1<=m∧m+1<=k+j∧c.take m=Dt.compact (l.take (k+j))∧∀i,∀h1:i<c.length,∀h2:i<l.length,k+j<=i+1->c[i]=l[i]) (λ⟨j,m,c⟩=>l.length-(k+j)) (1,k,l) ?_ ?_)))))))
   ·
    refine ⟨rfl,s3_1,rfl,rfl,rfl,Ext.L _ _,(r0_1.L e2),⟨rfl,by omega,by omega,by omega,by omega,?_,λi _ _ _=>rfl⟩⟩;rw[Dt.compact_take hk1 hk2,if_pos c25.symm,List.append_nil,Dt.compact_distinct];intro i hi;simp only[List.getElem_take];exact hI i (by simp at hi;omega) (by simp at hi;omega)
   rintro ⟨j,m,c⟩ f_2 w3 ⟨s5_2,s3_2,s0_2,s2_2,s4_2,e_2,r0_2,⟨hcl,hj1,hj,hm1,hm,hT,hS⟩⟩;have z_2:=e_2.size;have r0_2s:=r0_2.sl;have hp4:=r0_2;rw[<-hcl] at hp4;replace hp4:=hp4.part (k:=k) (by omega);rw[hcl] at hp4;refine C.sq λK17=>C.sr λK18=>O.mv (O.mv (O.len U41 s4_2 hp4 (O.lssI s5_2 rfl (K18 (C.condD rfl (λc32=>?_) (λc32=>?_))))))
   ·
    have hj2:k+j<c.length:=by simp at c32;omega
    have y1:((j:Int)).toNat=j:=by omega
    have y2:((j:Int)-1).toNat=j-1:=by omega
    have y3:k+(j-1)=k+j-1:=by omega
    refine C.skip (K17 (C.sq λK19=>C.bl λK20=>C.sd λK21 w4 e4 z4=>D.mv 0 rfl leR (D.mv 1 rfl leR ?_)));obtain ⟨a37,h37,hr37⟩:=Sl.at (i:=(j:Int)) (P:=prog) U41 Z112 rfl (hp4.L e4) (by simp;omega);refine D.t 2 rfl leR (λ_ _ _ hN=>O.idxR s4_2 s5_2 hr37 (O.o hN)) (D.t 3 rfl leR (λ_ hw_ _ hN=>O.loadG (G:=Dt.dotF) isAgg112 Z112 rfl (h37.L hw_) (O.o hN)) (D.mv 4 rfl leR (D.mv 5 rfl leR (D.t 6 rfl leR (λ_ _ _ hN=>O.sb s5_2 rfl (O.o hN)) ?_))));obtain ⟨a42,h42,hr42⟩:=Sl.at (i:=(j:Int)-1) (P:=prog) U41 Z112 rfl (hp4.L e4) (by simp;omega);refine D.t 7 rfl leR (λ_ _ _ hN=>O.idxR s4_2 rfl hr42 (O.o hN)) (D.t 8 rfl leR (λ_ hw_ _ hN=>O.loadG (G:=Dt.dotF) isAgg112 Z112 rfl (h42.L hw_) (O.o hN)) (D.t 9 rfl leR (λ_ _ _ hN=>O.neqP U112 (by decide) (by decide) rfl rfl U3 U3 isAgg3 isAgg3 (by kernel_rfl) (by kernel_rfl) rfl rfl (O.o hN)) (K21 (C.condD rfl (λc44=>?_) (λc44=>?_)))))
    ·
     simp only[y1,y2,List.getElem_drop] at c44;rw[hS (k+j) hj2 (by omega) (by omega),hS (k+(j-1)) (by omega) (by omega) (by omega)] at c44;simp only[y3] at c44;refine C.sr λK22=>O.mv (O.mv (O.mv (O.mv (O.idx U41 Z112 rfl s4_2 (hp4.L e4) s5_2 (by simp;omega) (λa49 h49=>O.loadG (G:=Dt.dotF) isAgg112 Z112 rfl h49 ?_)))))
     obtain ⟨u,hu⟩:∃u:Dt.Dot,u=l[k+j]'(by omega):=⟨_,rfl⟩
     refine O.cast (v':=.agg (Dt.dotF.e u).toArray) (by subst hu;simp only[y1,List.getElem_drop];rw[hS (k+j) hj2 (by omega) (by omega)]) (O.idxO U41 Z112 (Eq.trans s0_2 s0_1) s3_2 (by omega) (O.cast (v':=.pointer (some ⟨g,m*Dt.dotF.sz,none⟩)) (by rw[Nat.zero_add,Int.toNat_natCast];rfl) ?_));have ho51:=(r0_2.L e4)
     rw[<-hcl] at ho51;refine O.storeG (G:=Dt.dotF) (_) Z112 rfl rfl ho51 (by omega) (λw5 hs5 e5 z5=>?_);rw[hcl] at hs5;refine K22 (C.region (O.mv (O.ad s3_2 rfl (O.cast (v':=.int .i64 ((m+1:Nat):Int)) rfl (O.j (O.o (K20 (K19 (C.region (O.mv (O.ad s5_2 rfl (O.j (O.o (⟨(j+1,_,_),⟨rfl,rfl,s0_2,s2_2,s4_2,(Ext.T (Ext.T e_2 (Le.to e4)) (e5)),hs5,?_⟩,by first|omega|(simp only[];omega)⟩))))))))))))))
     (refine ⟨by rw[List.length_set];exact hcl,by omega,by omega,by omega,by omega,?_,λi h1 h2 h3=>?_⟩
      ·rw [List.take_succ_eq_append_getElem (by rw[List.length_set];omega),List.take_set,List.set_eq_of_length_le (by simp;omega),hT,show k+(j+1)=k+j+1 from rfl,Dt.compact_take (by omega) (by omega),if_neg (λh=>c44 h.symm),List.getElem_set_self,hu]
      ·rw [List.getElem_set_ne (by omega)]
       exact hS i (by rw[List.length_set] at h1;exact h1) h2 (by omega))
    simp only[y1,y2,List.getElem_drop] at c44;rw[hS (k+j) hj2 (by omega) (by omega),hS (k+(j-1)) (by omega) (by omega) (by omega)] at c44;simp only[y3] at c44;refine C.skip (K20 (K19 (C.region (O.mv (O.ad s5_2 rfl (O.j (O.o (⟨(j+1,_,_),⟨rfl,s3_2,s0_2,s2_2,s4_2,(Ext.T e_2 (Le.to e4)),(r0_2.L e4),?_⟩,by first|omega|(simp only[];omega)⟩))))))))
    first
    |(refine ⟨by rw[List.length_set];exact hcl,by omega,by omega,by omega,by omega,?_,λi h1 h2 h3=>?_⟩
      ·rw [List.take_succ_eq_append_getElem (by rw[List.length_set];omega),List.take_set,List.set_eq_of_length_le (by simp;omega),hT,show k+(j+1)=k+j+1 from rfl,Dt.compact_take (by omega) (by omega),if_neg (λh=>c44 h.symm),List.getElem_set_self,hu]
      ·rw [List.getElem_set_ne (by omega)]
       exact hS i (by rw[List.length_set] at h1;exact h1) h2 (by omega))
    |(refine ⟨hcl,by omega,by omega,hm1,by omega,?_,λi h1 h2 h3=>hS i h1 h2 (by omega)⟩
      rw[hT,show k+(j+1)=k+j+1 from rfl,Dt.compact_take (by omega) (by omega),if_pos (Decidable.of_not_not c44).symm,List.append_nil])
   have hj3:k+j=l.length:=by simp at c32;omega
   refine C.exit (K16 (K14 (C.sr λK23=>O.mv (O.mv (O.subHi U41 Z112 (Eq.trans s0_2 s0_1) s3_2 (by omega) (by omega) ?_)))));have hkw6:=r0_2;rw[<-hcl] at hkw6;refine O.clearG (G:=Dt.dotF) (zx:=(0,0)) (k:=m) U41 zeroValue112 rfl (by rw[hcl];exact rfl) hkw6 (by omega) (λw6 hc6 e6 z6=>?_);rw[hcl] at hc6;refine K23 (C.sr λK24=>O.mv (O.mv (O.subLo U41 Z112 (Eq.trans s0_2 s0_1) s3_2 (by omega) (by omega) (O.j (K24 (C.ret (Outs.one rfl rfl ?_)))))))
   first
   |(have q0:Dt.compact l=l:=by
      rcases hq:l with _|⟨a,_|⟨b,r⟩⟩
      ·rfl
      ·rfl
      ·rw [hq] at c8;simp at c8;omega
     refine ⟨congrArg (λx:List Dt.Dot=>Value.slice (some ⟨g,0,none⟩) x.length cap) q0.symm,?_,(Ext.T (Ext.T (Ext.T (Le.to e_1) (Le.to e2)) e_2) e6)⟩;rw[q0];exact hc6)
   |(have q0:Dt.compact l=l:=Dt.compact_distinct (λi hi=>hI i hi (by omega))
     refine ⟨congrArg (λx:List Dt.Dot=>Value.slice (some ⟨g,0,none⟩) x.length cap) q0.symm,?_,(Ext.T (Ext.T (Ext.T (Le.to e_1) (Le.to e2)) e_2) e6)⟩;rw[q0];exact hc6)
   |(have q1:c.take m=Dt.compact l:=by rw[hT,hj3,List.take_length]
     have q2:(Dt.compact l).length=m:=by rw[<-q1,List.length_take];omega
     refine ⟨congrArg (λx:Nat=>Value.slice (some ⟨g,0,none⟩) x cap) q2.symm,?_,(Ext.T (Ext.T (Ext.T (Le.to e_1) (Le.to e2)) e_2) e6)⟩;have hf:=hc6;obtain ⟨X,hX⟩:∃X:List Dt.Dot,X=c.take m++List.replicate (l.length-m) ((0,0):Dt.Dot):=⟨_,rfl⟩
     have hx:X.length=l.length:=by rw[hX];simp;omega
     rw[<-hX,<-hx] at hf;replace hf:=hf.first (k:=m) (by rw[hx];omega)
     rw[hX,List.take_append_of_le_length (by simp;omega),List.take_take,Nat.min_self,q1] at hf;exact hf)
  simp only[x0,x1] at c25;refine C.skip (K11 (K10 (C.region (O.mv (O.ad s3_1 rfl (O.j (O.o (⟨k+1,⟨rfl,s0_1,(Ext.T e_1 e2),(r0_1.L e2),?_⟩,by first|omega|(simp only[];omega)⟩))))))));refine ⟨by omega,by omega,λi hi hik=>?_⟩;rcases Nat.lt_or_eq_of_le (Nat.le_of_lt_succ hik) with h|rfl
  ·exact hI i hi h
  ·exact λh=>c25 h.symm
 refine C.exit (K7 (K5 (C.sr λK25=>O.mv (O.j (K25 (C.ret (Outs.one rfl s0_1 ?_)))))))
 first
 |(have q0:Dt.compact l=l:=by
    rcases hq:l with _|⟨a,_|⟨b,r⟩⟩
    ·rfl
    ·rfl
    ·rw [hq] at c8;simp at c8;omega
   refine ⟨congrArg (λx:List Dt.Dot=>Value.slice (some ⟨g,0,none⟩) x.length cap) q0.symm,?_,(Le.to e_1)⟩;rw[q0];exact r0_1)
 |(have q0:Dt.compact l=l:=Dt.compact_distinct (λi hi=>hI i hi (by omega))
   refine ⟨congrArg (λx:List Dt.Dot=>Value.slice (some ⟨g,0,none⟩) x.length cap) q0.symm,?_,(Le.to e_1)⟩;rw[q0];exact r0_1)
end Go.Proofs.YtpbcafkcfobngaaGreatDoor
end
section
namespace Go.Proofs
open Go.Shelf
def Tryz.sortF_ren:Go.Shelf.Ren:=⟨λ|6=>214|15=>109|14=>255|28=>166|29=>167|20=>277|21=>278|22=>279|23=>280|24=>281|25=>282|26=>283|27=>284|46=>291|47=>221|48=>222|49=>292|50=>293|57=>297|n=>n,λ|22=>41|24=>112|25=>166|3=>3|39=>135|0=>0|53=>34|55=>110|4=>4|46=>211|45=>210|50=>81|5=>5|9=>9|66=>258|70=>261|76=>290|77=>291|n=>n,λ|n=>n⟩
theorem Tryz.sortF:Go.Proofs.SlLaysF0.n6 Tryz.prog Tryz.sortF_ren:={
 mixed:=by kernel_rfl
 f6:=⟨Tryz.f214.name,by decide,Tryz.func214.trans (congrArg some (by kernel_rfl))⟩
 f14:=⟨Tryz.f255.name,by decide,Tryz.func255.trans (congrArg some (by kernel_rfl))⟩
 f15:=Tryz.func109.trans (congrArg some (by kernel_rfl))
 f20:=⟨Tryz.f277.name,by decide,Tryz.func277.trans (congrArg some (by kernel_rfl))⟩
 f21:=⟨Tryz.f278.name,by decide,Tryz.func278.trans (congrArg some (by kernel_rfl))⟩
 f22:=⟨Tryz.f279.name,by decide,Tryz.func279.trans (congrArg some (by kernel_rfl))⟩
 f23:=⟨Tryz.f280.name,by decide,Tryz.func280.trans (congrArg some (by kernel_rfl))⟩
 f24:=⟨Tryz.f281.name,by decide,Tryz.func281.trans (congrArg some (by kernel_rfl))⟩
 f25:=⟨Tryz.f282.name,by decide,Tryz.func282.trans (congrArg some (by kernel_rfl))⟩
 f26:=⟨Tryz.f283.name,by decide,Tryz.func283.trans (congrArg some (by kernel_rfl))⟩
 f27:=⟨Tryz.f284.name,by decide,Tryz.func284.trans (congrArg some (by kernel_rfl))⟩
 f28:=Tryz.func166.trans (congrArg some (by kernel_rfl))
 f29:=Tryz.func167.trans (congrArg some (by kernel_rfl))
 f46:=⟨Tryz.f291.name,by decide,Tryz.func291.trans (congrArg some (by kernel_rfl))⟩
 f47:=Tryz.func221.trans (congrArg some (by kernel_rfl))
 f48:=Tryz.func222.trans (congrArg some (by kernel_rfl))
 f49:=⟨Tryz.f292.name,by decide,Tryz.func292.trans (congrArg some (by kernel_rfl))⟩
 f50:=⟨Tryz.f293.name,by decide,Tryz.func293.trans (congrArg some (by kernel_rfl))⟩
 f57:=⟨Tryz.f297.name,by decide,Tryz.func297.trans (congrArg some (by kernel_rfl))⟩
 t0:=Tryz.underlying0
 a0:=Tryz.isAgg0
 z0:=Tryz.sizeOf0
 v0:=Tryz.zeroValue0
 t3:=U3
 a3:=Tryz.isAgg3
 z3:=Z3
 v3:=Tryz.zeroValue3
 t4:=Tryz.underlying4
 a4:=Tryz.isAgg4
 z4:=Tryz.sizeOf4
 v4:=Tryz.zeroValue4
 t5:=U5
 a5:=Tryz.isAgg5
 z5:=Z5
 v5:=Tryz.zeroValue5
 t9:=U9
 a9:=Tryz.isAgg9
 z9:=Z9
 v9:=Tryz.zeroValue9
 t22:=U41
 a22:=Tryz.isAgg41
 z22:=Z41
 v22:=Tryz.zeroValue41
 t25:=Tryz.underlying166
 a25:=Tryz.isAgg166
 z25:=Tryz.sizeOf166
 v25:=Tryz.zeroValue166
 t39:=U135
 a39:=Tryz.isAgg135
 z39:=Tryz.sizeOf135
 v39:=Tryz.zeroValue135
 t45:=Tryz.underlying210
 a45:=Tryz.isAgg210
 z45:=Tryz.sizeOf210
 v45:=Tryz.zeroValue210
 t46:=Tryz.underlying211
 a46:=Tryz.isAgg211
 z46:=Tryz.sizeOf211
 v46:=Tryz.zeroValue211
 t50:=Tryz.underlying81
 a50:=Tryz.isAgg81
 z50:=Tryz.sizeOf81
 v50:=Tryz.zeroValue81
 t53:=U34
 a53:=Tryz.isAgg34
 z53:=Tryz.sizeOf34
 v53:=Tryz.zeroValue34
 t55:=U110
 a55:=Tryz.isAgg110
 z55:=Z110
 v55:=Tryz.zeroValue110
 t66:=Tryz.underlying258
 a66:=Tryz.isAgg258
 z66:=Tryz.sizeOf258
 v66:=Tryz.zeroValue258
 t70:=Tryz.underlying261
 a70:=Tryz.isAgg261
 z70:=Tryz.sizeOf261
 v70:=Tryz.zeroValue261
 t76:=Tryz.underlying290
 a76:=Tryz.isAgg290
 z76:=Tryz.sizeOf290
 v76:=Tryz.zeroValue290
 t77:=Tryz.underlying291
 a77:=Tryz.isAgg291
 z77:=Tryz.sizeOf291
 v77:=Tryz.zeroValue291}
def Tryz.sortM_ren:Go.Shelf.Ren:=⟨λ|6=>117|15=>109|14=>180|28=>166|29=>167|20=>233|21=>234|22=>235|23=>236|24=>237|25=>238|26=>239|27=>240|46=>261|47=>221|48=>222|49=>262|50=>263|57=>286|n=>n,λ|22=>115|24=>114|25=>167|3=>3|39=>135|0=>0|53=>34|55=>110|4=>4|46=>211|45=>210|50=>81|5=>5|9=>9|66=>258|70=>261|76=>290|77=>291|n=>n,λ|n=>n⟩
theorem Tryz.sortM:Go.Proofs.SlLaysF0.n6 Tryz.prog Tryz.sortM_ren:={
 mixed:=by kernel_rfl
 f6:=⟨Tryz.f117.name,by decide,Tryz.func117.trans (congrArg some (by kernel_rfl))⟩
 f14:=⟨Tryz.f180.name,by decide,Tryz.func180.trans (congrArg some (by kernel_rfl))⟩
 f15:=Tryz.func109.trans (congrArg some (by kernel_rfl))
 f20:=⟨Tryz.f233.name,by decide,Tryz.func233.trans (congrArg some (by kernel_rfl))⟩
 f21:=⟨Tryz.f234.name,by decide,Tryz.func234.trans (congrArg some (by kernel_rfl))⟩
 f22:=⟨Tryz.f235.name,by decide,Tryz.func235.trans (congrArg some (by kernel_rfl))⟩
 f23:=⟨Tryz.f236.name,by decide,Tryz.func236.trans (congrArg some (by kernel_rfl))⟩
 f24:=⟨Tryz.f237.name,by decide,Tryz.func237.trans (congrArg some (by kernel_rfl))⟩
 f25:=⟨Tryz.f238.name,by decide,Tryz.func238.trans (congrArg some (by kernel_rfl))⟩
 f26:=⟨Tryz.f239.name,by decide,Tryz.func239.trans (congrArg some (by kernel_rfl))⟩
 f27:=⟨Tryz.f240.name,by decide,Tryz.func240.trans (congrArg some (by kernel_rfl))⟩
 f28:=Tryz.func166.trans (congrArg some (by kernel_rfl))
 f29:=Tryz.func167.trans (congrArg some (by kernel_rfl))
 f46:=⟨Tryz.f261.name,by decide,Tryz.func261.trans (congrArg some (by kernel_rfl))⟩
 f47:=Tryz.func221.trans (congrArg some (by kernel_rfl))
 f48:=Tryz.func222.trans (congrArg some (by kernel_rfl))
 f49:=⟨Tryz.f262.name,by decide,Tryz.func262.trans (congrArg some (by kernel_rfl))⟩
 f50:=⟨Tryz.f263.name,by decide,Tryz.func263.trans (congrArg some (by kernel_rfl))⟩
 f57:=⟨Tryz.f286.name,by decide,Tryz.func286.trans (congrArg some (by kernel_rfl))⟩
 t0:=Tryz.underlying0
 a0:=Tryz.isAgg0
 z0:=Tryz.sizeOf0
 v0:=Tryz.zeroValue0
 t3:=U3
 a3:=Tryz.isAgg3
 z3:=Z3
 v3:=Tryz.zeroValue3
 t4:=Tryz.underlying4
 a4:=Tryz.isAgg4
 z4:=Tryz.sizeOf4
 v4:=Tryz.zeroValue4
 t5:=U5
 a5:=Tryz.isAgg5
 z5:=Z5
 v5:=Tryz.zeroValue5
 t9:=U9
 a9:=Tryz.isAgg9
 z9:=Z9
 v9:=Tryz.zeroValue9
 t22:=U115
 a22:=Tryz.isAgg115
 z22:=Z115
 v22:=Tryz.zeroValue115
 t25:=Tryz.underlying167
 a25:=Tryz.isAgg167
 z25:=Tryz.sizeOf167
 v25:=Tryz.zeroValue167
 t39:=U135
 a39:=Tryz.isAgg135
 z39:=Tryz.sizeOf135
 v39:=Tryz.zeroValue135
 t45:=Tryz.underlying210
 a45:=Tryz.isAgg210
 z45:=Tryz.sizeOf210
 v45:=Tryz.zeroValue210
 t46:=Tryz.underlying211
 a46:=Tryz.isAgg211
 z46:=Tryz.sizeOf211
 v46:=Tryz.zeroValue211
 t50:=Tryz.underlying81
 a50:=Tryz.isAgg81
 z50:=Tryz.sizeOf81
 v50:=Tryz.zeroValue81
 t53:=U34
 a53:=Tryz.isAgg34
 z53:=Tryz.sizeOf34
 v53:=Tryz.zeroValue34
 t55:=U110
 a55:=Tryz.isAgg110
 z55:=Z110
 v55:=Tryz.zeroValue110
 t66:=Tryz.underlying258
 a66:=Tryz.isAgg258
 z66:=Tryz.sizeOf258
 v66:=Tryz.zeroValue258
 t70:=Tryz.underlying261
 a70:=Tryz.isAgg261
 z70:=Tryz.sizeOf261
 v70:=Tryz.zeroValue261
 t76:=Tryz.underlying290
 a76:=Tryz.isAgg290
 z76:=Tryz.sizeOf290
 v76:=Tryz.zeroValue290
 t77:=Tryz.underlying291
 a77:=Tryz.isAgg291
 z77:=Tryz.sizeOf291
 v77:=Tryz.zeroValue291}
def Tryz.sortS_ren:Go.Shelf.Ren:=⟨λ|6=>71|15=>109|14=>108|28=>166|29=>167|20=>158|21=>159|22=>160|23=>161|24=>162|25=>163|26=>164|27=>165|46=>220|47=>221|48=>222|49=>223|50=>224|57=>257|n=>n,λ|22=>69|24=>9|25=>123|3=>3|39=>135|0=>0|53=>34|55=>110|4=>4|46=>211|45=>210|50=>81|5=>5|9=>9|66=>258|70=>261|76=>290|77=>291|n=>n,λ|n=>n⟩
theorem Tryz.sortS:Go.Proofs.SlLaysF.n6 Tryz.prog Tryz.sortS_ren:={
 mixed:=by kernel_rfl
 f6:=⟨Tryz.f71.name,by decide,Tryz.func71.trans (congrArg some (by kernel_rfl))⟩
 f14:=⟨Tryz.f108.name,by decide,Tryz.func108.trans (congrArg some (by kernel_rfl))⟩
 f15:=Tryz.func109.trans (congrArg some (by kernel_rfl))
 f20:=⟨Tryz.f158.name,by decide,Tryz.func158.trans (congrArg some (by kernel_rfl))⟩
 f21:=⟨Tryz.f159.name,by decide,Tryz.func159.trans (congrArg some (by kernel_rfl))⟩
 f22:=⟨Tryz.f160.name,by decide,Tryz.func160.trans (congrArg some (by kernel_rfl))⟩
 f23:=⟨Tryz.f161.name,by decide,Tryz.func161.trans (congrArg some (by kernel_rfl))⟩
 f24:=⟨Tryz.f162.name,by decide,Tryz.func162.trans (congrArg some (by kernel_rfl))⟩
 f25:=⟨Tryz.f163.name,by decide,Tryz.func163.trans (congrArg some (by kernel_rfl))⟩
 f26:=⟨Tryz.f164.name,by decide,Tryz.func164.trans (congrArg some (by kernel_rfl))⟩
 f27:=⟨Tryz.f165.name,by decide,Tryz.func165.trans (congrArg some (by kernel_rfl))⟩
 f28:=Tryz.func166.trans (congrArg some (by kernel_rfl))
 f29:=Tryz.func167.trans (congrArg some (by kernel_rfl))
 f46:=⟨Tryz.f220.name,by decide,Tryz.func220.trans (congrArg some (by kernel_rfl))⟩
 f47:=Tryz.func221.trans (congrArg some (by kernel_rfl))
 f48:=Tryz.func222.trans (congrArg some (by kernel_rfl))
 f49:=⟨Tryz.f223.name,by decide,Tryz.func223.trans (congrArg some (by kernel_rfl))⟩
 f50:=⟨Tryz.f224.name,by decide,Tryz.func224.trans (congrArg some (by kernel_rfl))⟩
 f57:=⟨Tryz.f257.name,by decide,Tryz.func257.trans (congrArg some (by kernel_rfl))⟩
 t0:=Tryz.underlying0
 a0:=Tryz.isAgg0
 z0:=Tryz.sizeOf0
 v0:=Tryz.zeroValue0
 t3:=U3
 a3:=Tryz.isAgg3
 z3:=Z3
 v3:=Tryz.zeroValue3
 t4:=Tryz.underlying4
 a4:=Tryz.isAgg4
 z4:=Tryz.sizeOf4
 v4:=Tryz.zeroValue4
 t5:=U5
 a5:=Tryz.isAgg5
 z5:=Z5
 v5:=Tryz.zeroValue5
 t9:=U9
 a9:=Tryz.isAgg9
 z9:=Z9
 v9:=Tryz.zeroValue9
 t22:=U69
 a22:=Tryz.isAgg69
 z22:=Z69
 v22:=Tryz.zeroValue69
 a24:=Tryz.isAgg9
 z24:=Z9
 t25:=Tryz.underlying123
 a25:=Tryz.isAgg123
 z25:=Tryz.sizeOf123
 v25:=Tryz.zeroValue123
 t39:=U135
 a39:=Tryz.isAgg135
 z39:=Tryz.sizeOf135
 v39:=Tryz.zeroValue135
 t45:=Tryz.underlying210
 a45:=Tryz.isAgg210
 z45:=Tryz.sizeOf210
 v45:=Tryz.zeroValue210
 t46:=Tryz.underlying211
 a46:=Tryz.isAgg211
 z46:=Tryz.sizeOf211
 v46:=Tryz.zeroValue211
 t50:=Tryz.underlying81
 a50:=Tryz.isAgg81
 z50:=Tryz.sizeOf81
 v50:=Tryz.zeroValue81
 t53:=U34
 a53:=Tryz.isAgg34
 z53:=Tryz.sizeOf34
 v53:=Tryz.zeroValue34
 t55:=U110
 a55:=Tryz.isAgg110
 z55:=Z110
 v55:=Tryz.zeroValue110
 t66:=Tryz.underlying258
 a66:=Tryz.isAgg258
 z66:=Tryz.sizeOf258
 v66:=Tryz.zeroValue258
 t70:=Tryz.underlying261
 a70:=Tryz.isAgg261
 z70:=Tryz.sizeOf261
 v70:=Tryz.zeroValue261
 t76:=Tryz.underlying290
 a76:=Tryz.isAgg290
 z76:=Tryz.sizeOf290
 v76:=Tryz.zeroValue290
 t77:=Tryz.underlying291
 a77:=Tryz.isAgg291
 z77:=Tryz.sizeOf291
 v77:=Tryz.zeroValue291}
def Tryz.sortP_ren:Go.Shelf.Ren:=⟨λ|14=>255|20=>277|21=>278|22=>279|23=>280|24=>281|25=>282|26=>283|27=>284|46=>291|47=>221|48=>222|49=>292|50=>293|15=>109|57=>297|28=>166|29=>167|n=>n,λ|24=>112|22=>41|3=>3|25=>166|4=>4|0=>0|46=>211|45=>210|50=>81|66=>258|39=>135|55=>110|70=>261|76=>290|77=>291|53=>34|5=>5|9=>9|n=>n,λ|n=>n⟩
theorem Tryz.sortP:Go.Proofs.SlLaysF0.n14 Tryz.prog Tryz.sortP_ren:={
 mixed:=by kernel_rfl
 f14:=⟨Tryz.f255.name,by decide,Tryz.func255.trans (congrArg some (by kernel_rfl))⟩
 f15:=Tryz.func109.trans (congrArg some (by kernel_rfl))
 f20:=⟨Tryz.f277.name,by decide,Tryz.func277.trans (congrArg some (by kernel_rfl))⟩
 f21:=⟨Tryz.f278.name,by decide,Tryz.func278.trans (congrArg some (by kernel_rfl))⟩
 f22:=⟨Tryz.f279.name,by decide,Tryz.func279.trans (congrArg some (by kernel_rfl))⟩
 f23:=⟨Tryz.f280.name,by decide,Tryz.func280.trans (congrArg some (by kernel_rfl))⟩
 f24:=⟨Tryz.f281.name,by decide,Tryz.func281.trans (congrArg some (by kernel_rfl))⟩
 f25:=⟨Tryz.f282.name,by decide,Tryz.func282.trans (congrArg some (by kernel_rfl))⟩
 f26:=⟨Tryz.f283.name,by decide,Tryz.func283.trans (congrArg some (by kernel_rfl))⟩
 f27:=⟨Tryz.f284.name,by decide,Tryz.func284.trans (congrArg some (by kernel_rfl))⟩
 f28:=Tryz.func166.trans (congrArg some (by kernel_rfl))
 f29:=Tryz.func167.trans (congrArg some (by kernel_rfl))
 f46:=⟨Tryz.f291.name,by decide,Tryz.func291.trans (congrArg some (by kernel_rfl))⟩
 f47:=Tryz.func221.trans (congrArg some (by kernel_rfl))
 f48:=Tryz.func222.trans (congrArg some (by kernel_rfl))
 f49:=⟨Tryz.f292.name,by decide,Tryz.func292.trans (congrArg some (by kernel_rfl))⟩
 f50:=⟨Tryz.f293.name,by decide,Tryz.func293.trans (congrArg some (by kernel_rfl))⟩
 f57:=⟨Tryz.f297.name,by decide,Tryz.func297.trans (congrArg some (by kernel_rfl))⟩
 t0:=Tryz.underlying0
 a0:=Tryz.isAgg0
 z0:=Tryz.sizeOf0
 v0:=Tryz.zeroValue0
 t3:=U3
 a3:=Tryz.isAgg3
 z3:=Z3
 v3:=Tryz.zeroValue3
 t4:=Tryz.underlying4
 a4:=Tryz.isAgg4
 z4:=Tryz.sizeOf4
 v4:=Tryz.zeroValue4
 t5:=U5
 a5:=Tryz.isAgg5
 z5:=Z5
 v5:=Tryz.zeroValue5
 t9:=U9
 a9:=Tryz.isAgg9
 z9:=Z9
 v9:=Tryz.zeroValue9
 t22:=U41
 a22:=Tryz.isAgg41
 z22:=Z41
 v22:=Tryz.zeroValue41
 t25:=Tryz.underlying166
 a25:=Tryz.isAgg166
 z25:=Tryz.sizeOf166
 v25:=Tryz.zeroValue166
 t39:=U135
 a39:=Tryz.isAgg135
 z39:=Tryz.sizeOf135
 v39:=Tryz.zeroValue135
 t45:=Tryz.underlying210
 a45:=Tryz.isAgg210
 z45:=Tryz.sizeOf210
 v45:=Tryz.zeroValue210
 t46:=Tryz.underlying211
 a46:=Tryz.isAgg211
 z46:=Tryz.sizeOf211
 v46:=Tryz.zeroValue211
 t50:=Tryz.underlying81
 a50:=Tryz.isAgg81
 z50:=Tryz.sizeOf81
 v50:=Tryz.zeroValue81
 t53:=U34
 a53:=Tryz.isAgg34
 z53:=Tryz.sizeOf34
 v53:=Tryz.zeroValue34
 t55:=U110
 a55:=Tryz.isAgg110
 z55:=Z110
 v55:=Tryz.zeroValue110
 t66:=Tryz.underlying258
 a66:=Tryz.isAgg258
 z66:=Tryz.sizeOf258
 v66:=Tryz.zeroValue258
 t70:=Tryz.underlying261
 a70:=Tryz.isAgg261
 z70:=Tryz.sizeOf261
 v70:=Tryz.zeroValue261
 t76:=Tryz.underlying290
 a76:=Tryz.isAgg290
 z76:=Tryz.sizeOf290
 v76:=Tryz.zeroValue290
 t77:=Tryz.underlying291
 a77:=Tryz.isAgg291
 z77:=Tryz.sizeOf291
 v77:=Tryz.zeroValue291}
end Go.Proofs
end
section
namespace Go.Proofs
open Go.Shelf
def Tryz.lays160_ren:Go.Shelf.Ren:=⟨λ|160=>252|232=>270|231=>269|227=>271|234=>273|233=>272|236=>275|235=>274|228=>287|271=>289|151=>97|197=>288|120=>295|152=>143|260=>294|137=>202|119=>203|224=>204|225=>205|217=>251|266=>268|n=>n,λ|9=>9|4=>4|3=>3|5=>5|117=>304|116=>303|0=>0|124=>307|21=>21|105=>315|46=>135|119=>320|139=>323|138=>322|n=>n,λ|3=>1|4=>2|n=>n⟩
theorem Tryz.lays160:Go.Proofs.Lays.n160 Tryz.prog Tryz.lays160_ren:={
 mixed:=by kernel_rfl
 f119:=Tryz.func203.trans (congrArg some (by kernel_rfl))
 f120:=Tryz.func295.trans (congrArg some (by kernel_rfl))
 f137:=Tryz.func202.trans (congrArg some (by kernel_rfl))
 f151:=Tryz.func97.trans (congrArg some (by kernel_rfl))
 f152:=Tryz.func143.trans (congrArg some (by kernel_rfl))
 f160:=Tryz.func252.trans (congrArg some (by kernel_rfl))
 f197:=Tryz.func288.trans (congrArg some (by kernel_rfl))
 f217:=Tryz.func251.trans (congrArg some (by kernel_rfl))
 f224:=Tryz.func204.trans (congrArg some (by kernel_rfl))
 f225:=Tryz.func205.trans (congrArg some (by kernel_rfl))
 f227:=Tryz.func271.trans (congrArg some (by kernel_rfl))
 f228:=Tryz.func287.trans (congrArg some (by kernel_rfl))
 f231:=Tryz.func269.trans (congrArg some (by kernel_rfl))
 f232:=Tryz.func270.trans (congrArg some (by kernel_rfl))
 f233:=Tryz.func272.trans (congrArg some (by kernel_rfl))
 f234:=Tryz.func273.trans (congrArg some (by kernel_rfl))
 f235:=Tryz.func274.trans (congrArg some (by kernel_rfl))
 f236:=Tryz.func275.trans (congrArg some (by kernel_rfl))
 f260:=Tryz.func294.trans (congrArg some (by kernel_rfl))
 f266:=Tryz.func268.trans (congrArg some (by kernel_rfl))
 f271:=Tryz.func289.trans (congrArg some (by kernel_rfl))
 t0:=Tryz.underlying0
 a0:=Tryz.isAgg0
 z0:=Tryz.sizeOf0
 v0:=Tryz.zeroValue0
 t3:=U3
 a3:=Tryz.isAgg3
 z3:=Z3
 v3:=Tryz.zeroValue3
 t4:=Tryz.underlying4
 a4:=Tryz.isAgg4
 z4:=Tryz.sizeOf4
 v4:=Tryz.zeroValue4
 t5:=U5
 a5:=Tryz.isAgg5
 z5:=Z5
 v5:=Tryz.zeroValue5
 t9:=U9
 a9:=Tryz.isAgg9
 z9:=Z9
 v9:=Tryz.zeroValue9
 t21:=Tryz.underlying21
 a21:=Tryz.isAgg21
 z21:=Tryz.sizeOf21
 v21:=Tryz.zeroValue21
 t46:=U135
 a46:=Tryz.isAgg135
 z46:=Tryz.sizeOf135
 v46:=Tryz.zeroValue135
 t105:=Tryz.underlying315
 a105:=Tryz.isAgg315
 z105:=Tryz.sizeOf315
 v105:=Tryz.zeroValue315
 t116:=Tryz.underlying303
 a116:=Tryz.isAgg303
 z116:=Tryz.sizeOf303
 t117:=Tryz.underlying304
 a117:=Tryz.isAgg304
 z117:=Tryz.sizeOf304
 v117:=Tryz.zeroValue304
 t119:=Tryz.underlying320
 a119:=Tryz.isAgg320
 z119:=Tryz.sizeOf320
 t124:=Tryz.underlying307
 a124:=Tryz.isAgg307
 z124:=Tryz.sizeOf307
 v124:=Tryz.zeroValue307
 t138:=Tryz.underlying322
 a138:=Tryz.isAgg322
 z138:=Tryz.sizeOf322
 v138:=Tryz.zeroValue322
 t139:=Tryz.underlying323
 a139:=Tryz.isAgg323
 z139:=Tryz.sizeOf323
 v139:=Tryz.zeroValue323
 g3:=by kernel_rfl
 g4:=by kernel_rfl}
open Go.RowKit in
theorem Tryz.strings_Trim_one (s:ByteArray)(c:UInt8)(hc:c.toNat<128)(w:World)(hs:s.size<=9223372036854775807):
 Calls Tryz.prog 252 #[.string s,.string ⟨#[c]⟩] w λe w'=>e=.returned (.string ⟨(Lib.trimB s.data.toList c).toArray⟩)∧(w'=w∨w'=w.drew):=Any.strings_Trim_one Tryz.lays160 s c hc w hs
def Tryz.lays125_ren:Go.Shelf.Ren:=⟨λ|125=>109|128=>166|129=>167|n=>n,λ|46=>135|3=>3|51=>34|53=>110|4=>4|5=>5|9=>9|n=>n,λ|n=>n⟩
theorem Tryz.lays125:Go.Proofs.Lays.n125 Tryz.prog Tryz.lays125_ren:={
 mixed:=by kernel_rfl
 f125:=Tryz.func109.trans (congrArg some (by kernel_rfl))
 f128:=Tryz.func166.trans (congrArg some (by kernel_rfl))
 f129:=Tryz.func167.trans (congrArg some (by kernel_rfl))
 t3:=U3
 a3:=Tryz.isAgg3
 z3:=Z3
 v3:=Tryz.zeroValue3
 t4:=Tryz.underlying4
 a4:=Tryz.isAgg4
 z4:=Tryz.sizeOf4
 v4:=Tryz.zeroValue4
 t5:=U5
 a5:=Tryz.isAgg5
 z5:=Z5
 v5:=Tryz.zeroValue5
 t9:=U9
 a9:=Tryz.isAgg9
 z9:=Z9
 v9:=Tryz.zeroValue9
 t46:=U135
 a46:=Tryz.isAgg135
 z46:=Tryz.sizeOf135
 v46:=Tryz.zeroValue135
 t51:=U34
 a51:=Tryz.isAgg34
 z51:=Tryz.sizeOf34
 v51:=Tryz.zeroValue34
 t53:=U110
 a53:=Tryz.isAgg110
 z53:=Z110
 v53:=Tryz.zeroValue110}
theorem Tryz.bits_Len (x:Int)(w:World)(h0:0<=x)(h1:x<=18446744073709551615):
 Calls Tryz.prog 109 #[.int .u64 x] w λe w'=>e=.returned (.int .i64 (Lib.bitLen x.toNat))∧w'=w:=Any.bits_Len Tryz.lays125 x w h0 h1
def Tryz.lays106_ren:Go.Shelf.Ren:=⟨λ|106=>76|213=>121|265=>183|n=>n,λ|9=>9|3=>3|n=>n,λ|n=>n⟩
theorem Tryz.lays106:Go.Proofs.Lays.n106 Tryz.prog Tryz.lays106_ren:={
 mixed:=by kernel_rfl
 f106:=Tryz.func76.trans (congrArg some (by kernel_rfl))
 f213:=Tryz.func121.trans (congrArg some (by kernel_rfl))
 f265:=Tryz.func183.trans (congrArg some (by kernel_rfl))
 t3:=U3
 a3:=Tryz.isAgg3
 z3:=Z3
 v3:=Tryz.zeroValue3
 t9:=U9
 a9:=Tryz.isAgg9
 z9:=Z9
 v9:=Tryz.zeroValue9}
open Go.RowKit in
theorem Tryz.strings_Compare (a b:ByteArray)(w:World):
 Calls Tryz.prog 76 #[.string a,.string b] w λe w'=>e=.returned (.int .i64 (Lib.compareBytes a.data.toList b.data.toList))∧w'=w:=Any.strings_Compare Tryz.lays106 a b w
def Tryz.lays144_ren:Go.Shelf.Ren:=⟨λ|144=>253|143=>276|219=>290|217=>251|225=>205|224=>204|267=>296|266=>268|314=>298|n=>n,λ|9=>9|4=>4|3=>3|5=>5|46=>135|146=>324|51=>34|n=>n,λ|1=>0|n=>n⟩
theorem Tryz.lays144:Go.Proofs.Lays.n144 Tryz.prog Tryz.lays144_ren:={
 mixed:=by kernel_rfl
 f143:=Tryz.func276.trans (congrArg some (by kernel_rfl))
 f144:=Tryz.func253.trans (congrArg some (by kernel_rfl))
 f217:=Tryz.func251.trans (congrArg some (by kernel_rfl))
 f219:=Tryz.func290.trans (congrArg some (by kernel_rfl))
 f224:=Tryz.func204.trans (congrArg some (by kernel_rfl))
 f225:=Tryz.func205.trans (congrArg some (by kernel_rfl))
 f266:=Tryz.func268.trans (congrArg some (by kernel_rfl))
 f267:=Tryz.func296.trans (congrArg some (by kernel_rfl))
 f314:=Tryz.func298.trans (congrArg some (by kernel_rfl))
 t3:=U3
 a3:=Tryz.isAgg3
 z3:=Z3
 v3:=Tryz.zeroValue3
 t4:=Tryz.underlying4
 a4:=Tryz.isAgg4
 z4:=Tryz.sizeOf4
 v4:=Tryz.zeroValue4
 t5:=U5
 a5:=Tryz.isAgg5
 z5:=Z5
 v5:=Tryz.zeroValue5
 t9:=U9
 a9:=Tryz.isAgg9
 z9:=Z9
 v9:=Tryz.zeroValue9
 t46:=U135
 a46:=Tryz.isAgg135
 z46:=Tryz.sizeOf135
 v46:=Tryz.zeroValue135
 t51:=U34
 a51:=Tryz.isAgg34
 z51:=Tryz.sizeOf34
 v51:=Tryz.zeroValue34
 t146:=Tryz.underlying324
 a146:=Tryz.isAgg324
 z146:=Tryz.sizeOf324
 v146:=Tryz.zeroValue324
 g1:=by kernel_rfl}
open Go.RowKit Go.Lib in
theorem Tryz.strings_Contains (s sub:ByteArray)(m:Int)(w:World)(hs:s.size<4294967281)(hm:w.cell? ⟨0,0,none⟩=some (.int .i64 m)):
 Calls Tryz.prog 253 #[.string s,.string sub] w λe w'=>e=.returned (.bool (Lib.contains s.data.toList sub.data.toList))∧w'=w:=Any.strings_Contains Tryz.lays144 s sub m w hs hm
def Tryz.laysM144_ren:Go.Shelf.Ren:=⟨λ|144=>253|143=>276|219=>290|217=>251|225=>205|224=>204|267=>296|266=>268|314=>298|n=>n,λ|9=>9|4=>4|3=>3|5=>5|46=>135|146=>324|51=>34|n=>n,λ|1=>0|n=>n⟩
theorem Tryz.laysM144:Go.Proofs.LaysM.n144 Tryz.prog Tryz.laysM144_ren:={
 mixed:=by kernel_rfl
 f143:=Tryz.func276.trans (congrArg some (by kernel_rfl))
 f144:=Tryz.func253.trans (congrArg some (by kernel_rfl))
 f217:=Tryz.func251.trans (congrArg some (by kernel_rfl))
 f219:=Tryz.func290.trans (congrArg some (by kernel_rfl))
 f224:=Tryz.func204.trans (congrArg some (by kernel_rfl))
 f225:=Tryz.func205.trans (congrArg some (by kernel_rfl))
 f266:=Tryz.func268.trans (congrArg some (by kernel_rfl))
 f267:=Tryz.func296.trans (congrArg some (by kernel_rfl))
 f314:=Tryz.func298.trans (congrArg some (by kernel_rfl))
 t3:=U3
 a3:=Tryz.isAgg3
 z3:=Z3
 v3:=Tryz.zeroValue3
 t4:=Tryz.underlying4
 a4:=Tryz.isAgg4
 z4:=Tryz.sizeOf4
 v4:=Tryz.zeroValue4
 t5:=U5
 a5:=Tryz.isAgg5
 z5:=Z5
 v5:=Tryz.zeroValue5
 t9:=U9
 a9:=Tryz.isAgg9
 z9:=Z9
 v9:=Tryz.zeroValue9
 t46:=U135
 a46:=Tryz.isAgg135
 z46:=Tryz.sizeOf135
 v46:=Tryz.zeroValue135
 t51:=U34
 a51:=Tryz.isAgg34
 z51:=Tryz.sizeOf34
 v51:=Tryz.zeroValue34
 t146:=Tryz.underlying324
 a146:=Tryz.isAgg324
 z146:=Tryz.sizeOf324
 v146:=Tryz.zeroValue324
 g1:=by kernel_rfl
 i3:=by kernel_rfl
 i4:=by kernel_rfl
 i5:=by kernel_rfl
 i9:=by kernel_rfl
 i46:=by kernel_rfl
 i51:=by kernel_rfl
 i146:=by kernel_rfl
 m1:=by kernel_rfl
 s1_3:=λw h=>Go.Proofs.cell_of_shapedOpen_int (zero:=#[.int .i64 0]) (t:=3) h (of_decide_eq_true (by kernel_rfl)) (by kernel_rfl) rfl (by kernel_rfl) (by kernel_rfl) U3}
def Tryz.lays151_ren:Go.Shelf.Ren:=⟨λ|151=>97|152=>143|137=>202|119=>203|224=>204|225=>205|217=>251|266=>268|n=>n,λ|9=>9|21=>21|4=>4|3=>3|5=>5|0=>0|46=>135|n=>n,λ|n=>n⟩
theorem Tryz.lays151:Go.Proofs.Lays.n151 Tryz.prog Tryz.lays151_ren:={
 mixed:=by kernel_rfl
 f119:=Tryz.func203.trans (congrArg some (by kernel_rfl))
 f137:=Tryz.func202.trans (congrArg some (by kernel_rfl))
 f151:=Tryz.func97.trans (congrArg some (by kernel_rfl))
 f152:=Tryz.func143.trans (congrArg some (by kernel_rfl))
 f217:=Tryz.func251.trans (congrArg some (by kernel_rfl))
 f224:=Tryz.func204.trans (congrArg some (by kernel_rfl))
 f225:=Tryz.func205.trans (congrArg some (by kernel_rfl))
 f266:=Tryz.func268.trans (congrArg some (by kernel_rfl))
 t0:=Tryz.underlying0
 a0:=Tryz.isAgg0
 z0:=Tryz.sizeOf0
 v0:=Tryz.zeroValue0
 t3:=U3
 a3:=Tryz.isAgg3
 z3:=Z3
 v3:=Tryz.zeroValue3
 t4:=Tryz.underlying4
 a4:=Tryz.isAgg4
 z4:=Tryz.sizeOf4
 v4:=Tryz.zeroValue4
 t5:=U5
 a5:=Tryz.isAgg5
 z5:=Z5
 v5:=Tryz.zeroValue5
 t9:=U9
 a9:=Tryz.isAgg9
 z9:=Z9
 v9:=Tryz.zeroValue9
 t21:=Tryz.underlying21
 a21:=Tryz.isAgg21
 z21:=Tryz.sizeOf21
 v21:=Tryz.zeroValue21
 t46:=U135
 a46:=Tryz.isAgg135
 z46:=Tryz.sizeOf135
 v46:=Tryz.zeroValue135}
open Go.RowKit Go.Lib in
theorem Tryz.strings_ContainsRune_ascii (s:ByteArray)(r:Int)(w:World)(h0:0<=r)(h1:r<128):
 Calls Tryz.prog 97 #[.string s,.int .i32 r] w λe w'=>e=.returned (.bool (decide (0<=Lib.indexByte s.data.toList r.toNat.toUInt8)))∧w'=w:=Any.strings_ContainsRune_ascii Tryz.lays151 s r w h0 h1
def Tryz.lays194_ren:Go.Shelf.Ren:=⟨λ|194=>74|n=>n,λ|31=>69|9=>9|3=>3|4=>4|0=>0|n=>n,λ|n=>n⟩
theorem Tryz.lays194:Go.Proofs.Lays.n194 Tryz.prog Tryz.lays194_ren:={
 mixed:=by kernel_rfl
 f194:=Tryz.func74.trans (congrArg some (by kernel_rfl))
 t0:=Tryz.underlying0
 a0:=Tryz.isAgg0
 z0:=Tryz.sizeOf0
 v0:=Tryz.zeroValue0
 t3:=U3
 a3:=Tryz.isAgg3
 z3:=Z3
 v3:=Tryz.zeroValue3
 t4:=Tryz.underlying4
 a4:=Tryz.isAgg4
 z4:=Tryz.sizeOf4
 v4:=Tryz.zeroValue4
 t9:=U9
 a9:=Tryz.isAgg9
 z9:=Z9
 v9:=Tryz.zeroValue9
 t31:=U69
 a31:=Tryz.isAgg69
 z31:=Z69
 v31:=Tryz.zeroValue69}
open Go.RowKit Go.Lib Go.Sort in
theorem Tryz.slices_Compact_string_arr (blk off cap:Nat)(d:Array (List UInt8))(w:World)(hH:Holds encStr w blk off d)(hsz:d.size<=9223372036854775807)(hcap:d.size<=cap):
 Calls Tryz.prog 74 #[.slice (some ⟨blk,off,none⟩) d.size cap] w λe w'=>e=.returned (.slice (some ⟨blk,off,none⟩) (compactUpTo d d.size).length cap)∧∃q,w'=putRow encStr (Sort.ahead w q) blk off (compactUpTo d d.size++List.replicate (d.size-(compactUpTo d d.size).length) []).toArray:=Any.slices_Compact_string_arr Tryz.lays194 blk off cap d w hH hsz hcap
open Go.RowKit Go.Lib Go.Sort in
theorem Tryz.slices_Compact_string_empty (a:Option Addr)(cap:Nat)(w:World):
 Calls Tryz.prog 74 #[.slice a 0 cap] w λe w'=>e=.returned (.slice a 0 cap)∧w'=w:=Any.slices_Compact_string_empty Tryz.lays194 a cap w
end Go.Proofs
end
section
namespace Go.Proofs.YtpbcafkcfobngaaGreatDoor
open Go.Pn Go.RowKit Go.Proofs _root_.Go.Proofs.Tryz
attribute [local irreducible] O C D
theorem _root_.Go.Pn.OwnF.lst {α:Type}{G:Flat α}{ty:TypeId}{B:Nat}{w:World}{v:Value}{xs ys:List α}(h:OwnF G ty B w v xs)(e:xs=ys):OwnF G ty B w v ys:=e ▸ h
theorem blen_spec (w:World):Ret prog 109 #[.int .u64 ((0#64).toNat:Int)] w (λv w'=>(∃k:Int,v=.int .i64 k)∧w'=w):=by
 refine Ret.of (Tryz.bits_Len 0 w (by decide) (by decide)) ?_;rintro e w' ⟨rfl,rfl⟩;exact ⟨_,rfl,⟨_,rfl⟩,rfl⟩
theorem ins0_spec (w:World):
 Ret prog 277 #[.slice none 0 0,.int .i64 (0),.int .i64 (0),.func (.func 119) #[] #[]] w (λv w'=>v=.tuple #[]∧w'=w):=by
 refine enT [.slice none 0 0,.int .i64 (0),.int .i64 (0),.func (.func 119) #[] #[]] 53 func277 rfl rfl (C.sr λK1=>O.mv (O.ad rfl rfl (O.cast (v':=.int .i64 (1)) rfl (O.j (K1 (C.bl λK2=>C.loop0 (σ:=Nat) (λf0 w0 z f w=>f 8=.int .i64 (1)∧f 0=f0 0∧f 1=f0 1∧f 2=f0 2∧f 3=f0 3∧w=w0) (λz=>z) 0 ?_ ?_))))))
 ·
  exact ⟨rfl,rfl,rfl,rfl,rfl,rfl⟩
 rintro z f_1 wx ⟨s8_1,s0_1,s1_1,s2_1,s3_1,rfl⟩;refine C.sq λK3=>C.sr λK4=>O.mv (O.mv (O.lssI s8_1 s2_1 (O.cast (v':=.bool false) rfl (K4 (C.condF rfl (C.exit (K2 (Outs.none rfl ?_))))))))
 exact ⟨rfl,rfl⟩
theorem pdq0_spec (lim:Int)(w:World):
 Ret prog 255 #[.slice none 0 0,.int .i64 (0),.int .i64 (0),.int .i64 (lim),.func (.func 119) #[] #[]] w (λv w'=>v=.tuple #[]∧w'=w):=by
 refine enT [.slice none 0 0,.int .i64 (0),.int .i64 (0),.int .i64 (lim),.func (.func 119) #[] #[]] 148 func255 rfl rfl (C.sr λK1=>O.j (K1 (C.sr λK2=>O.j (K2 (C.bl λK3=>C.loop0 (σ:=Nat) (λf0 w0 z f w=>f 1=.int .i64 (0)∧f 2=.int .i64 (0)∧f 10=.bool (true)∧f 11=.bool (true)∧f 0=f0 0∧f 4=f0 4∧w=w0) (λz=>z) 0 ?_ ?_)))))
 ·
  exact ⟨rfl,rfl,rfl,rfl,rfl,rfl,rfl⟩
 rintro z f_1 wx ⟨s1_1,s2_1,s10_1,s11_1,s0_1,s4_1,rfl⟩;refine C.bl λK4=>C.sr λK5=>O.mv (O.mv (O.sb s2_1 s1_1 (O.cast (v':=.int .i64 (0)) rfl (O.j (K5 (C.sq λK6=>C.sr λK7=>O.mv (O.leqI rfl rfl (O.cast (v':=.bool true) rfl (K7 (C.condT rfl (C.sr λK8=>O.mv (O.mv (O.mv (O.mv (O.call call277 (args4 s0_1 s1_1 s2_1 s4_1) (ins0_spec _) ?_)))))))))))))))
 rintro v_30 w1 ⟨rfl,hw_⟩;replace hw_:=hw_.symm;subst hw_;refine K8 (C.ret (Outs.none rfl ?_));exact ⟨rfl,rfl⟩
theorem sort0_spec (w:World):
 Ret prog 214 #[.slice none 0 0,.func (.func 119) #[] #[]] w (λv w'=>v=.tuple #[]∧w'=w):=by
 refine enT [.slice none 0 0,.func (.func 119) #[] #[]] 14 func214 rfl rfl (C.sr λK1=>O.mv (O.lenL U41 rfl (O.cast (v':=.int .i64 0) rfl (O.j (K1 (C.region (O.mv (O.mv (O.mv (O.convIU (m':=64) U3 U135 rfl rfl rfl (O.cast (v':=.int .u64 ((0#64).toNat:Int)) rfl (O.call call109 (args1 rfl) (blen_spec _) ?_))))))))))));rintro v_11 w1 ⟨⟨kv11,rfl⟩,rfl⟩;refine O.mv (O.call call255 (args5 rfl rfl rfl rfl rfl) (pdq0_spec _ _) ?_);rintro v_13 w1 ⟨rfl,hw_⟩;replace hw_:=hw_.symm;subst hw_;refine O.o (Outs.none rfl ?_);exact ⟨rfl,rfl⟩
theorem compact0_spec (w:World):
 Ret prog 215 #[.slice none 0 0] w (λv w'=>v=.slice none 0 0∧w'=w):=by
 refine enT [.slice none 0 0] 61 func215 rfl rfl (C.sr λK1=>O.j (K1 (C.sq λK2=>C.sr λK3=>O.mv (O.lenL U41 rfl (O.cast (v':=.int .i64 0) rfl (O.lssI rfl rfl (O.cast (v':=.bool true) rfl (K3 (C.condT rfl (C.sr λK4=>O.mv (O.j (K4 (C.ret (Outs.one rfl rfl ?_))))))))))))));exact ⟨rfl,rfl⟩
theorem swoD:Go.Sort.SWO (ltOf Dt.cmp) where
 irrefl x:=by unfold ltOf;exact dF (λh=>Dt.less_irrefl x ((Dt.cmp_lt x x).1 h))
 trans x y z h1 h2:=by
  unfold ltOf at*;simp only[decide_eq_true_eq,Dt.cmp_lt] at*;exact Dt.less_trans h1 h2
 ntrans x y z h1 h2:=by
  unfold ltOf at*;simp only[decide_eq_false_iff_not,Dt.cmp_lt] at*;intro h;rcases Dt.less_total y z with k|k|k
  ·exact h2 k
  ·subst k;exact h1 h
  ·exact h1 (Dt.less_trans h k)
theorem sortD_spec (v:Value)(l:List Dt.Dot)(B:Nat)(w:World)(h:OwnF Dt.dotF 112 B w v l)(hn:l.length<=1000000000000):
 Ret prog 214 #[v,.func (.func 119) #[] #[]] w (λr w'=>r=.tuple #[]∧(∃l':List Dt.Dot,OwnF Dt.dotF 112 B w' v l'∧l'.Perm l∧l'.Pairwise (λa b=>¬Dt.Less b a))∧Ext (bk v) w w'):=by
 rcases h.1.2 with ⟨rfl,h0⟩|⟨g,cap,cur,rfl,_⟩
 ·obtain rfl:l=[]:=List.eq_nil_of_length_eq_zero h0
  refine (sort0_spec w).mono ?_;rintro e w' ⟨rfl,rfl⟩;exact ⟨rfl,⟨[],h,List.Perm.refl _,List.Pairwise.nil⟩,Ext.L _ _⟩
 ·obtain ⟨hH,hlt⟩:=h.holdsK
  have eg:∀args w,(callFunc 119 args).run prog w=.ok (.enter 119 args) w:=enters_of func119 (by kernel_rfl) rfl;have hcmp:CmpLays prog 119 #[] Dt.dotF.e Dt.dotF.sz Dt.cmp g 0 l.toArray.size w:=λm os dk hs x y=>
   (cmp_spec x y _).calls.mono λe w' hh=>by
     obtain ⟨v,he,hv,hle,hd⟩:=hh;exact ⟨by rw[he,hv],grow_of_le hle hd⟩
  have hs:l.toArray.size<4611686018427387904:=by simp;omega
  have hcon:=AnyQ.slices_SortFunc Tryz.sortF Dt.dotF.sz isAgg112 Z112 Dt.dotF.e Dt.dotF.len Dt.dotF.one Dt.cmp swoD 119 #[] g 0 cap l.toArray w eg hcmp hH hlt hs;refine Ret.of hcon ?_;rintro e w' ⟨rfl,d',m,os,hp,hso,rfl⟩;obtain ⟨hd,_,hperm⟩:=hp;have hd2:d'.size=l.length:=by simpa using hd
  obtain ⟨h1,h2⟩:=h.sortedK hd2 m os;refine ⟨_,rfl,rfl,⟨d'.toList,h1,?_,?_⟩,h2.mono λk _ hk=>hk⟩
  ·have e1:(l.toArray.extract 0 l.toArray.size).toList=l:=by simp
   have e2:(d'.extract 0 l.toArray.size).toList=d'.toList:=by rw[<-hd];simp
   rw[e1,e2] at hperm;exact hperm
  ·rw [List.pairwise_iff_getElem]
   intro i j hi hj hij;have hi2:i<d'.size:=by simpa using hi
   have hj2:j<d'.size:=by simpa using hj
   have h3:=hso i j (Nat.zero_le _) hij (by simpa[hd2] using hj);unfold ltOf at h3;simp only[decide_eq_false_iff_not] at h3;rw[Dt.cmp_lt,getElem!_pos d' i hi2,getElem!_pos d' j hj2] at h3
   simpa using h3
theorem compactD_spec (v:Value)(l:List Dt.Dot)(B:Nat)(w:World)(h:OwnF Dt.dotF 112 B w v l)(hn:l.length<=1000000000000):
 Ret prog 215 #[v] w (λr w'=>OwnF Dt.dotF 112 B w' r (Dt.compact l)∧Ext (bk v) w w'):=by
 rcases h.1.2 with ⟨rfl,h0⟩|⟨g,cap,cur,rfl,_⟩
 ·obtain rfl:l=[]:=List.eq_nil_of_length_eq_zero h0
  refine (compact0_spec w).mono ?_;rintro e w' ⟨rfl,rfl⟩;exact ⟨h,Ext.L _ _⟩
 ·refine (compact_a_spec g cap B l w h hn).mono ?_
  rintro e w' ⟨rfl,h1,h2⟩;exact ⟨h1,h2.mono λk _ hk=>hk⟩
theorem set_spec (v0:Value)(l:List Dt.Dot)(F:Nat->Prop)(w:World)(hl:Sl Dt.dotF.enc w F v0 l)(hn:l.length<=1000000000000):
 Ret prog 149 #[v0] w (λv w'=>Le w w'∧OwnF Dt.dotF 112 w.heap.size w' v (Dt.set l)):=by
 refine enT [v0] 10 func149 rfl rfl (C.sr λK1=>O.j (K1 (C.sr λK2=>O.mv (O.call call123 (args1 rfl) (clone_spec _ _ _ _ hl hn) ?_))));rintro v_5 w1 ⟨e1,h5⟩;have z1:=e1.size;refine O.j (K2 (C.sr λK3=>O.mv (O.call call214 (args2 rfl rfl) (sortD_spec _ _ _ _ h5 hn) ?_)));rintro v_7 w2 ⟨rfl,⟨l7,hs7,hp7,ha7⟩,e2⟩;have z2:=e2.size;refine K3 (C.sr λK4=>O.mv (O.call call215 (args1 rfl) (compactD_spec _ _ _ _ hs7 (by rw[hp7.length_eq];exact hn)) ?_));rintro v_9 w3 ⟨h9,e3⟩;have z3:=e3.size;refine O.j (K4 (C.ret (Outs.one rfl rfl (⟨(Ext.new (Ext.new e1 e2 (by intro i hi h;have:=h5.bk_ge i h;omega)) e3 (by intro i hi h;have:=hs7.bk_ge i h;omega)),?_⟩))));rw[<-Dt.set_of_sorted hp7 ha7];exact h9
structure Mx (w:World):Prop where
 h:∃m:Int,CellIs w 0 (.int .i64 m)
theorem Mx.L {w w':World}(h:Mx w)(e:Le w w'):Mx w':=by obtain ⟨m,hm⟩:=h.h;exact ⟨m,hm.L e⟩
theorem trim_spec (l:List UInt8)(w:World)(hl:l.length<=281474976710656):Ret prog 252 #[str l,str [32]] w (λv w'=>v=str (Lib.trimB l 32)∧Le w w'):=by
 refine Ret.of (Tryz.strings_Trim_one ⟨l.toArray⟩ 32 (by decide) w (by simp[ByteArray.size];omega)) ?_;rintro e w' ⟨rfl,rfl|rfl⟩
 ·exact ⟨_,rfl,rfl,Le.refl _⟩
 ·exact ⟨_,rfl,rfl,Le.drew w⟩
theorem has2_spec (l:List UInt8)(w:World)(hl:l.length<=10000000)(mx:Mx w):Ret prog 253 #[str l,str [32,32]] w (λv w'=>v=.bool (Lib.contains l [32,32])∧Le w w'):=by
 obtain ⟨m,hm⟩:=mx.h;refine Ret.of (Tryz.strings_Contains ⟨l.toArray⟩ ⟨[32,32].toArray⟩ m w (by simp[ByteArray.size];omega) hm) ?_;rintro e w' ⟨rfl,rfl⟩;exact ⟨_,rfl,rfl,Le.refl _⟩
theorem okName_spec (s:List UInt8)(w:World)(hl:s.length<=1000000)(mx:Mx w):
 Ret prog 209 #[str (s)] w (λv w'=>v=.bool (Cn.okName s)∧Le w w'):=by
 refine enT [str (s)] 38 func209 rfl rfl (C.sr λK1=>O.j (K1 (C.sq λK2=>C.sr λK3=>O.mv (O.strB U9 U30 U5 rfl (by unfold maxLen;omega) (λb6 cap6 w1 hb6 hc6 h6 hs6 e1=>?_)))));have z1:=e1.size;refine O.len U30 rfl hs6 (O.mv (K3 (C.bl λK4=>C.loop0 (σ:=Nat) (λf0 w0 k f w=>f 8=.int .i64 (k)∧f 0=f0 0∧f 6=f0 6∧f 7=f0 7∧Le w0 w∧k<=s.length∧∀i,∀h:i<s.length,i<k->Cn.okC s[i]=true) (λk=>s.length-k) 0 ?_ ?_)))
 ·
  refine ⟨rfl,rfl,rfl,rfl,Le.refl _,?_⟩;exact ⟨Nat.zero_le _,λi h k=>absurd k (Nat.not_lt_zero _)⟩
 rintro k f_1 w2 ⟨s8_1,s0_1,s6_1,s7_1,e_1,⟨hk,hI⟩⟩;have z_1:=e_1.size;refine C.sr λK5=>O.lssI s8_1 s7_1 (K5 (C.sq λK6=>C.condD rfl (λc9=>?_) (λc9=>?_)))
 ·
  have hk2:k<s.length:=by omega
  refine C.skip (K6 (C.sq λK7=>C.bl λK8=>C.sr λK9=>O.idx U30 Z5 rfl s6_1 (hs6.L e_1) s8_1 (by omega) (λa10 h10=>O.loadB isAgg5 rfl h10 (O.j (K9 (C.sr λK10=>O.mv (O.lssU (m:=8) (b:=32#8) rfl rfl (O.mv (O.splitD (x:=.tmp 14) rfl (λc14=>?_) (λc14=>?_))))))))))
  ·
   simp only[Int.toNat_natCast] at c14;refine O.no rfl (noB (isT rfl c14) rfl) (O.no rfl (noB (isT rfl c14) rfl) (O.pickT (isT rfl c14) (K10 (C.condT rfl (C.sr λK11=>O.j (K11 (C.ret (Outs.one rfl rfl ?_))))))));exact ⟨cB (Cn.okName_all hk2 (Cn.okC_lo c14)).symm,(Ext.T e1 e_1)⟩
  simp only[Int.toNat_natCast] at c14;refine O.yes rfl (isF rfl c14) (O.mv (O.yes rfl (isF rfl c14) (O.gtrU (m:=8) (b:=126#8) rfl rfl (O.pickF (isF rfl c14) (K10 (C.condD rfl (λc17=>?_) (λc17=>?_)))))))
  ·
   simp only[Int.toNat_natCast] at c17;refine C.sr λK12=>O.j (K12 (C.ret (Outs.one rfl rfl ?_)))
   first
   |exact ⟨cB (Cn.okName_all hk2 (Cn.okC_lo c14)).symm,(Ext.T e1 e_1)⟩
   |exact ⟨cB (Cn.okName_all hk2 (Cn.okC_hi c17)).symm,(Ext.T e1 e_1)⟩
  simp only[Int.toNat_natCast] at c17;refine C.skip (K8 (K7 (C.region (O.ad s8_1 rfl (O.mv (O.o (⟨k+1,⟨rfl,s0_1,s6_1,s7_1,e_1,?_⟩,by first|omega|(simp only[];omega)⟩)))))));refine ⟨by omega,λi hi hik=>?_⟩;rcases Nat.lt_or_eq_of_le (Nat.le_of_lt_succ hik) with h|rfl
  ·exact hI i hi h
  ·exact Cn.okC_ok c14 c17
 have hall:s.all Cn.okC=true:=Cn.all_yes λi hi=>hI i hi (by omega)
 refine C.exit (K4 (K2 (C.sr λK13=>O.mv (O.lenS U9 s0_1 (O.geqI rfl rfl (O.mv (O.cut 4 (λf f'=>f' 26=.bool (decide ((s.length:Int)≥1∧(s.length:Int)<=64))∧f' 0=f 0) ?_ ?_)))))))
 ·
  refine O.splitD (x:=.tmp 22) rfl (λc22=>?_) (λc22=>?_)
  ·
   refine O.yes rfl (isT rfl c22) (O.mv (O.yes rfl (isT rfl c22) (O.lenS U9 s0_1 (O.yes rfl (isT rfl c22) (O.leqI rfl rfl (O.pickT (isT rfl c22) (O.o (⟨⟨?_,rfl⟩,rfl⟩))))))));exact dJ rfl
  refine O.no rfl (noB (isF rfl c22) rfl) (O.no rfl (noB (isF rfl c22) rfl) (O.no rfl (noB (isF rfl c22) rfl) (O.pickF (isF rfl c22) (O.o (⟨⟨?_,rfl⟩,rfl⟩)))));exact dJ rfl
 rintro f_2 ⟨s26_2,s0_2⟩;refine O.mv (O.splitD (x:=.tmp 27) s26_2 (λc27=>?_) (λc27=>?_))
 ·
  refine O.yes rfl (isT s26_2 c27) (O.mv (O.yes rfl (isT s26_2 c27) (O.call call252 (args2 (Eq.trans s0_2 s0_1) rfl) (trim_spec s _ (by omega)) ?_)));rintro v_29 w3 ⟨rfl,e3⟩;have z3:=e3.size;refine O.yes rfl (isT s26_2 c27) (O.mv (O.yes rfl (isT s26_2 c27) (O.eqlS rfl (Eq.trans s0_2 s0_1) (O.pickT (isT s26_2 c27) (O.mv (O.splitD (x:=.tmp 33) rfl (λc33=>?_) (λc33=>?_)))))))
  ·
   refine O.yes rfl (isT rfl c33) (O.mv (O.yes rfl (isT rfl c33) (O.call call253 (args2 (Eq.trans s0_2 s0_1) rfl) (has2_spec s _ (by omega) (((mx.L e1).L e_1).L e3)) ?_)));rintro v_35 w4 ⟨rfl,e4⟩;have z4:=e4.size;refine O.yes rfl (isT rfl c33) (O.not rfl (O.pickT (isT rfl c33) (O.j (K13 (C.ret (Outs.one rfl rfl ?_))))))
   first
   |exact ⟨cB (Cn.okName_all hk2 (Cn.okC_lo c14)).symm,(Ext.T (Ext.T (Ext.T e1 e_1) e3) e4)⟩
   |exact ⟨cB (Cn.okName_all hk2 (Cn.okC_hi c17)).symm,(Ext.T (Ext.T (Ext.T e1 e_1) e3) e4)⟩
   |(refine ⟨congrArg Value.bool ?_,(Ext.T (Ext.T (Ext.T e1 e_1) e3) e4)⟩
     unfold Cn.okName;rw[hall]
     first
     |(rw[dF (p:=1<=s.length∧s.length<=64) (by omega)];rfl)
     |(rw[dT (p:=1<=s.length∧s.length<=64) (by omega),decide_eq_false c33];rfl)
     |(rw[dT (p:=1<=s.length∧s.length<=64) (by omega),decide_eq_true c33];rfl))
  refine O.no rfl (noB (isF rfl c33) rfl) (O.no rfl (noB (isF rfl c33) rfl) (O.no rfl (noB (isF rfl c33) rfl) (O.pickF (isF rfl c33) (O.j (K13 (C.ret (Outs.one rfl rfl ?_)))))))
  first
  |exact ⟨cB (Cn.okName_all hk2 (Cn.okC_lo c14)).symm,(Ext.T (Ext.T e1 e_1) e3)⟩
  |exact ⟨cB (Cn.okName_all hk2 (Cn.okC_hi c17)).symm,(Ext.T (Ext.T e1 e_1) e3)⟩
  |(refine ⟨congrArg Value.bool ?_,(Ext.T (Ext.T e1 e_1) e3)⟩
    unfold Cn.okName;rw[hall]
    first
    |(rw[dF (p:=1<=s.length∧s.length<=64) (by omega)];rfl)
    |(rw[dT (p:=1<=s.length∧s.length<=64) (by omega),decide_eq_false c33];rfl))
 refine O.no rfl (noB (isF s26_2 c27) rfl) (O.no rfl (noB (isF s26_2 c27) rfl) (O.no rfl (noB (isF s26_2 c27) rfl) (O.no rfl (noB (isF s26_2 c27) rfl) (O.pickF (isF s26_2 c27) (O.mv (O.no rfl (noB rfl rfl) (O.no rfl (noB rfl rfl) (O.no rfl (noB rfl rfl) (O.pickF rfl (O.j (K13 (C.ret (Outs.one rfl rfl ?_)))))))))))))
 first
 |exact ⟨cB (Cn.okName_all hk2 (Cn.okC_lo c14)).symm,(Ext.T e1 e_1)⟩
 |exact ⟨cB (Cn.okName_all hk2 (Cn.okC_hi c17)).symm,(Ext.T e1 e_1)⟩
 |(refine ⟨congrArg Value.bool ?_,(Ext.T e1 e_1)⟩
   unfold Cn.okName;rw[hall]
   (rw[dF (p:=1<=s.length∧s.length<=64) (by omega)];rfl))
theorem badI_spec (x:ItemT)(vm:Value)(F:Nat->Prop)(w:World)(hm:Sl markF.enc w F vm x.2)(q1:x.1.length<=1000000)(q2:x.2.length<=1000000)(mx:Mx w):
 Ret prog 147 #[.agg #[str x.1,vm]] w (λv w'=>v=.bool (Cn.badI x)∧Le w w'):=by
 refine enT [.agg #[str x.1,vm]] 24 func147 rfl rfl (C.sr λK1=>O.box (v:=.agg #[str x.1,vm]) rfl (λb1 w1 hb1 hz1 e1=>?_));have z1:=e1.size;have h1:=hz1.own;have hl1:=h1.lt;refine O.j (K1 (C.sr λK2=>O.fa U117 rfl Z9 rfl (O.loadO isAgg9 rfl h1 rfl (O.call call209 (args1 rfl) (okName_spec x.1 _ q1 (mx.L e1)) ?_))));rintro v_5 w2 ⟨rfl,e2⟩;have z2:=e2.size;refine O.not rfl (O.mv (O.split (x:=.tmp 7) rfl (λc7=>?_) (λc7=>?_)))
 ·
  refine O.no rfl (noB (isT' rfl c7) rfl) (O.no rfl (noB (isT' rfl c7) rfl) (O.no rfl (noB (isT' rfl c7) rfl) (O.no rfl (noB (isT' rfl c7) rfl) (O.pickT (isT' rfl c7) (O.mv (O.no rfl (noB rfl rfl) (O.no rfl (noB rfl rfl) (O.no rfl (noB rfl rfl) (O.no rfl (noB rfl rfl) (O.pickT rfl (O.mv (O.no rfl (noB rfl rfl) (O.no rfl (noB rfl rfl) (O.no rfl (noB rfl rfl) (O.pickT rfl (O.j (K2 (C.ret (Outs.one rfl rfl (⟨congrArg Value.bool ?_,(Ext.T e1 e2)⟩))))))))))))))))))));unfold Cn.badI
  (rw[c7];rfl)
 refine O.yes rfl (isF' rfl c7) (O.fa U117 rfl Z115 rfl (O.yes rfl (isF' rfl c7) (O.loadO isAgg115 rfl (h1.L e2) rfl (O.yes rfl (isF' rfl c7) ?_))));have t0:=(hm.L e1).L e2;refine O.len U115 rfl t0 (O.yes rfl (isF' rfl c7) (O.eqlI rfl rfl (O.pickF (isF' rfl c7) (O.mv (O.splitD (x:=.tmp 13) rfl (λc13=>?_) (λc13=>?_))))))
 ·
  refine O.no rfl (noB (isT rfl c13) rfl) (O.no rfl (noB (isT rfl c13) rfl) (O.no rfl (noB (isT rfl c13) rfl) (O.no rfl (noB (isT rfl c13) rfl) (O.pickT (isT rfl c13) (O.mv (O.no rfl (noB rfl rfl) (O.no rfl (noB rfl rfl) (O.no rfl (noB rfl rfl) (O.pickT rfl (O.j (K2 (C.ret (Outs.one rfl rfl (⟨congrArg Value.bool ?_,(Ext.T e1 e2)⟩))))))))))))));unfold Cn.badI
  first
  |(rw[c7];rfl)
  |(rw[c7,dT (p:=x.2.length=0) (by omega)];rfl)
 refine O.yes rfl (isF rfl c13) (O.fa U117 rfl Z115 rfl (O.yes rfl (isF rfl c13) (O.loadO isAgg115 rfl (h1.L e2) rfl (O.yes rfl (isF rfl c13) (O.call call210 (args1 rfl) (isList_spec _ x.2 _ _ t0 q2) ?_)))));rintro v_16 w3 ⟨rfl,e3⟩;have z3:=e3.size;refine O.yes rfl (isF rfl c13) (O.not rfl (O.pickF (isF rfl c13) (O.mv (O.split (x:=.tmp 19) rfl (λc19=>?_) (λc19=>?_)))))
 ·
  refine O.no rfl (noB (isT' rfl c19) rfl) (O.no rfl (noB (isT' rfl c19) rfl) (O.no rfl (noB (isT' rfl c19) rfl) (O.pickT (isT' rfl c19) (O.j (K2 (C.ret (Outs.one rfl rfl (⟨congrArg Value.bool ?_,(Ext.T (Ext.T e1 e2) e3)⟩))))))));unfold Cn.badI
  first
  |(rw[c7];rfl)
  |(rw[c7,dT (p:=x.2.length=0) (by omega)];rfl)
  |(rw[c7,dF (p:=x.2.length=0) (by omega),c19];rfl)
 refine O.yes rfl (isF' rfl c19) (O.fa U117 rfl Z115 rfl (O.yes rfl (isF' rfl c19) (O.loadO isAgg115 rfl ((h1.L e2).L e3) rfl (O.yes rfl (isF' rfl c19) (O.call call211 (args2 rfl rfl) (containsM_spec _ _ _ _ (λ_=>False) Cn.badM _ (t0.L e3) (pred_mbad _ _)) ?_)))));rintro v_22 w4 ⟨rfl,e4⟩;have z4:=e4.size;refine O.pickF (isF' rfl c19) (O.j (K2 (C.ret (Outs.one rfl rfl (⟨congrArg Value.bool ?_,(Ext.T (Ext.T (Ext.T e1 e2) e3) e4)⟩)))));unfold Cn.badI
 first
 |(rw[c7];rfl)
 |(rw[c7,dT (p:=x.2.length=0) (by omega)];rfl)
 |(rw[c7,dF (p:=x.2.length=0) (by omega),c19];rfl)
theorem idots_spec (v0:Value)(l:List ItemT)(F:Nat->Prop)(w:World)(hl:Sl itemE w F v0 l)(hF:∀k,F k->k<w.heap.size)(hn:l.length<=1000000)(hS:∀x∈l,x.1.length<=1000000∧x.2.length<=1000000):
 Ret prog 101 #[v0] w (λv w'=>Le w w'∧OwnF Dt.dotF 112 w.heap.size w' v (Cn.dotsOf l)):=by
 have hle:=hl.le;obtain ⟨ie112,ti112,ts112,tb112,tz112⟩:=inf112;refine enT [v0] 20 func101 rfl rfl (C.sr λK1=>O.j (K1 (C.sr λK2=>O.j (K2 (C.sq λK3=>C.sr λK4=>O.mv (O.len U45 rfl hl (O.mv (K4 (C.bl λK5=>C.loop0 (σ:=Nat×Value) (λf0 w0 ⟨k,o⟩ f wz=>f 3=o∧f 8=.int .i64 (k)∧f 2=f0 2∧f 6=f0 6∧f 7=f0 7∧Le w wz∧OwnF Dt.dotF 112 w.heap.size wz o ((l.take k).flatMap λx=>Cn.mdots x.2)∧k<=l.length) (λ⟨k,o⟩=>l.length-k) (0,.slice none 0 0) ?_ ?_)))))))))
 ·
  refine ⟨rfl,rfl,rfl,rfl,rfl,leR,(OwnF.nil _ _ _ _),?_⟩;exact Nat.zero_le _
 rintro ⟨k,o⟩ f_1 w1 ⟨s3_1,s8_1,s2_1,s6_1,s7_1,e_1,r0_1,hk⟩;have z_1:=e_1.size;have r0_1s:=r0_1.sl;have hlk:((l.take k).flatMap λx=>Cn.mdots x.2).length<=k*1000000:=Cn.flat_take (b:=1000000) (λx hx=>(hS x hx).2) hk;refine C.sr λK6=>O.lssI s8_1 s7_1 (K6 (C.sq λK7=>C.condD rfl (λc9=>?_) (λc9=>?_)))
 ·
  have hk2:k<l.length:=by omega
  refine C.skip (K7 (C.sq λK8=>C.bl λK9=>C.sr λK10=>O.idx U45 Z117 rfl s6_1 (hl.L e_1) s8_1 (by omega) (λa10 h10=>O.loadE (E:=itemE) isAgg117 Z117 rfl rfl h10 (λcs11 hcs11=>?_))));obtain ⟨vm11,rfl,hm11⟩:=hcs11;obtain ⟨u,hu⟩:∃u:ItemT,u=l[k]:=⟨_,rfl⟩
  have hSu:=hS u (by rw[hu];exact List.getElem_mem _);refine O.cast (v':=.agg #[str u.1,vm11]) (by rw[hu];rfl) ?_;have hm11:Sl markF.enc w1 F vm11 u.2:=by rw[hu];exact hm11
  refine O.alloc zeroValue117 (λb5 w2 hb5 hz5 e2=>?_);have z2:=e2.size;have h5:=hz5.own;have hl5:=h5.lt;refine O.storeA (vs:=[str u.1,vm11]) Z117 rfl rfl rfl (ones2 hm11.oneC) h5 (leB rfl) (λw3 hs3 e3 z3=>K10 (C.region (O.mv (O.fa U117 rfl Z115 rfl (O.loadO isAgg115 rfl hs3 rfl (O.call call152 (args1 rfl) (qdots_spec _ u.2 _ _ ((hm11.L e2).keepA e3) (by omega)) ?_))))));rintro v_15 w4 ⟨e4,h15⟩;have z4:=e4.size;have h15s:=h15.sl;have hlu:(Cn.mdots u.2).length=u.2.length:=by unfold Cn.mdots;simp
  have t0:=(r0_1.L e2).kM e3 (λk hk h=>by have:=r0_1.bk_ge k hk;(try dsimp only at h);omega);refine O.appF (G:=Dt.dotF) U41 ti112 tz112 ts112 rfl s3_1 rfl (t0.L e4) h15s (by rw[tb112];omega) (by unfold maxLen;omega) (by omega) (λv16 w5 h16 e5=>?_);have z5:=e5.size;have h16s:=h16.sl;refine O.j (O.o (K9 (K8 (C.region (O.ad s8_1 rfl (O.mv (O.o (⟨(k+1,_),⟨rfl,rfl,s2_1,s6_1,s7_1,(Ext.new (Ext.T (Ext.nr (Ext.T e_1 e2) e3) e4) e5 (by intro i hi h;have:=(t0.L e4).bk_ge i h;omega)),(by rw[show (l.take (k+1)).flatMap (λx=>Cn.mdots x.2)=(l.take k).flatMap (λx=>Cn.mdots x.2)++Cn.mdots u.2 from by rw[hu];exact Cn.flatMap_take _ hk2];exact h16),?_⟩,by first|omega|(simp only[];omega)⟩))))))))
  omega
 refine C.exit (K5 (K3 (C.sr λK11=>O.mv (O.call call149 (args1 s3_1) (set_spec _ ((l.take k).flatMap λx=>Cn.mdots x.2) _ _ r0_1s (by omega)) ?_))));rintro v_19 w6 ⟨e6,h19⟩;have z6:=e6.size;refine O.j (K11 (C.ret (Outs.one rfl rfl ?_)));obtain rfl:k=l.length:=by omega
 rw[List.take_length] at h19;exact ⟨(Ext.T e_1 e6),h19.low (by omega)⟩
theorem itemsValid_spec (v0:Value)(l:List ItemT)(F:Nat->Prop)(w:World)(hl:Sl itemE w F v0 l)(hF:∀k,F k->k<w.heap.size)(hn:l.length<=1000000)(hS:∀x∈l,x.1.length<=1000000∧x.2.length<=1000000)(mx:Mx w):
 Ret prog 99 #[v0] w (λv w'=>v=.bool (Cn.itemsValid l)∧Le w w'):=by
 have hle:=hl.le;refine enT [v0] 41 func99 rfl rfl (C.sr λK1=>O.j (K1 (C.sr λK2=>O.j (K2 (C.sq λK3=>C.sr λK4=>O.mv (O.len U45 rfl hl (O.mv (K4 (C.bl λK5=>C.loop0 (σ:=Nat) (λf0 w0 k f wz=>f 3=.int .i64 ((Cn.count (l.take k):Nat))∧f 8=.int .i64 (k)∧f 0=f0 0∧f 6=f0 6∧f 7=f0 7∧Le w wz∧k<=l.length∧(∀i,∀h:i<l.length,i<k->Cn.badI l[i]=false)∧∀i,∀h:i+1<l.length,i+1<k->Op.bytesLess l[i].1 l[i+1].1=true) (λk=>l.length-k) 0 ?_ ?_)))))))))
 ·
  refine ⟨(Eq.trans rfl rfl),rfl,rfl,rfl,rfl,leR,?_⟩;exact ⟨Nat.zero_le _,λi h k=>absurd k (Nat.not_lt_zero _),λi h k=>absurd k (Nat.not_lt_zero _)⟩
 rintro k f_1 w1 ⟨s3_1,s8_1,s0_1,s6_1,s7_1,e_1,⟨hk,hI,hJ⟩⟩;have z_1:=e_1.size;have hck:Cn.count (l.take k)<=k*1000000:=Cn.count_take_le (b:=1000000) (λx hx=>(hS x hx).2) hk;refine C.sr λK6=>O.lssI s8_1 s7_1 (K6 (C.sq λK7=>C.condD rfl (λc9=>?_) (λc9=>?_)))
 ·
  have hk2:k<l.length:=by omega
  refine C.skip (K7 (C.sq λK8=>C.bl λK9=>C.sr λK10=>O.mv (O.idx U45 Z117 rfl s6_1 (hl.L e_1) s8_1 (by omega) (λa11 h11=>O.loadE (E:=itemE) isAgg117 Z117 rfl rfl h11 (λcs12 hcs12=>?_)))));obtain ⟨vm12,rfl,hm12⟩:=hcs12;obtain ⟨u,hu⟩:∃u:ItemT,u=l[k]:=⟨_,rfl⟩
  have hSu:=hS u (by rw[hu];exact List.getElem_mem _);refine O.cast (v':=.agg #[str u.1,vm12]) (by rw[hu];rfl) ?_;have hm12:Sl markF.enc w1 F vm12 u.2:=by rw[hu];exact hm12
  refine O.alloc zeroValue117 (λb5 w2 hb5 hz5 e2=>?_);have z2:=e2.size;have h5:=hz5.own;have hl5:=h5.lt;refine O.j (O.storeA (vs:=[str u.1,vm12]) Z117 rfl rfl rfl (ones2 hm12.oneC) h5 (leB rfl) (λw3 hs3 e3 z3=>K10 (C.sq λK11=>C.sd λK12 w4 e4 z4=>D.t 0 rfl leR (λ_ hw_ _ hN=>O.loadOA isAgg117 Z117 rfl ((hs3.L e4).L hw_) (leB rfl) (O.o hN)) (D.on 1 rfl rfl ?_))));have t0:=Ext.T e_1 e2;have t1:=(hm12.L e2).keepA e3;have t2:=Ext.T (Ext.nr t0 e3) e4;refine O.call call147 (args1 rfl) (badI_spec u vm12 F _ (t1.L e4) hSu.1 (by omega) (mx.L t2)) ?_;rintro v_14 w5 ⟨rfl,e5⟩;have z5:=e5.size;refine O.o ⟨e5,D.mv 2 rfl e5 (D.split (x:=.tmp 15) rfl (λc15=>?_) (λc15=>?_))⟩
  ·
   refine D.tn 3 rfl rfl e5 rfl (noB (isT' rfl c15) rfl) (D.tn 4 rfl rfl e5 rfl (noB (isT' rfl c15) rfl) (D.tn 5 rfl rfl e5 rfl (noB (isT' rfl c15) rfl) (D.tn 6 rfl rfl e5 rfl (noU rfl) (D.tn 7 rfl rfl e5 rfl (noU rfl) (D.tn 8 rfl rfl e5 rfl (noU rfl) (D.tn 9 rfl rfl e5 rfl (noU rfl) (D.tn 10 rfl rfl e5 rfl (noU rfl) (D.tn 11 rfl rfl e5 rfl (noU rfl) (D.tn 12 rfl rfl e5 rfl (noU rfl) (D.tn 13 rfl rfl e5 rfl (noU rfl) (D.tn 14 rfl rfl e5 rfl (noU rfl) (D.tn 15 rfl rfl e5 rfl (noB (isT' rfl c15) rfl) (D.tk 16 rfl rfl rfl rfl e5 pick_form (λ_ hw_ _ hN=>O.pickT (isT' rfl c15) (O.o hN)) (K12 (C.condT rfl (C.sr λK13=>O.j (K13 (C.ret (Outs.one rfl rfl ?_)))))))))))))))))))
   (refine ⟨congrArg Value.bool ?_,(Ext.T t2 e5)⟩
    have q:l.any Cn.badI=true:=Cn.any_yes hk2 (by rw[<-hu];exact c15);unfold Cn.itemsValid;rw[q]
    rfl)
  refine D.ty 3 rfl rfl rfl rfl (isF' rfl c15) e5 ⟨pure _,rfl⟩ (λ_ hw_ _ hN=>O.mv (O.o hN)) (D.ty 4 rfl rfl rfl rfl (isF' rfl c15) e5 ⟨_,rfl⟩ (λ_ hw_ _ hN=>O.gtrI s8_1 rfl (O.o hN)) (D.ty 5 rfl rfl rfl rfl (isF' rfl c15) e5 ⟨pure _,rfl⟩ (λ_ hw_ _ hN=>O.mv (O.o hN)) (D.splitD (x:=.tmp 18) rfl (λc18=>?_) (λc18=>?_))))
  ·
   have x1:((k:Int)-1).toNat=k-1:=by omega
   have hk3:k-1+1=k:=by omega
   refine D.ty 6 rfl rfl rfl rfl (isT rfl c18) e5 ⟨pure _,rfl⟩ (λ_ hw_ _ hN=>O.mv (O.o hN)) (D.ty 7 rfl rfl rfl rfl (isT rfl c18) e5 ⟨pure _,rfl⟩ (λ_ hw_ _ hN=>O.mv (O.o hN)) (D.ty 8 rfl rfl rfl rfl (isT rfl c18) e5 ⟨_,rfl⟩ (λ_ hw_ _ hN=>O.sb s8_1 rfl (O.o hN)) ?_));obtain ⟨a22,h22,hr22⟩:=Sl.at (i:=(k:Int)-1) (P:=prog) U45 Z117 rfl (hl.L t2) (by omega);refine D.ty 9 rfl rfl rfl rfl (isT rfl c18) e5 ⟨_,rfl⟩ (λ_ hw_ _ hN=>O.idxR s0_1 rfl hr22 (O.o hN)) (D.ty 10 rfl rfl rfl rfl (isT rfl c18) e5 ⟨_,rfl⟩ (λ_ hw_ _ hN=>O.ft U117 rfl Z9 rfl (O.o hN)) (D.ty 11 rfl rfl rfl rfl (isT rfl c18) e5 ⟨_,rfl⟩ (λ_ hw_ _ hN=>O.loadName isAgg9 rfl (h22.L hw_) (O.o hN)) (D.ty 12 rfl rfl rfl rfl (isT rfl c18) e5 ⟨_,rfl⟩ (λ_ hw_ _ hN=>O.fa U117 rfl Z9 rfl (O.o hN)) (D.ty 13 rfl rfl rfl rfl (isT rfl c18) e5 ⟨_,rfl⟩ (λ_ hw_ _ hN=>O.loadO isAgg9 rfl ((hs3.L e4).L hw_) rfl (O.o hN)) ?_))));refine D.ty 14 rfl rfl rfl rfl (isT rfl c18) e5 ⟨_,rfl⟩ (λ_ hw_ _ hN=>O.geqS rfl rfl (O.o hN)) (D.ty 15 rfl rfl rfl rfl (isF' rfl c15) e5 pick_form (λ_ hw_ _ hN=>O.pickT (isT rfl c18) (O.o hN)) (D.tk 16 rfl rfl rfl rfl e5 pick_form (λ_ hw_ _ hN=>O.pickF (isF' rfl c15) (O.o hN)) (K12 (C.cond rfl (λc29=>?_) (λc29=>?_)))))
   ·
    try simp only[x1] at c29
    refine C.sr λK14=>O.j (K14 (C.ret (Outs.one rfl rfl ?_)))
    first
    |(refine ⟨congrArg Value.bool ?_,(Ext.T t2 e5)⟩
      have q:l.any Cn.badI=true:=Cn.any_yes hk2 (by rw[<-hu];exact c15);unfold Cn.itemsValid;rw[q]
      rfl)
    |(refine ⟨congrArg Value.bool ?_,(Ext.T t2 e5)⟩
      have q:Cn.names l=false:=Cn.adj_no (j:=k-1) hk2 (by omega) (by omega) (by rw[<-hu];simpa using c29);unfold Cn.itemsValid;rw[q,Bool.false_and,Bool.and_false])
   try simp only[x1] at c29
   refine C.skip (K11 (C.region (O.mv (O.fa U117 rfl Z115 rfl (O.loadO isAgg115 rfl ((hs3.L e4).L e5) rfl (O.len U115 rfl ((t1.L e4).L e5) (O.ad s3_1 rfl (O.j (O.o (K9 (K8 (C.region (O.ad s8_1 rfl (O.mv (O.o (⟨k+1,⟨(Eq.trans rfl (cI (by rw[Cn.count_take hk2,hu];simp))),rfl,s0_1,s6_1,s7_1,(Ext.T t2 e5),?_⟩,by first|omega|(simp only[];omega)⟩))))))))))))))));refine ⟨by omega,λi hi hik=>?_,λi hi hik=>?_⟩
   ·rcases Nat.lt_or_eq_of_le (Nat.le_of_lt_succ hik) with h|rfl
    ·exact hI i hi h
    ·rw [<-hu];exact c15
   ·rcases Nat.lt_or_eq_of_le (Nat.le_of_lt_succ hik) with h|h
    ·exact hJ i hi h
    ·first
     |(exfalso;omega)
     |(obtain rfl:k=i+1:=h.symm
       simp only[Nat.add_sub_cancel] at c29;rw[hu] at c29
       simpa using c29)
  refine D.tn 6 rfl rfl e5 rfl (noB (isF rfl c18) rfl) (D.tn 7 rfl rfl e5 rfl (noB (isF rfl c18) rfl) (D.tn 8 rfl rfl e5 rfl (noB (isF rfl c18) rfl) (D.tn 9 rfl rfl e5 rfl (noB (isF rfl c18) rfl) (D.tn 10 rfl rfl e5 rfl (noB (isF rfl c18) rfl) (D.tn 11 rfl rfl e5 rfl (noB (isF rfl c18) rfl) (D.tn 12 rfl rfl e5 rfl (noB (isF rfl c18) rfl) (D.tn 13 rfl rfl e5 rfl (noB (isF rfl c18) rfl) (D.tn 14 rfl rfl e5 rfl (noB (isF rfl c18) rfl) (D.ty 15 rfl rfl rfl rfl (isF' rfl c15) e5 pick_form (λ_ hw_ _ hN=>O.pickF (isF rfl c18) (O.o hN)) (D.tk 16 rfl rfl rfl rfl e5 pick_form (λ_ hw_ _ hN=>O.pickF (isF' rfl c15) (O.o hN)) (K12 (C.condF rfl (C.skip (K11 ?_))))))))))))));refine C.region (O.mv (O.fa U117 rfl Z115 rfl (O.loadO isAgg115 rfl ((hs3.L e4).L e5) rfl (O.len U115 rfl ((t1.L e4).L e5) (O.ad s3_1 rfl (O.j (O.o (K9 (K8 (C.region (O.ad s8_1 rfl (O.mv (O.o (⟨k+1,⟨(Eq.trans rfl (cI (by rw[Cn.count_take hk2,hu];simp))),rfl,s0_1,s6_1,s7_1,(Ext.T t2 e5),?_⟩,by first|omega|(simp only[];omega)⟩))))))))))))));refine ⟨by omega,λi hi hik=>?_,λi hi hik=>?_⟩
  ·rcases Nat.lt_or_eq_of_le (Nat.le_of_lt_succ hik) with h|rfl
   ·exact hI i hi h
   ·rw [<-hu];exact c15
  ·rcases Nat.lt_or_eq_of_le (Nat.le_of_lt_succ hik) with h|h
   ·exact hJ i hi h
   ·first
    |(exfalso;omega)
    |(obtain rfl:k=i+1:=h.symm
      simp only[Nat.add_sub_cancel] at c29;rw[hu] at c29
      simpa using c29)
 refine C.exit (K5 (K3 (C.sr λK15=>O.mv (O.call call101 (args1 s0_1) (idots_spec _ l _ _ (hl.L e_1) (λk hk=>by have:=hF k hk;omega) hn hS) ?_))));rintro v_37 w6 ⟨e6,h37⟩;have z6:=e6.size;have h37s:=h37.sl;refine O.len U41 rfl h37s (O.mv (O.eqlI rfl s3_1 (O.j (K15 (C.ret (Outs.one rfl rfl ?_))))))
 first
 |(refine ⟨congrArg Value.bool ?_,(Ext.T e_1 e6)⟩
   have q:l.any Cn.badI=true:=Cn.any_yes hk2 (by rw[<-hu];exact c15);unfold Cn.itemsValid;rw[q]
   rfl)
 |(refine ⟨congrArg Value.bool ?_,(Ext.T e_1 e6)⟩
   have q:Cn.names l=false:=Cn.adj_no (j:=k-1) hk2 (by omega) (by omega) (by rw[<-hu];simpa using c29);unfold Cn.itemsValid;rw[q,Bool.false_and,Bool.and_false])
 |(refine ⟨congrArg Value.bool ?_,(Ext.T e_1 e6)⟩
   obtain rfl:k=l.length:=by omega
   have q1:l.any Cn.badI=false:=Cn.any_no λi hi=>hI i hi hi
   have q2:Cn.names l=true:=Cn.adj_yes λi hi=>hJ i hi hi
   unfold Cn.itemsValid;rw[q1,q2,List.take_length];exact decide_eq_decide.2 Int.ofNat_inj)
theorem del_n_spec (vf:Value)(M:Nat->Prop)(p:Dt.Dot->Bool)(w:World)(hp:Pred prog M w vf Dt.dv p):
 Ret prog 148 #[.slice none 0 0,vf] w (λv w'=>v=.slice none 0 0∧Le w w'):=by
 refine enT [.slice none 0 0,vf] 42 func148 rfl rfl (C.sr λK1=>O.j (K1 (C.sr λK2=>O.mv (O.mv (O.call call208 (args2 rfl rfl) (indexD_spec _ _ [] (λ_=>False) M p _ (Sl.nil _ _ _) hp) ?_)))));rintro v_10 w1 ⟨rfl,e1⟩;have z1:=e1.size;refine O.j (K2 (C.sq λK3=>C.sr λK4=>O.mv (O.eqlI rfl rfl (O.cast (v':=.bool true) (cB (by exact decide_eq_true rfl)) (K4 (C.condT rfl (C.sr λK5=>O.mv (O.j (K5 (C.ret (Outs.one rfl rfl ?_)))))))))));exact ⟨rfl,e1⟩
theorem del_a_spec (g cap B Z:Nat)(l:List Dt.Dot)(vf:Value)(p:Dt.Dot->Bool)(w:World)(ho:OwnF Dt.dotF 112 B w (.slice (some ⟨g,0,none⟩) l.length cap) l)(hn:l.length<=1000000000000)(hZ:Z=w.heap.size)(hp:Pred prog (λk=>k=g∨Z<=k) w vf Dt.dv p):
 Ret prog 148 #[.slice (some ⟨g,0,none⟩) l.length cap,vf] w (λv w'=>∃n,v=.slice (some ⟨g,0,none⟩) n cap∧n=(l.filter λx=> !p x).length∧Ext (λk=>k=g) w w'):=by
 have hs0:=ho.sl;have hcap:=ho.le_cap;have hge:=Cn.idx_ge (p:=p) l;refine enT [.slice (some ⟨g,0,none⟩) l.length cap,vf] 42 func148 rfl rfl (C.sr λK1=>O.j (K1 (C.sr λK2=>O.mv (O.mv (O.call call208 (args2 rfl rfl) (indexD_spec _ _ _ _ _ p _ hs0 hp) ?_)))));rintro v_10 w1 ⟨rfl,e1⟩;have z1:=e1.size;refine O.j (K2 (C.sq λK3=>C.sr λK4=>O.mv (O.eqlI rfl rfl (K4 (C.condD rfl (λc12=>?_) (λc12=>?_))))))
 ·
  have hi1:=Cn.filter_none c12;refine C.sr λK5=>O.mv (O.j (K5 (C.ret (Outs.one rfl rfl ?_))))
  exact ⟨_,rfl,by rw[hi1],(Ext.nw (Ext.L _ _) e1)⟩
 obtain ⟨i,hi⟩:∃i:Nat,Cn.idx p l=(i:Int):=⟨(Cn.idx p l).toNat,by omega⟩
 obtain ⟨⟨hil,hip⟩,hib⟩:=Cn.idx_at hi;obtain ⟨hf1,hf2⟩:=Cn.filter_first hi;refine C.skip (K3 (C.sq λK6=>C.sr λK7=>O.mv (O.ad rfl rfl (O.j (K7 (C.bl λK8=>C.loop0 (σ:=Nat×Nat×List Dt.Dot) (λf0 w0 ⟨j,m,c⟩ f w=>f 6=.int .i64 (j)∧f 5=.int .i64 (m)∧f 0=f0 0∧f 1=f0 1∧f 4=f0 4∧Ext (λk=>k=g∨Z<=k) w0 w∧OwnF Dt.dotF 112 B w (.slice (some ⟨g,0,none⟩) l.length cap) c∧Pred prog (λk=>k=g∨Z<=k) w vf Dt.dv p∧c.length=l.length∧j<=l.length∧m+1<=j∧c.take m=(l.take j).filter (λx=> !p x)∧∀i,∀h1:i<c.length,∀h2:i<l.length,j<=i->c[i]=l[i]) (λ⟨j,m,c⟩=>l.length-j) (i+1,i,l) ?_ ?_))))))
 ·
  refine ⟨(Eq.trans rfl (cI (by rw[hi];rfl))),(Eq.trans rfl (cI hi)),rfl,rfl,rfl,Ext.L _ _,(ho.L e1),(hp.L e1),?_⟩;exact ⟨rfl,by omega,by omega,hf2.symm,λi _ _ _=>rfl⟩
 rintro ⟨j,m,c⟩ f_1 w2 ⟨s6_1,s5_1,s0_1,s1_1,s4_1,e_1,r0_1,r1_1,⟨hcl,hj,hm,hT,hE⟩⟩;have z_1:=e_1.size;have r0_1s:=r0_1.sl;have hp4:=r0_1.sl;refine C.sq λK9=>C.sr λK10=>O.mv (O.mv (O.len U41 s0_1 hp4 (O.lssI s6_1 rfl (K10 (C.condD rfl (λc19=>?_) (λc19=>?_))))))
 ·
  have hj2:j<c.length:=by simp at c19;omega
  have y1:((j:Int)).toNat=j:=by omega
  refine C.skip (K9 (C.sq λK11=>C.bl λK12=>C.sr λK13=>O.mv (O.mv (O.idx U41 Z112 rfl s0_1 hp4 s6_1 (by simp;omega) (λa24 h24=>O.loadG (G:=Dt.dotF) isAgg112 Z112 rfl h24 ?_)))));obtain ⟨u,hu⟩:∃u:Dt.Dot,u=l[j]'(by omega):=⟨_,rfl⟩
  refine O.cast (v':=Dt.dv u) (by subst hu;simp only[y1];rw[hE j hj2 (by omega) (by omega)];rfl) (O.alloc zeroValue112 (λb7 w3 hb7 hz7 e3=>?_));have z3:=e3.size;have h7:=hz7.own;have hl7:=h7.lt;refine O.storeA (vs:=[.int .i64 u.1,.int .i64 u.2]) Z112 rfl rfl rfl (by simp[Value.oneCell']) h7 (leB rfl) (λw4 hs4 e4 z4=>K13 (C.sr λK14=>O.mv (O.loadOA isAgg112 Z112 rfl hs4 (leB rfl) (O.callP (u) ((r1_1.L e3).kM e4 (λk h=>.inr (by (try dsimp only at h);omega))) s1_1 rfl (λw5 e5=>?_)))));have z5:=e5.size;refine O.not rfl (K14 (C.cond rfl (λc29=>?_) (λc29=>?_)))
  ·
   refine C.sr λK15=>O.mv (O.mv (O.loadOA isAgg112 Z112 rfl (hs4.L e5) (leB rfl) (O.idxO U41 Z112 s0_1 s5_1 (by omega) (O.cast (v':=.pointer (some ⟨g,m*Dt.dotF.sz,none⟩)) (by rw[Nat.zero_add,Int.toNat_natCast];rfl) ?_))))
   have ho33:=(((r0_1.L e3).kM e4 (λk hk h=>by have:=r0_1.bk_ge k hk;(try dsimp only at h);omega)).L e5)
   rw[<-hcl] at ho33;refine O.storeG (G:=Dt.dotF) (u) Z112 rfl rfl ho33 (by omega) (λw6 hs6 e6 z6=>?_);rw[hcl] at hs6;refine K15 (C.region (O.mv (O.ad s5_1 rfl (O.cast (v':=.int .i64 ((m+1:Nat):Int)) rfl (O.j (O.o (K12 (K11 (C.region (O.mv (O.ad s6_1 rfl (O.j (O.o (⟨(j+1,_,_),⟨rfl,rfl,s0_1,s1_1,s4_1,(Ext.nw (Ext.nw (Ext.nw (Ext.nw (Ext.nw (Ext.L _ _) e_1) e3) e4) e5) e6),hs6,((((r1_1.L e3).kM e4 (λk h=>.inr (by (try dsimp only at h);omega))).L e5).kM e6 (λk h=>.inl h)),?_⟩,by first|omega|(simp only[];omega)⟩))))))))))))))
   (refine ⟨by rw[List.length_set];exact hcl,by omega,by omega,?_,λi h1 h2 h3=>?_⟩
    ·rw [List.take_succ_eq_append_getElem (by rw[List.length_set];omega),List.take_set,List.set_eq_of_length_le (by simp;omega),hT,Cn.filter_take p (by omega),List.getElem_set_self,<-hu]
     have c29':p u=false:=by simpa using c29
     rw[c29']
     rfl
    ·rw [List.getElem_set_ne (by omega)]
     exact hE i (by rw[List.length_set] at h1;exact h1) h2 (by omega))
  refine C.skip (K12 (K11 (C.region (O.mv (O.ad s6_1 rfl (O.j (O.o (⟨(j+1,_,_),⟨rfl,s5_1,s0_1,s1_1,s4_1,(Ext.nw (Ext.nw (Ext.nw (Ext.nw (Ext.L _ _) e_1) e3) e4) e5),(((r0_1.L e3).kM e4 (λk hk h=>by have:=r0_1.bk_ge k hk;(try dsimp only at h);omega)).L e5),(((r1_1.L e3).kM e4 (λk h=>.inr (by (try dsimp only at h);omega))).L e5),?_⟩,by first|omega|(simp only[];omega)⟩))))))))
  first
  |(refine ⟨by rw[List.length_set];exact hcl,by omega,by omega,?_,λi h1 h2 h3=>?_⟩
    ·rw [List.take_succ_eq_append_getElem (by rw[List.length_set];omega),List.take_set,List.set_eq_of_length_le (by simp;omega),hT,Cn.filter_take p (by omega),List.getElem_set_self,<-hu]
     have c29':p u=false:=by simpa using c29
     rw[c29']
     rfl
    ·rw [List.getElem_set_ne (by omega)]
     exact hE i (by rw[List.length_set] at h1;exact h1) h2 (by omega))
  |(refine ⟨hcl,by omega,by omega,?_,λi h1 h2 h3=>hE i h1 h2 (by omega)⟩
    have c29':p u=true:=by simpa using c29
    rw[hT,Cn.filter_take p (by omega),<-hu,c29',if_pos rfl,List.append_nil])
 have hj3:j=l.length:=by simp at c19;omega
 refine C.exit (K8 (K6 (C.sr λK16=>O.mv (O.mv (O.subHi U41 Z112 s0_1 s5_1 (by omega) (by omega) ?_)))));have hkw7:=r0_1;rw[<-hcl] at hkw7;refine O.clearG (G:=Dt.dotF) (zx:=(0,0)) (k:=m) U41 zeroValue112 rfl (by rw[hcl];exact rfl) hkw7 (by omega) (λw7 hc7 e7 z7=>?_);rw[hcl] at hc7;refine K16 (C.sr λK17=>O.mv (O.mv (O.subLo U41 Z112 s0_1 s5_1 (by omega) (by omega) (O.j (K17 (C.ret (Outs.one rfl rfl ?_)))))))
 first
 |exact ⟨_,rfl,by rw[hi1],(Ext.nw (Ext.nw (Ext.nw (Ext.L _ _) e1) e_1) e7)⟩
 |(refine ⟨_,rfl,?_,(Ext.nw (Ext.nw (Ext.nw (Ext.L _ _) e1) e_1) e7)⟩
   have q1:c.take m=l.filter (λx=> !p x):=by rw[hT,hj3,List.take_length]
   rw[<-q1,List.length_take]
   omega)
theorem del_spec (v:Value)(B:Nat)(l:List Dt.Dot)(vf:Value)(p:Dt.Dot->Bool)(w:World)(h:OwnF Dt.dotF 112 B w v l)(hB:B<=w.heap.size)(hn:l.length<=1000000000000)(hp:Pred prog (λk=>B<=k) w vf Dt.dv p):
 Ret prog 148 #[v,vf] w (λr w'=>(∃a n c,r=.slice a n c∧n=(l.filter λx=> !p x).length)∧Ext (λk=>B<=k) w w'):=by
 rcases h.1.2 with ⟨rfl,h0⟩|⟨g,cap,cur,rfl,hg,_⟩
 ·obtain rfl:l=[]:=List.eq_nil_of_length_eq_zero h0
  refine (del_n_spec vf _ p w hp).mono ?_;rintro r w' ⟨rfl,e⟩;exact ⟨⟨_,_,_,rfl,rfl⟩,e.to⟩
 ·refine (del_a_spec g cap B w.heap.size l vf p w h hn rfl (hp.weak λk hk=>?_)).mono ?_
  ·rcases hk with rfl|hk<;>omega
  ·rintro r w' ⟨n,rfl,hn,e⟩
   exact ⟨⟨_,_,_,rfl,hn⟩,e.mono λk _ hk=>by have h1:k=g:=hk;omega⟩
theorem missing_spec (v1 v2:Value)(x:Cn.Ctx)(F:Nat->Prop)(v3:Value)(l:List Dt.Dot)(F2:Nat->Prop)(w:World)(hv:Sl Dt.dotF.enc w F v1 x.1)(hc:Sl Dt.dotF.enc w F v2 x.2)(hl:Sl Dt.dotF.enc w F2 v3 l)(hF:∀k,F k->k<w.heap.size)(hn:l.length<=1000000000000):
 Ret prog 100 #[.agg #[v1,v2],v3] w (λv w'=>(∃a n c,v=.slice a n c∧n=(Cn.missing x l).length)∧Le w w'):=by
 have hsl:=Dt.addAll_length l [];simp only[List.length_nil,Nat.zero_add] at hsl;refine enT [.agg #[v1,v2],v3] 9 func100 rfl rfl (C.sr λK1=>O.box (v:=.agg #[v1,v2]) rfl (λb2 w1 hb2 hz2 e1=>?_));have z1:=e1.size;have h2:=hz2.own;have hl2:=h2.lt;refine O.j (K1 (C.sr λK2=>O.mv (O.call call149 (args1 rfl) (set_spec _ l _ _ (hl.L e1) hn) ?_)));rintro v_6 w2 ⟨e2,h6⟩;have z2:=e2.size;have hl6:=h6.1.1;refine O.makeF (v1:=[]) rfl rfl (O.call call148 (args2 rfl rfl) (del_spec _ _ _ _ (Cn.ctxHas x) _ h6 (by omega) (by unfold Dt.set;omega) (pred_miss b2 v1 v2 x F _ _ (h2.L e2) ((hv.L e1).L e2) ((hc.L e1).L e2) (by omega) (by intro k hk h;have:=hF k hk;(try dsimp only at h);omega))) ?_);rintro v_8 w3 ⟨⟨av8,nv8,cv8,rfl,hnv8⟩,e3⟩;have z3:=e3.size;refine O.j (K2 (C.ret (Outs.one rfl rfl ?_)));exact ⟨⟨_,_,_,rfl,hnv8⟩,(Ext.new (Ext.T e1 e2) e3 (by intro i hi h;(try dsimp only at h);omega))⟩
theorem cartValid_spec (va1 va2 va3:Value)(a:Cn.Cart)(F:Nat->Prop)(w:World)(hav:Sl Dt.dotF.enc w F va1 a.1.1)(hac:Sl Dt.dotF.enc w F va2 a.1.2)(hai:Sl itemE w F va3 a.2)(hF:∀k,F k->k<w.heap.size)(hn:a.2.length<=1000000)(hS:∀x∈a.2,x.1.length<=1000000∧x.2.length<=1000000)(mx:Mx w):
 Ret prog 61 #[.agg #[va1,va2,va3]] w (λv w'=>v=.bool (Cn.valid a)∧Le w w'):=by
 have hdl:=Cn.dotsOf_len (l:=a.2) λx hx=>(hS x hx).2
 refine enT [.agg #[va1,va2,va3]] 21 func61 rfl rfl (C.sr λK1=>O.box (v:=.agg #[va1,va2,va3]) rfl (λb1 w1 hb1 hz1 e1=>?_));have z1:=e1.size;have h1:=hz1.own;have hl1:=h1.lt;refine O.j (K1 (C.sd λK2 w2 e2 z2=>D.t 0 rfl leR (λ_ _ _ hN=>O.fa U47 rfl Z44 rfl (O.o hN)) (D.t 1 rfl leR (λ_ hw_ _ hN=>O.loadOA isAgg44 Z44 rfl ((h1.L e2).L hw_) (leB rfl) (O.o hN)) (D.on 2 rfl rfl (O.call call98 (args1 rfl) (isCompact_spec va1 va2 a.1 F _ ((hav.L e1).L e2) ((hac.L e1).L e2)) ?_)))));rintro v_5 w3 ⟨rfl,e3⟩;have z3:=e3.size;refine O.o ⟨e3,D.mv 3 rfl e3 (D.split (x:=.tmp 6) rfl (λc6=>?_) (λc6=>?_))⟩
 ·
  refine D.ty 4 rfl rfl rfl rfl (isT' rfl c6) e3 ⟨_,rfl⟩ (λ_ hw_ _ hN=>O.fa U47 rfl Z45 rfl (O.o hN)) (D.ty 5 rfl rfl rfl rfl (isT' rfl c6) e3 ⟨_,rfl⟩ (λ_ hw_ _ hN=>O.loadO isAgg45 rfl ((h1.L e2).L hw_) rfl (O.o hN)) (D.oneYes (i:=6) rfl rfl (isT' rfl c6) (by kernel_rfl) ?_));have t0:=((hai.L e1).L e2).L e3;refine O.call call99 (args1 rfl) (itemsValid_spec va3 a.2 F _ t0 (by intro k hk;have:=hF k hk;omega) hn hS (((mx.L e1).L e2).L e3)) ?_;rintro v_9 w4 ⟨rfl,e4⟩;have z4:=e4.size;refine O.o ⟨(Ext.T e3 e4),D.tk 7 rfl rfl rfl rfl (Ext.T e3 e4) pick_form (λ_ hw_ _ hN=>O.pickT (isT' rfl c6) (O.o hN)) (D.mv 8 rfl (Ext.T e3 e4) (D.split (x:=.tmp 11) rfl (λc11=>?_) (λc11=>?_)))⟩
  ·
   refine D.ty 9 rfl rfl rfl rfl (isT' rfl c11) (Ext.T e3 e4) ⟨_,rfl⟩ (λ_ hw_ _ hN=>O.fa U47 rfl Z44 rfl (O.o hN)) (D.ty 10 rfl rfl rfl rfl (isT' rfl c11) (Ext.T e3 e4) ⟨_,rfl⟩ (λ_ hw_ _ hN=>O.loadOA isAgg44 Z44 rfl ((h1.L e2).L hw_) (leB rfl) (O.o hN)) (D.ty 11 rfl rfl rfl rfl (isT' rfl c11) (Ext.T e3 e4) ⟨_,rfl⟩ (λ_ hw_ _ hN=>O.fa U47 rfl Z45 rfl (O.o hN)) (D.ty 12 rfl rfl rfl rfl (isT' rfl c11) (Ext.T e3 e4) ⟨_,rfl⟩ (λ_ hw_ _ hN=>O.loadO isAgg45 rfl ((h1.L e2).L hw_) rfl (O.o hN)) (D.oneYes (i:=13) rfl rfl (isT' rfl c11) (by kernel_rfl) ?_))));refine O.call call101 (args1 rfl) (idots_spec va3 a.2 F _ (t0.L e4) (by intro k hk;have:=hF k hk;omega) hn hS) ?_;rintro v_16 w5 ⟨e5,h16⟩;have z5:=e5.size;have t1:=Ext.T (Ext.T e3 e4) e5;refine O.o ⟨t1,?_⟩;have h16s:=h16.sl;refine D.oneYes (i:=14) rfl rfl (isT' rfl c11) (by kernel_rfl) (O.call call100 (args2 rfl rfl) (missing_spec va1 va2 a.1 F _ (Cn.dotsOf a.2) _ _ (((((hav.L e1).L e2).L e3).L e4).L e5) (((((hac.L e1).L e2).L e3).L e4).L e5) h16s (by intro k hk;have:=hF k hk;omega) (by omega)) ?_);rintro v_17 w6 ⟨⟨av17,nv17,cv17,rfl,hnv17⟩,e6⟩;have z6:=e6.size;refine O.o ⟨(Ext.T t1 e6),D.ty 15 rfl rfl rfl rfl (isT' rfl c11) (Ext.T t1 e6) len_form (λ_ hw_ _ hN=>O.lenL U41 rfl (O.o hN)) (D.ty 16 rfl rfl rfl rfl (isT' rfl c11) (Ext.T t1 e6) ⟨_,rfl⟩ (λ_ hw_ _ hN=>O.eqlI rfl rfl (O.o hN)) (D.tk 17 rfl rfl rfl rfl (Ext.T t1 e6) pick_form (λ_ hw_ _ hN=>O.pickT (isT' rfl c11) (O.o hN)) (D.as 18 rfl (Ext.T t1 e6) (K2 (C.ret (Outs.one rfl rfl (⟨congrArg Value.bool ?_,(Ext.T (Ext.T (Ext.T (Ext.T (Ext.T e1 e2) e3) e4) e5) e6)⟩)))))))⟩;unfold Cn.valid
   first
   |(rw[c6];rfl)
   |(rw[c6,c11];rfl)
   |(rw[c6,c11,<-hnv17];exact decide_eq_decide.2 Int.ofNat_eq_zero)
  refine D.tn 9 rfl rfl (Ext.T e3 e4) rfl (noB (isF' rfl c11) rfl) (D.tn 10 rfl rfl (Ext.T e3 e4) rfl (noB (isF' rfl c11) rfl) (D.tn 11 rfl rfl (Ext.T e3 e4) rfl (noB (isF' rfl c11) rfl) (D.tn 12 rfl rfl (Ext.T e3 e4) rfl (noB (isF' rfl c11) rfl) (D.tn 13 rfl rfl (Ext.T e3 e4) rfl (noB (isF' rfl c11) rfl) (D.tn 14 rfl rfl (Ext.T e3 e4) rfl (noB (isF' rfl c11) rfl) (D.tn 15 rfl rfl (Ext.T e3 e4) rfl (noB (isF' rfl c11) rfl) (D.tn 16 rfl rfl (Ext.T e3 e4) rfl (noB (isF' rfl c11) rfl) (D.tk 17 rfl rfl rfl rfl (Ext.T e3 e4) pick_form (λ_ hw_ _ hN=>O.pickF (isF' rfl c11) (O.o hN)) (D.as 18 rfl (Ext.T e3 e4) (K2 (C.ret ?_)))))))))));refine Outs.one rfl rfl (⟨congrArg Value.bool ?_,(Ext.T (Ext.T (Ext.T e1 e2) e3) e4)⟩);unfold Cn.valid
  first
  |(rw[c6];rfl)
  |(rw[c6,c11];rfl)
 refine D.tn 4 rfl rfl e3 rfl (noB (isF' rfl c6) rfl) (D.tn 5 rfl rfl e3 rfl (noB (isF' rfl c6) rfl) (D.tn 6 rfl rfl e3 rfl (noB (isF' rfl c6) rfl) (D.tk 7 rfl rfl rfl rfl e3 pick_form (λ_ hw_ _ hN=>O.pickF (isF' rfl c6) (O.o hN)) (D.mv 8 rfl e3 (D.tn 9 rfl rfl e3 rfl (noB rfl rfl) (D.tn 10 rfl rfl e3 rfl (noB rfl rfl) (D.tn 11 rfl rfl e3 rfl (noB rfl rfl) (D.tn 12 rfl rfl e3 rfl (noB rfl rfl) (D.tn 13 rfl rfl e3 rfl (noB rfl rfl) (D.tn 14 rfl rfl e3 rfl (noB rfl rfl) (D.tn 15 rfl rfl e3 rfl (noB rfl rfl) (D.tn 16 rfl rfl e3 rfl (noB rfl rfl) (D.tk 17 rfl rfl rfl rfl e3 pick_form (λ_ hw_ _ hN=>O.pickF rfl (O.o hN)) (D.as 18 rfl e3 (K2 (C.ret ?_))))))))))))))));refine Outs.one rfl rfl (⟨congrArg Value.bool ?_,(Ext.T (Ext.T e1 e2) e3)⟩);unfold Cn.valid
 (rw[c6];rfl)
theorem isNaNU_spec (x:BitVec 64)(w:World):
 Ret prog 260 #[.int .u64 ((x).toNat:Int)] w (λv w'=>v=.bool false∧w'=w):=by
 refine enT [.int .u64 ((x).toNat:Int)] 6 func260 rfl rfl (C.sr λK1=>O.j (K1 (C.sr λK2=>O.mv (O.mv (O.neqU (m:=64) rfl rfl (O.cast (v':=.bool false) (cB (by exact dF (λh=>h rfl))) (O.j (K2 (C.ret (Outs.one rfl rfl ?_))))))))));exact ⟨rfl,rfl⟩
theorem ucmp_spec (a b:BitVec 64)(w:World):
 Ret prog 232 #[.int .u64 ((a).toNat:Int),.int .u64 ((b).toNat:Int)] w (λv w'=>v=.int .i64 (Jn.ucmp a b)∧w'=w):=by
 refine enT [.int .u64 ((a).toNat:Int),.int .u64 ((b).toNat:Int)] 20 func232 rfl rfl (C.sr λK1=>O.j (K1 (C.sr λK2=>O.mv (O.call call260 (args1 rfl) (isNaNU_spec _ _) ?_))));rintro v_8 w1 ⟨rfl,hw_⟩;replace hw_:=hw_.symm;subst hw_;refine O.j (K2 (C.sr λK3=>O.mv (O.call call260 (args1 rfl) (isNaNU_spec _ _) ?_)));rintro v_10 w1 ⟨rfl,hw_⟩;replace hw_:=hw_.symm;subst hw_;refine O.j (K3 (C.sq λK4=>C.sr λK5=>O.mv (K5 (C.condF rfl (C.skip (K4 (C.sq λK6=>C.sr λK7=>O.mv (K7 (C.condF rfl (C.skip (K6 (C.sq λK8=>C.sr λK9=>O.mv (O.mv (O.lssU (m:=64) rfl rfl (K9 (C.condD rfl (λc16=>?_) (λc16=>?_)))))))))))))))))
 ·
  refine C.sr λK10=>O.j (K10 (C.ret (Outs.one rfl rfl ?_)))
  unfold Jn.ucmp
  (rw[if_pos (by assumption)];exact ⟨rfl,rfl⟩)
 refine C.skip (K8 (C.sq λK11=>C.sr λK12=>O.mv (O.mv (O.gtrU (m:=64) rfl rfl (K12 (C.condD rfl (λc19=>?_) (λc19=>?_)))))))
 ·
  refine C.sr λK13=>O.j (K13 (C.ret (Outs.one rfl rfl ?_)))
  unfold Jn.ucmp
  first
  |(rw[if_pos (by assumption)];exact ⟨rfl,rfl⟩)
  |(rw[if_neg (by assumption),if_pos (by assumption)];exact ⟨rfl,rfl⟩)
 refine C.skip (K11 (C.sr λK14=>O.j (K14 (C.ret (Outs.one rfl rfl ?_)))));unfold Jn.ucmp
 first
 |(rw[if_pos (by assumption)];exact ⟨rfl,rfl⟩)
 |(rw[if_neg (by assumption),if_pos (by assumption)];exact ⟨rfl,rfl⟩)
 |(rw[if_neg (by assumption),if_neg (by assumption)];exact ⟨rfl,rfl⟩)
theorem isNaNS_spec (x:List UInt8)(w:World):
 Ret prog 110 #[str (x)] w (λv w'=>v=.bool false∧w'=w):=by
 refine enT [str (x)] 6 func110 rfl rfl (C.sr λK1=>O.j (K1 (C.sr λK2=>O.mv (O.mv (O.neqS rfl rfl (O.cast (v':=.bool false) (cB (by exact dF (λh=>h rfl))) (O.j (K2 (C.ret (Outs.one rfl rfl ?_))))))))));exact ⟨rfl,rfl⟩
theorem scmp_spec (a b:List UInt8)(w:World):
 Ret prog 72 #[str (a),str (b)] w (λv w'=>v=.int .i64 (Jn.scmp a b)∧w'=w):=by
 refine enT [str (a),str (b)] 20 func72 rfl rfl (C.sr λK1=>O.j (K1 (C.sr λK2=>O.mv (O.call call110 (args1 rfl) (isNaNS_spec _ _) ?_))));rintro v_8 w1 ⟨rfl,hw_⟩;replace hw_:=hw_.symm;subst hw_;refine O.j (K2 (C.sr λK3=>O.mv (O.call call110 (args1 rfl) (isNaNS_spec _ _) ?_)));rintro v_10 w1 ⟨rfl,hw_⟩;replace hw_:=hw_.symm;subst hw_;refine O.j (K3 (C.sq λK4=>C.sr λK5=>O.mv (K5 (C.condF rfl (C.skip (K4 (C.sq λK6=>C.sr λK7=>O.mv (K7 (C.condF rfl (C.skip (K6 (C.sq λK8=>C.sr λK9=>O.mv (O.mv (O.lssS rfl rfl (K9 (C.cond rfl (λc16=>?_) (λc16=>?_)))))))))))))))))
 ·
  refine C.sr λK10=>O.j (K10 (C.ret (Outs.one rfl rfl ?_)))
  exact ⟨cI (Jn.scmp_one c16),rfl⟩
 refine C.skip (K8 (C.sq λK11=>C.sr λK12=>O.mv (O.mv (O.gtrS rfl rfl (K12 (C.cond rfl (λc19=>?_) (λc19=>?_)))))))
 ·
  refine C.sr λK13=>O.j (K13 (C.ret (Outs.one rfl rfl ?_)))
  first
  |exact ⟨cI (Jn.scmp_one c16),rfl⟩
  |exact ⟨cI (Jn.scmp_two c16 c19),rfl⟩
 refine C.skip (K11 (C.sr λK14=>O.j (K14 (C.ret (Outs.one rfl rfl ?_)))))
 first
 |exact ⟨cI (Jn.scmp_one c16),rfl⟩
 |exact ⟨cI (Jn.scmp_two c16 c19),rfl⟩
 |exact ⟨cI (Jn.scmp_three c16 c19),rfl⟩
theorem corL_spec (v0:Value)(l:List Int)(F:Nat->Prop)(w:World)(hl:Sl Dt.intE w F v0 l):
 Ret prog 181 #[v0] w (λv w'=>v=.int .i64 (Jn.orL l)∧w'=w):=by
 have hle:=hl.le;refine enT [v0] 18 func181 rfl rfl (C.sr λK1=>O.j (K1 (C.sr λK2=>O.j (K2 (C.sq λK3=>C.sr λK4=>O.mv (O.len U275 rfl hl (O.mv (K4 (C.bl λK5=>C.loop0 (σ:=Nat) (λf0 w0 k f w=>f 8=.int .i64 (k)∧f 3=f0 3∧f 6=f0 6∧f 7=f0 7∧w=w0∧k<=l.length∧∀i,∀h:i<l.length,i<k->l[i]=0) (λk=>l.length-k) 0 ?_ ?_)))))))))
 ·
  refine ⟨rfl,rfl,rfl,rfl,rfl,?_⟩;exact ⟨by omega,λi _ h=>absurd h (by omega)⟩
 rintro k f_1 wx ⟨s8_1,s3_1,s6_1,s7_1,rfl,⟨hk,hI⟩⟩;refine C.sr λK6=>O.lssI s8_1 s7_1 (K6 (C.sq λK7=>C.condD rfl (λc9=>?_) (λc9=>?_)))
 ·
  have hk2:k<l.length:=by omega
  refine C.skip (K7 (C.sq λK8=>C.bl λK9=>C.sr λK10=>O.idx U275 Z3 rfl s6_1 hl s8_1 (by omega) (λa10 h10=>O.load1F (G:=Dt.intF) isAgg3 rfl rfl rfl h10 ?_)));obtain ⟨u,hu⟩:∃u:Int,u=l[k]:=⟨_,rfl⟩
  refine O.cast (v':=.int .i64 u) (by rw[hu];rfl) (O.j (K10 (C.sr λK11=>O.mv (O.mv (O.neqI rfl s3_1 (K11 (C.condD rfl (λc14=>?_) (λc14=>?_))))))))
  ·
   refine C.sr λK12=>O.mv (O.j (K12 (C.ret (Outs.one rfl rfl ?_))))
   exact ⟨cI (hu.trans (Jn.orL_at hk2 hI (by rw[<-hu];exact c14))),rfl⟩
  refine C.skip (K9 (K8 (C.region (O.ad s8_1 rfl (O.mv (O.o (⟨k+1,⟨rfl,s3_1,s6_1,s7_1,rfl,?_⟩,by first|omega|(simp only[];omega)⟩)))))));refine ⟨by omega,λi hi2 hik=>?_⟩;rcases Nat.lt_or_eq_of_le (Nat.le_of_lt_succ hik) with h|rfl
  ·exact hI i hi2 h
  ·rw [<-hu];exact Decidable.of_not_not c14
 refine C.exit (K5 (K3 (C.sr λK13=>O.mv (O.j (K13 (C.ret (Outs.one rfl s3_1 ?_)))))))
 first
 |exact ⟨cI (hu.trans (Jn.orL_at hk2 hI (by rw[<-hu];exact c14))),rfl⟩
 |exact ⟨cI (Jn.orL_end (by omega) hI),rfl⟩
theorem mcmp_spec (a b:MarkT)(w:World):
 Ret prog 179 #[mv (a),mv (b)] w (λv w'=>v=.int .i64 (Jn.mcmp a b)∧Le w w'):=by
 obtain ⟨ie3,ti3,ts3,tb3,tz3⟩:=inf3;refine enT [mv (a),mv (b)] 34 func179 rfl rfl (C.sr λK1=>O.box (v:=mv (a)) rfl (λb2 w1 hb2 hz2 e1=>?_));have z1:=e1.size;have h2:=hz2.own;have hl2:=h2.lt;refine O.box (v:=mv (b)) rfl (λb3 w2 hb3 hz3 e2=>?_);have z2:=e2.size;have h3:=hz3.own;have hl3:=h3.lt;refine O.j (K1 (C.sq λK2=>C.sr λK3=>O.loadOA isAgg114 Z114 rfl (h2.L e2) (leB rfl) (O.loadOA isAgg114 Z114 rfl h3 (leB rfl) (O.eqlM (λa b=>run_eq_mark U114 (by decide) (by decide) (by decide) rfl rfl rfl U112 (by decide) (by decide) rfl rfl U3 U3 U3 U110 isAgg3 isAgg3 isAgg112 Z112 isAgg3 isAgg110 (by kernel_rfl) (by kernel_rfl) a b) (by kernel_rfl) rfl rfl (K3 (C.condD rfl (λc7=>?_) (λc7=>?_)))))))
 ·
  refine C.sr λK4=>O.j (K4 (C.ret (Outs.one rfl rfl ?_)))
  exact ⟨cI (by rw[c7,Jn.mcmp_self]),(Ext.T e1 e2)⟩
 refine C.skip (K2 (C.sd λK5 w3 e3 z3=>D.t 0 rfl leR (λ_ _ _ hN=>O.fa U114 rfl Z110 rfl (O.o hN)) ?_));have t0:=(h2.L e2).L e3;refine D.t 1 rfl leR (λ_ hw_ _ hN=>O.loadO isAgg110 rfl (t0.L hw_) rfl (O.o hN)) (D.t 2 rfl leR (λ_ _ _ hN=>O.fa U114 rfl Z110 rfl (O.o hN)) (D.t 3 rfl leR (λ_ hw_ _ hN=>O.loadO isAgg110 rfl ((h3.L e3).L hw_) rfl (O.o hN)) (D.t 5 rfl leR (λ_ _ _ hN=>O.fa U114 rfl Z112 rfl (O.o hN)) (D.t 6 rfl leR (λ_ _ _ hN=>O.fa U112 rfl Z3 rfl (O.o hN)) (D.t 7 rfl leR (λ_ hw_ _ hN=>O.loadO isAgg3 rfl (t0.L hw_) rfl (O.o hN)) ?_)))));refine D.t 8 rfl leR (λ_ _ _ hN=>O.fa U114 rfl Z112 rfl (O.o hN)) (D.t 9 rfl leR (λ_ _ _ hN=>O.fa U112 rfl Z3 rfl (O.o hN)) (D.t 10 rfl leR (λ_ hw_ _ hN=>O.loadO isAgg3 rfl ((h3.L e3).L hw_) rfl (O.o hN)) (D.t 12 rfl leR (λ_ _ _ hN=>O.fa U114 rfl Z112 rfl (O.o hN)) (D.t 13 rfl leR (λ_ _ _ hN=>O.fa U112 rfl Z3 rfl (O.o hN)) (D.t 14 rfl leR (λ_ hw_ _ hN=>O.loadO isAgg3 rfl (t0.L hw_) rfl (O.o hN)) ?_)))));refine D.t 15 rfl leR (λ_ _ _ hN=>O.fa U114 rfl Z112 rfl (O.o hN)) (D.t 16 rfl leR (λ_ _ _ hN=>O.fa U112 rfl Z3 rfl (O.o hN)) (D.t 17 rfl leR (λ_ hw_ _ hN=>O.loadO isAgg3 rfl ((h3.L e3).L hw_) rfl (O.o hN)) (D.t 19 rfl leR (λ_ _ _ hN=>O.fa U114 rfl Z3 rfl (O.o hN)) (D.t 20 rfl leR (λ_ hw_ _ hN=>O.loadO isAgg3 rfl (t0.L hw_) rfl (O.o hN)) (D.t 21 rfl leR (λ_ _ _ hN=>O.fa U114 rfl Z3 rfl (O.o hN)) ?_)))));refine D.t 22 rfl leR (λ_ hw_ _ hN=>O.loadO isAgg3 rfl ((h3.L e3).L hw_) rfl (O.o hN)) (D.on 4 rfl rfl (O.call call232 (args2 rfl rfl) (ucmp_spec _ _ _) ?_));rintro v_12 w4 ⟨rfl,hw_⟩;replace hw_:=hw_.symm;subst hw_;refine O.o ⟨leR,D.on 11 rfl rfl (O.call call182 (args2 rfl rfl) (icmp_spec _ _ _) ?_)⟩;rintro v_19 w4 ⟨rfl,hw_⟩;replace hw_:=hw_.symm;subst hw_;refine O.o ⟨leR,D.on 18 rfl rfl (O.call call182 (args2 rfl rfl) (icmp_spec _ _ _) ?_)⟩;rintro v_26 w4 ⟨rfl,hw_⟩;replace hw_:=hw_.symm;subst hw_;refine O.o ⟨leR,D.on 23 rfl rfl (O.call call182 (args2 rfl rfl) (icmp_spec _ _ _) ?_)⟩;rintro v_31 w4 ⟨rfl,hw_⟩;replace hw_:=hw_.symm;subst hw_;refine O.o ⟨leR,D.on 24 rfl rfl (O.litn [.int .i64 (Jn.ucmp a.2.2 b.2.2),.int .i64 (Dt.icmp a.1.1 b.1.1),.int .i64 (Dt.icmp a.1.2 b.1.2),.int .i64 (Dt.icmp a.2.1 b.2.1)] U275 ti3 ts3 tz3 rfl (by decide) (by decide) rfl (by simp[Value.oneCell']) (λb32 w4 hb32 hz32 e4=>?_))⟩;have z4:=e4.size;have h32:=hz32.own;have hl32:=h32.lt;refine O.o ⟨e4,?_⟩;have h1032:Sl Dt.intF.enc w4 (λk=>k=b32) (.slice (some ⟨b32,0,none⟩) 4 4) [Jn.ucmp a.2.2 b.2.2,Dt.icmp a.1.1 b.1.1,Dt.icmp a.1.2 b.1.2,Dt.icmp a.2.1 b.2.1]:=Sl.of_own (G:=Dt.intF) h32 rfl (Nat.le_refl _) (by unfold maxLen;omega) (by simp[Dt.intF]);refine D.on 25 rfl rfl (O.call call181 (args1 rfl) (corL_spec _ _ _ _ h1032) ?_);rintro v_33 w5 ⟨rfl,hw_⟩;replace hw_:=hw_.symm;subst hw_;refine O.o ⟨e4,D.as 26 rfl e4 (K5 (C.ret (Outs.one rfl rfl ?_)))⟩
 first
 |exact ⟨cI (by rw[c7,Jn.mcmp_self]),(Ext.T (Ext.T (Ext.T e1 e2) e3) e4)⟩
 |exact ⟨cI (Jn.mcmp_or a b).symm,(Ext.T (Ext.T (Ext.T e1 e2) e3) e4)⟩
theorem stay1_spec (m:MarkT)(bc:Nat)(z:MarkT)(w:World)(ho:Own w bc 114 [.int .i64 z.1.1,.int .i64 z.1.2,.int .i64 z.2.1,.int .u64 (z.2.2.toNat:Int)]):
 Ret prog 178 #[mv (m),.pointer (some ⟨bc,0,none⟩)] w (λv w'=>v=.bool (Jn.sameD z m)∧Le w w'):=by
 refine enT [mv (m),.pointer (some ⟨bc,0,none⟩)] 9 func178 rfl rfl (C.sr λK1=>O.box (v:=mv (m)) rfl (λb2 w1 hb2 hz2 e1=>?_));have z1:=e1.size;have h2:=hz2.own;have hl2:=h2.lt;refine O.j (K1 (C.sr λK2=>O.fa U114 rfl Z112 rfl (O.loadOA isAgg112 Z112 rfl h2 (leB rfl) (O.fa U114 rfl Z112 rfl (O.loadOA isAgg112 Z112 rfl (ho.L e1) (leB rfl) (O.eqlP U112 (by decide) (by decide) rfl rfl U3 U3 isAgg3 isAgg3 (by kernel_rfl) (by kernel_rfl) rfl rfl (O.j (K2 (C.ret (Outs.one rfl rfl ?_))))))))));exact ⟨cB (decide_eq_decide.2 Iff.rfl),e1⟩
theorem pred_stay (bc:Nat)(z:MarkT)(M:Nat->Prop)(w:World)(ho:Own w bc 114 [.int .i64 z.1.1,.int .i64 z.1.2,.int .i64 z.2.1,.int .u64 (z.2.2.toNat:Int)])(hM:¬M bc):Pred prog M w (.func (.func 178) #[] #[.pointer (some ⟨bc,0,none⟩)]) mv (Jn.sameD z):=⟨178,[.pointer (some ⟨bc,0,none⟩)],rfl,call178,λm w' e=>stay1_spec m bc z w' (ho.kM e hM)⟩
def iv (r:List UInt8×Raw):Value:=.agg #[str r.1,slv r.2]
theorem cloneM_spec (v0:Value)(l:List (MarkT))(F:Nat->Prop)(w:World)(hl:Sl markF.enc w F v0 l)(hn:l.length<=1000000000000):
 Ret prog 185 #[v0] w (λv w'=>Le w w'∧OwnF markF 114 w.heap.size w' v l):=by
 have hle:=hl.le;obtain ⟨ie114,ti114,ts114,tb114,tz114⟩:=inf114;refine enT [v0] 8 func185 rfl rfl (C.sr λK1=>O.j (K1 (C.sq λK2=>C.sr λK3=>O.mv (O.eqlNilS U115 rfl hl (K3 (C.cond rfl (λc4=>?_) (λc4=>?_)))))))
 ·
  refine C.sr λK4=>O.j (K4 (C.ret (Outs.one rfl rfl ?_)))
  (obtain rfl:=isNilS_nil hl c4
   exact ⟨leR,OwnF.nil _ _ _ _⟩)
 refine C.skip (K2 (C.sr λK5=>O.lit0 U115 ti114 (λb5 w1 hb5 hz5 e1=>?_)));have z1:=e1.size;have hl5:=hz5.own.lt;have h1005:OwnF markF 114 w.heap.size w1 _ []:=OwnF.lit0 hz5 hb5;refine O.mv (O.appF (G:=markF) U115 ti114 tz114 ts114 rfl rfl rfl h1005 (hl.L e1) (by rw[tb114];simp;omega) (by unfold maxLen;simp;omega) (by omega) (λv7 w2 h7 e2=>?_));have z2:=e2.size;have h7s:=h7.sl;refine O.j (K5 (C.ret (Outs.one rfl rfl ?_)))
 first
 |(obtain rfl:=isNilS_nil hl c4
   exact ⟨(Ext.new e1 e2 (by intro i hi h;have:=h1005.bk_ge i h;omega)),OwnF.nil _ _ _ _⟩)
 |exact ⟨(Ext.new e1 e2 (by intro i hi h;have:=h1005.bk_ge i h;omega)),h7⟩
theorem cloneT_spec (v0:Value)(l:List (List UInt8×Raw))(F:Nat->Prop)(w:World)(hl:Sl itemF.enc w F v0 l)(hn:l.length<=1000000000000):
 Ret prog 184 #[v0] w (λv w'=>Le w w'∧OwnF itemF 117 w.heap.size w' v l):=by
 have hle:=hl.le;obtain ⟨ie117,ti117,ts117,tb117,tz117⟩:=inf117;refine enT [v0] 8 func184 rfl rfl (C.sr λK1=>O.j (K1 (C.sq λK2=>C.sr λK3=>O.mv (O.eqlNilS U45 rfl hl (K3 (C.cond rfl (λc4=>?_) (λc4=>?_)))))))
 ·
  refine C.sr λK4=>O.j (K4 (C.ret (Outs.one rfl rfl ?_)))
  (obtain rfl:=isNilS_nil hl c4
   exact ⟨leR,OwnF.nil _ _ _ _⟩)
 refine C.skip (K2 (C.sr λK5=>O.lit0 U45 ti117 (λb5 w1 hb5 hz5 e1=>?_)));have z1:=e1.size;have hl5:=hz5.own.lt;have h1005:OwnF itemF 117 w.heap.size w1 _ []:=OwnF.lit0 hz5 hb5;refine O.mv (O.appF (G:=itemF) U45 ti117 tz117 ts117 rfl rfl rfl h1005 (hl.L e1) (by rw[tb117];simp;omega) (by unfold maxLen;simp;omega) (by omega) (λv7 w2 h7 e2=>?_));have z2:=e2.size;have h7s:=h7.sl;refine O.j (K5 (C.ret (Outs.one rfl rfl ?_)))
 first
 |(obtain rfl:=isNilS_nil hl c4
   exact ⟨(Ext.new e1 e2 (by intro i hi h;have:=h1005.bk_ge i h;omega)),OwnF.nil _ _ _ _⟩)
 |exact ⟨(Ext.new e1 e2 (by intro i hi h;have:=h1005.bk_ge i h;omega)),h7⟩
theorem stay_spec (v0:Value)(l:List MarkT)(vo:Value)(o:List MarkT)(v1 v2:Value)(x:Cn.Ctx)(F:Nat->Prop)(w:World)(hl:Sl markF.enc w F v0 l)(hq:Sl markF.enc w F vo o)(hv:Sl Dt.dotF.enc w F v1 x.1)(hc:Sl Dt.dotF.enc w F v2 x.2)(hn:l.length<=1000000):
 Ret prog 116 #[v0,vo,.agg #[v1,v2]] w (λv w'=>Le w w'∧OwnF markF 114 w.heap.size w' v (Jn.stay l o x)):=by
 have hle:=hl.le;have hqe:=hq.le;obtain ⟨ie114,ti114,ts114,tb114,tz114⟩:=inf114;refine enT [v0,vo,.agg #[v1,v2]] 48 func116 rfl rfl (C.sr λK1=>O.box (v:=.agg #[v1,v2]) rfl (λb5 w1 hb5 hz5 e1=>?_));have z1:=e1.size;have h5:=hz5.own;have hl5:=h5.lt;refine O.j (K1 (C.sr λK2=>O.j (K2 (C.sq λK3=>C.sr λK4=>O.mv (O.len U115 rfl (hl.L e1) (O.mv (K4 (C.bl λK5=>C.loop0 (σ:=Nat×Value) (λf0 w0 ⟨k,ov⟩ f wz=>f 7=ov∧f 13=.int .i64 (k)∧f 1=f0 1∧f 5=f0 5∧f 6=f0 6∧f 11=f0 11∧f 12=f0 12∧Le w wz∧Own wz b5 44 [v1,v2]∧OwnF markF 114 (b5+1) wz ov (Jn.stay (l.take k) o x)∧k<=l.length) (λ⟨k,ov⟩=>l.length-k) (0,.slice none 0 0) ?_ ?_))))))))
 ·
  refine ⟨rfl,rfl,rfl,rfl,rfl,rfl,rfl,e1,h5,(OwnF.nil _ _ _ _),?_⟩;exact Nat.zero_le _
 rintro ⟨k,ov⟩ f_1 w2 ⟨s7_1,s13_1,s1_1,s5_1,s6_1,s11_1,s12_1,e_1,r0_1,r1_1,hk⟩;have z_1:=e_1.size;have r1_1s:=r1_1.sl;have hl55:=(r0_1).lt;have hlk:(Jn.stay (l.take k) o x).length<=k:=by have h1:=List.length_filter_le (Jn.keeps o x) (l.take k);unfold Jn.stay;rw[List.length_take] at h1;omega
 refine C.sr λK6=>O.lssI s13_1 s12_1 (K6 (C.sq λK7=>C.condD rfl (λc14=>?_) (λc14=>?_)))
 ·
  have hk2:k<l.length:=by omega
  refine C.skip (K7 (C.sq λK8=>C.bl λK9=>C.sr λK10=>O.idx U115 Z114 rfl s11_1 (hl.L e_1) s13_1 (by omega) (λa15 h15=>O.loadG (G:=markF) isAgg114 Z114 rfl h15 ?_)));obtain ⟨u,hu⟩:∃u:MarkT,u=l[k]:=⟨_,rfl⟩
  refine O.cast (v':=mv u) (by rw[hu];rfl) (O.alloc zeroValue114 (λb9 w3 hb9 hz9 e3=>?_));have z3:=e3.size;have h9:=hz9.own;have hl9:=h9.lt;refine O.storeA (vs:=[.int .i64 u.1.1,.int .i64 u.1.2,.int .i64 u.2.1,.int .u64 (u.2.2.toNat:Int)]) Z114 rfl rfl rfl (by simp[Value.oneCell']) h9 (leB rfl) (λw4 hs4 e4 z4=>K10 (C.sr λK11=>O.mv (O.makeF (v1:=[]) rfl rfl ?_)));have t0:=Ext.T e_1 e3;refine O.call call177 (args2 s1_1 rfl) (indexM_spec _ _ _ _ (λ_=>False) _ _ (hq.L (Ext.nr t0 e4)) (pred_stay b9 u _ _ hs4 not_false)) ?_;rintro v_19 w5 ⟨rfl,e5⟩;have z5:=e5.size;refine O.j (K11 (C.sd λK12 w6 e6 z6=>D.mv 0 rfl leR (D.t 1 rfl leR (λ_ _ _ hN=>O.lssI rfl rfl (O.o hN)) (D.mv 2 rfl leR (D.splitD (x:=.tmp 22) rfl (λc22=>?_) (λc22=>?_))))))
  ·
   have t1:=((r0_1.L e3).kO e4).L e5;refine D.ty 3 rfl rfl rfl rfl (isT rfl c22) leR ⟨_,rfl⟩ (λ_ hw_ _ hN=>O.loadOA isAgg44 Z44 s5_1 ((t1.L e6).L hw_) (leB rfl) (O.o hN)) (D.ty 4 rfl rfl rfl rfl (isT rfl c22) leR ⟨_,rfl⟩ (λ_ hw_ _ hN=>O.fa U114 rfl Z112 rfl (O.o hN)) (D.ty 5 rfl rfl rfl rfl (isT rfl c22) leR ⟨_,rfl⟩ (λ_ hw_ _ hN=>O.loadOA isAgg112 Z112 rfl (((hs4.L e5).L e6).L hw_) (leB rfl) (O.o hN)) (D.oneYes (i:=6) rfl rfl (isT rfl c22) (by kernel_rfl) ?_)));have t2:=Ext.T (Ext.nr t0 e4) e5;refine O.call call151 (args2 rfl rfl) (ctxHas_spec v1 v2 x F u.1 _ (hv.L (Ext.T t2 e6)) (hc.L (Ext.T t2 e6))) ?_;rintro v_26 w7 ⟨rfl,e7⟩;have z7:=e7.size;refine O.o ⟨e7,D.ty 7 rfl rfl rfl rfl (isT rfl c22) e7 ⟨_,rfl⟩ (λ_ hw_ _ hN=>O.not rfl (O.o hN)) (D.tk 8 rfl rfl rfl rfl e7 pick_form (λ_ hw_ _ hN=>O.pickT (isT rfl c22) (O.o hN)) (D.mv 9 rfl e7 (D.split (x:=.tmp 29) rfl (λc29=>?_) (λc29=>?_))))⟩
   ·
    refine D.tn 10 rfl rfl e7 rfl (noB (isT' rfl c29) rfl) (D.tn 11 rfl rfl e7 rfl (noB (isT' rfl c29) rfl) (D.tn 12 rfl rfl e7 rfl (noB (isT' rfl c29) rfl) (D.tn 13 rfl rfl e7 rfl (noU rfl) (D.tn 14 rfl rfl e7 rfl (noU rfl) (D.tn 15 rfl rfl e7 rfl (noU rfl) (D.tn 16 rfl rfl e7 rfl (noU rfl) (D.tn 17 rfl rfl e7 rfl (noU rfl) (D.tn 18 rfl rfl e7 rfl (noU rfl) (D.tn 19 rfl rfl e7 rfl (noU rfl) (D.tn 20 rfl rfl e7 rfl (noB (isT' rfl c29) rfl) (D.tk 21 rfl rfl rfl rfl e7 pick_form (λ_ hw_ _ hN=>O.pickT (isT' rfl c29) (O.o hN)) (K12 (C.condT rfl (C.region (O.mv (O.loadOA isAgg114 Z114 rfl (((hs4.L e5).L e6).L e7) (leB rfl) ?_))))))))))))))));refine O.litG (G:=markF) [u] U115 ti114 ts114 tz114 rfl (by decide) (by decide) rfl (λb44 w8 hb44 hz44 e8=>?_);have z8:=e8.size;have h44:=hz44.own;have hq44:=Sl.litG (n:=1) h44 rfl (by unfold maxLen;omega);have t3:=(r1_1.L e3).kM e4 (λk hk h=>by have:=r1_1.bk_ge k hk;(try dsimp only at h);omega);have t4:=(t3.L e5).L e6;have t5:=(t4.L e7).L e8;refine O.appF (G:=markF) U115 ti114 tz114 ts114 rfl s7_1 rfl t5 hq44 (by rw[tb114];simp;omega) (by unfold maxLen;simp;omega) (by omega) (λv45 w9 h45 e9=>?_);have z9:=e9.size;have h45s:=h45.sl;refine O.j (O.o (K9 (K8 (C.region (O.ad s13_1 rfl (O.mv (O.o ?_)))))));refine ⟨(k+1,_),⟨rfl,rfl,s1_1,s5_1,s6_1,s11_1,s12_1,(Ext.new (Ext.T (Ext.T (Ext.T t2 e6) e7) e8) e9 (by intro i hi h;have:=t5.bk_ge i h;omega)),((((t1.L e6).L e7).L e8).kM e9 (by intro h;have:=t5.bk_ge _ h;omega)),(by
 unfold Jn.stay;rw[Jn.filter_take2 _ hk2,<-hu]
 first
 |(rw[Jn.keeps_no c22,c29,if_pos rfl];exact h45)
 |(rw[Jn.keeps_no c22,c29,if_neg Bool.false_ne_true,List.append_nil];exact h45)
 |(rw[hkp,decide_eq_true c41,if_pos rfl];exact h45)
 |(rw[hkp,decide_eq_false c41,if_neg Bool.false_ne_true,List.append_nil];exact h45)),?_⟩,by first|omega|(simp only[];omega)⟩
    omega
   refine D.ty 10 rfl rfl rfl rfl (isF' rfl c29) e7 ⟨pure _,rfl⟩ (λ_ hw_ _ hN=>O.mv (O.o hN)) (D.ty 11 rfl rfl rfl rfl (isF' rfl c29) e7 ⟨_,rfl⟩ (λ_ hw_ _ hN=>O.geqI rfl rfl (O.o hN)) (D.ty 12 rfl rfl rfl rfl (isF' rfl c29) e7 ⟨pure _,rfl⟩ (λ_ hw_ _ hN=>O.mv (O.o hN)) (D.splitD (x:=.tmp 32) rfl (λc32=>?_) (λc32=>?_))))
   ·
    exfalso;omega
   refine D.tn 13 rfl rfl e7 rfl (noB (isF rfl c32) rfl) (D.tn 14 rfl rfl e7 rfl (noB (isF rfl c32) rfl) (D.tn 15 rfl rfl e7 rfl (noB (isF rfl c32) rfl) (D.tn 16 rfl rfl e7 rfl (noB (isF rfl c32) rfl) (D.tn 17 rfl rfl e7 rfl (noB (isF rfl c32) rfl) (D.tn 18 rfl rfl e7 rfl (noB (isF rfl c32) rfl) (D.tn 19 rfl rfl e7 rfl (noB (isF rfl c32) rfl) (D.ty 20 rfl rfl rfl rfl (isF' rfl c29) e7 pick_form (λ_ hw_ _ hN=>O.pickF (isF rfl c32) (O.o hN)) (D.tk 21 rfl rfl rfl rfl e7 pick_form (λ_ hw_ _ hN=>O.pickF (isF' rfl c29) (O.o hN)) (K12 (C.condF rfl (C.skip (K9 (K8 (C.region (O.ad s13_1 rfl (O.mv (O.o ?_)))))))))))))))));refine ⟨(k+1,_),⟨s7_1,rfl,s1_1,s5_1,s6_1,s11_1,s12_1,(Ext.T (Ext.T (Ext.T (Ext.nr (Ext.T e_1 e3) e4) e5) e6) e7),(((((r0_1.L e3).kO e4).L e5).L e6).L e7),(by
 unfold Jn.stay;rw[Jn.filter_take2 _ hk2,<-hu]
 first
 |(rw[Jn.keeps_no c22,c29,if_pos rfl];exact (((((r1_1.L e3).kM e4 (λk hk h=>by have:=r1_1.bk_ge k hk;(try dsimp only at h);omega)).L e5).L e6).L e7))
 |(rw[Jn.keeps_no c22,c29,if_neg Bool.false_ne_true,List.append_nil];exact (((((r1_1.L e3).kM e4 (λk hk h=>by have:=r1_1.bk_ge k hk;(try dsimp only at h);omega)).L e5).L e6).L e7))
 |(rw[hkp,decide_eq_true c41,if_pos rfl];exact (((((r1_1.L e3).kM e4 (λk hk h=>by have:=r1_1.bk_ge k hk;(try dsimp only at h);omega)).L e5).L e6).L e7))
 |(rw[hkp,decide_eq_false c41,if_neg Bool.false_ne_true,List.append_nil];exact (((((r1_1.L e3).kM e4 (λk hk h=>by have:=r1_1.bk_ge k hk;(try dsimp only at h);omega)).L e5).L e6).L e7))),?_⟩,by first|omega|(simp only[];omega)⟩
   omega
  obtain ⟨hjo,hkp⟩:=Jn.keeps_yes2 (x:=x) (m:=u) (o:=o) c22;refine D.tn 3 rfl rfl leR rfl (noB (isF rfl c22) rfl) (D.tn 4 rfl rfl leR rfl (noB (isF rfl c22) rfl) (D.tn 5 rfl rfl leR rfl (noB (isF rfl c22) rfl) (D.tn 6 rfl rfl leR rfl (noB (isF rfl c22) rfl) (D.tn 7 rfl rfl leR rfl (noB (isF rfl c22) rfl) (D.tk 8 rfl rfl rfl rfl leR pick_form (λ_ hw_ _ hN=>O.pickF (isF rfl c22) (O.o hN)) (D.mv 9 rfl leR (D.ty 10 rfl rfl rfl rfl rfl leR ⟨pure _,rfl⟩ (λ_ hw_ _ hN=>O.mv (O.o hN)) (D.ty 11 rfl rfl rfl rfl rfl leR ⟨_,rfl⟩ (λ_ hw_ _ hN=>O.geqI rfl rfl (O.o hN)) ?_))))))));refine D.ty 12 rfl rfl rfl rfl rfl leR ⟨pure _,rfl⟩ (λ_ hw_ _ hN=>O.mv (O.o hN)) (D.splitD (x:=.tmp 32) rfl (λc32=>?_) (λc32=>?_))
  ·
   refine D.ty 13 rfl rfl rfl rfl (isT rfl c32) leR ⟨_,rfl⟩ (λ_ hw_ _ hN=>O.loadOA isAgg114 Z114 rfl (((hs4.L e5).L e6).L hw_) (leB rfl) (O.o hN)) (D.ty 14 rfl rfl rfl rfl (isT rfl c32) leR ⟨pure _,rfl⟩ (λ_ hw_ _ hN=>O.mv (O.o hN)) (D.ty 15 rfl rfl rfl rfl (isT rfl c32) leR ⟨pure _,rfl⟩ (λ_ hw_ _ hN=>O.mv (O.o hN)) ?_));have t6:=Ext.nr (Ext.T e_1 e3) e4;have t7:=Ext.T (Ext.T t6 e5) e6;obtain ⟨a36,h36,hr36⟩:=Sl.at (i:=Cn.idx (Jn.sameD u) o) (P:=prog) U115 Z114 rfl (hq.L t7) (by omega);refine D.ty 16 rfl rfl rfl rfl (isT rfl c32) leR ⟨_,rfl⟩ (λ_ hw_ _ hN=>O.idxR s1_1 rfl hr36 (O.o hN)) (D.ty 17 rfl rfl rfl rfl (isT rfl c32) leR ⟨_,rfl⟩ (λ_ hw_ _ hN=>O.loadG (G:=markF) isAgg114 Z114 rfl (h36.L hw_) (O.o hN)) (D.oneYes (i:=18) rfl rfl (isT rfl c32) (by kernel_rfl) (O.call call179 (args2 rfl rfl) (mcmp_spec u _ _) ?_)));rintro v_38 w10 ⟨rfl,e10⟩;have z10:=e10.size;refine O.o ⟨e10,D.ty 19 rfl rfl rfl rfl (isT rfl c32) e10 ⟨_,rfl⟩ (λ_ hw_ _ hN=>O.geqI rfl rfl (O.o hN)) (D.ty 20 rfl rfl rfl rfl rfl e10 pick_form (λ_ hw_ _ hN=>O.pickT (isT rfl c32) (O.o hN)) (D.tk 21 rfl rfl rfl rfl e10 pick_form (λ_ hw_ _ hN=>O.pickF rfl (O.o hN)) (K12 (C.condD rfl (λc41=>?_) (λc41=>?_)))))⟩
   ·
    refine C.region (O.mv (O.loadOA isAgg114 Z114 rfl (((hs4.L e5).L e6).L e10) (leB rfl) (O.litG (G:=markF) [u] U115 ti114 ts114 tz114 rfl (by decide) (by decide) rfl (λb44 w11 hb44 hz44 e11=>?_))));have z11:=e11.size;have h44:=hz44.own;have hq44:=Sl.litG (n:=1) h44 rfl (by unfold maxLen;omega);have t8:=(r1_1.L e3).kM e4 (λk hk h=>by have:=r1_1.bk_ge k hk;(try dsimp only at h);omega);have t9:=(t8.L e5).L e6;have t10:=(t9.L e10).L e11;refine O.appF (G:=markF) U115 ti114 tz114 ts114 rfl s7_1 rfl t10 hq44 (by rw[tb114];simp;omega) (by unfold maxLen;simp;omega) (by omega) (λv45 w12 h45 e12=>?_);have z12:=e12.size;have h45s:=h45.sl;refine O.j (O.o (K9 (K8 (C.region (O.ad s13_1 rfl (O.mv (O.o ?_)))))));refine ⟨(k+1,_),⟨rfl,rfl,s1_1,s5_1,s6_1,s11_1,s12_1,(Ext.new (Ext.T (Ext.T t7 e10) e11) e12 (by intro i hi h;have:=t10.bk_ge i h;omega)),(((((((r0_1.L e3).kO e4).L e5).L e6).L e10).L e11).kM e12 (by intro h;have:=t10.bk_ge _ h;omega)),(by
 unfold Jn.stay;rw[Jn.filter_take2 _ hk2,<-hu]
 first
 |(rw[Jn.keeps_no c22,c29,if_pos rfl];exact h45)
 |(rw[Jn.keeps_no c22,c29,if_neg Bool.false_ne_true,List.append_nil];exact h45)
 |(rw[hkp,decide_eq_true c41,if_pos rfl];exact h45)
 |(rw[hkp,decide_eq_false c41,if_neg Bool.false_ne_true,List.append_nil];exact h45)),?_⟩,by first|omega|(simp only[];omega)⟩
    omega
   refine C.skip (K9 (K8 (C.region (O.ad s13_1 rfl (O.mv (O.o ?_))))));refine ⟨(k+1,_),⟨s7_1,rfl,s1_1,s5_1,s6_1,s11_1,s12_1,(Ext.T (Ext.T (Ext.T (Ext.nr (Ext.T e_1 e3) e4) e5) e6) e10),(((((r0_1.L e3).kO e4).L e5).L e6).L e10),(by
 unfold Jn.stay;rw[Jn.filter_take2 _ hk2,<-hu]
 first
 |(rw[Jn.keeps_no c22,c29,if_pos rfl];exact (((((r1_1.L e3).kM e4 (λk hk h=>by have:=r1_1.bk_ge k hk;(try dsimp only at h);omega)).L e5).L e6).L e10))
 |(rw[Jn.keeps_no c22,c29,if_neg Bool.false_ne_true,List.append_nil];exact (((((r1_1.L e3).kM e4 (λk hk h=>by have:=r1_1.bk_ge k hk;(try dsimp only at h);omega)).L e5).L e6).L e10))
 |(rw[hkp,decide_eq_true c41,if_pos rfl];exact (((((r1_1.L e3).kM e4 (λk hk h=>by have:=r1_1.bk_ge k hk;(try dsimp only at h);omega)).L e5).L e6).L e10))
 |(rw[hkp,decide_eq_false c41,if_neg Bool.false_ne_true,List.append_nil];exact (((((r1_1.L e3).kM e4 (λk hk h=>by have:=r1_1.bk_ge k hk;(try dsimp only at h);omega)).L e5).L e6).L e10))),?_⟩,by first|omega|(simp only[];omega)⟩
   omega
  exfalso;omega
 refine C.exit (K5 (K3 (C.sr λK13=>O.mv (O.j (K13 (C.ret (Outs.one rfl s7_1 ?_)))))));obtain rfl:k=l.length:=by omega
 rw[List.take_length] at r1_1;exact ⟨e_1,(r1_1).low (by omega)⟩
theorem index1_spec (r:List UInt8×Raw)(bc:Nat)(s:List UInt8)(w:World)(ho:Own w bc 9 [str s]):
 Ret prog 259 #[.agg #[str r.1,slv r.2],.pointer (some ⟨bc,0,none⟩)] w (λv w'=>v=.bool (Jn.nameIs s r)∧Le w w'):=by
 refine enT [.agg #[str r.1,slv r.2],.pointer (some ⟨bc,0,none⟩)] 8 func259 rfl rfl (C.sr λK1=>O.box (v:=.agg #[str r.1,slv r.2]) rfl (λb2 w1 hb2 hz2 e1=>?_));have z1:=e1.size;have h2:=hz2.own;have hl2:=h2.lt;refine O.j (K1 (C.sr λK2=>O.fa U117 rfl Z9 rfl (O.loadO isAgg9 rfl h2 rfl (O.loadO isAgg9 rfl (ho.L e1) rfl (O.eqlS rfl rfl (O.j (K2 (C.ret (Outs.one rfl rfl ?_)))))))));exact ⟨cB (decide_eq_decide.2 Iff.rfl),e1⟩
theorem pred_index (bc:Nat)(s:List UInt8)(M:Nat->Prop)(w:World)(ho:Own w bc 9 [str s])(hM:¬M bc):Pred prog M w (.func (.func 259) #[] #[.pointer (some ⟨bc,0,none⟩)]) iv (Jn.nameIs s):=⟨259,[.pointer (some ⟨bc,0,none⟩)],rfl,call259,λr w' e=>index1_spec r bc s w' (ho.kM e hM)⟩
theorem indexI_spec (v0 vf:Value)(l:List (List UInt8×Raw))(F M:Nat->Prop)(p:(List UInt8×Raw)->Bool)(w:World)(hl:Sl itemF.enc w F v0 l)(hp:Pred prog M w vf iv p):
 Ret prog 258 #[v0,vf] w (λv w'=>v=.int .i64 (Cn.idx p l)∧Le w w'):=by
 have hle:=hl.le;refine enT [v0,vf] 19 func258 rfl rfl (C.sr λK1=>O.j (K1 (C.sq λK2=>C.sr λK3=>O.mv (O.len U45 rfl hl (O.mv (K3 (C.bl λK4=>C.loop0 (σ:=Nat) (λf0 w0 k f wz=>f 8=.int .i64 (k)∧f 0=f0 0∧f 1=f0 1∧f 7=f0 7∧Le w wz∧k<=l.length∧∀i,∀h:i<l.length,i<k->p l[i]=false) (λk=>l.length-k) 0 ?_ ?_)))))))
 ·
  refine ⟨rfl,rfl,rfl,rfl,leR,?_⟩;exact ⟨Nat.zero_le _,λi h k=>absurd k (Nat.not_lt_zero _)⟩
 rintro k f_1 w1 ⟨s8_1,s0_1,s1_1,s7_1,e_1,⟨hk,hI⟩⟩;have z_1:=e_1.size;refine C.sr λK5=>O.lssI s8_1 s7_1 (K5 (C.sq λK6=>C.condD rfl (λc9=>?_) (λc9=>?_)))
 ·
  have hk2:k<l.length:=by omega
  refine C.skip (K6 (C.sq λK7=>C.bl λK8=>C.sr λK9=>O.mv (O.j (K9 (C.sr λK10=>O.mv (O.mv (O.mv (O.idx U45 Z117 rfl s0_1 (hl.L e_1) s8_1 (by omega) (λa14 h14=>O.loadG (G:=itemF) isAgg117 Z117 rfl h14 (O.callP (_) (hp.L e_1) s1_1 rfl (λw2 e2=>?_)))))))))));have z2:=e2.size;refine K10 (C.cond rfl (λc16=>?_) (λc16=>?_))
  ·
   simp only[Int.toNat_natCast] at c16;refine C.sr λK11=>O.mv (O.j (K11 (C.ret (Outs.one rfl s8_1 ?_))))
   exact ⟨cI (Cn.idx_yes hk2 c16 hI).symm,(Ext.T e_1 e2)⟩
  simp only[Int.toNat_natCast] at c16;refine C.skip (K8 (K7 (C.region (O.ad s8_1 rfl (O.mv (O.o (⟨k+1,⟨rfl,s0_1,s1_1,s7_1,(Ext.T e_1 e2),?_⟩,by first|omega|(simp only[];omega)⟩)))))));refine ⟨by omega,λi hi hik=>?_⟩;rcases Nat.lt_or_eq_of_le (Nat.le_of_lt_succ hik) with h|rfl
  ·exact hI i hi h
  ·exact c16
 refine C.exit (K4 (K2 (C.sr λK12=>O.j (K12 (C.ret (Outs.one rfl rfl ?_))))))
 first
 |exact ⟨cI (Cn.idx_yes hk2 c16 hI).symm,e_1⟩
 |exact ⟨cI (Cn.idx_no λi hi=>hI i hi (by omega)).symm,e_1⟩
theorem iindex_spec (v0:Value)(l:List (List UInt8×Raw))(s:List UInt8)(F:Nat->Prop)(w:World)(hl:Sl itemF.enc w F v0 l):
 Ret prog 231 #[v0,str (s)] w (λv w'=>v=.int .i64 (Cn.idx (Jn.nameIs s) l)∧Le w w'):=by
 refine enT [v0,str (s)] 8 func231 rfl rfl (C.sr λK1=>O.box (v:=str (s)) rfl (λb3 w1 hb3 hz3 e1=>?_));have z1:=e1.size;have h3:=hz3.own;have hl3:=h3.lt;refine O.j (K1 (C.sr λK2=>O.mv (O.makeF (v1:=[]) rfl rfl (O.call call258 (args2 rfl rfl) (indexI_spec _ _ _ _ (λ_=>False) _ _ (hl.L e1) (pred_index b3 s _ _ h3 not_false)) ?_))));rintro v_7 w2 ⟨rfl,e2⟩;have z2:=e2.size;refine O.j (K2 (C.ret (Outs.one rfl rfl ?_)));exact ⟨rfl,(Ext.T e1 e2)⟩
theorem icopy_spec (v0:Value)(l:List ItemT)(raw:List (List UInt8×Raw))(F:Nat->Prop)(w:World)(hl:Sl itemF.enc w F v0 raw)(hit:Items w F raw l)(hn:l.length<=1000000)(hS:∀x∈l,x.2.length<=1000000):
 Ret prog 124 #[v0] w (λv w'=>Le w w'∧SlI 117 114 w' (λj=>w.heap.size<=j∧j<w'.heap.size) v l):=by
 have hle:=hl.le;have hrl:=hit.1;refine enT [v0] 24 func124 rfl rfl (C.sr λK1=>O.j (K1 (C.sr λK2=>O.mv (O.call call184 (args1 rfl) (cloneT_spec _ raw _ _ hl (by omega)) ?_))));rintro v_7 w1 ⟨e1,h7⟩;have z1:=e1.size;obtain ⟨n7,hn7⟩:∃n,n=w1.heap.size:=⟨_,rfl⟩
 have hb7:∀j,bk v_7 j->w.heap.size<=j∧j<n7:=λj hj=>by have:=h7.bk_ge j hj;omega
 have hk07:ItemsK 114 w1 (λj=>n7<=j∧j<w1.heap.size) 0 raw l:=((hit.L e1)).k0;have h7s:=h7.sl;refine O.j (K2 (C.sq λK3=>C.sr λK4=>O.mv (O.len U45 rfl (hl.L e1) (O.mv (K4 (C.bl λK5=>C.loop0 (σ:=Nat×List (List UInt8×Raw)) (λf0 w0 ⟨k,cur⟩ f wz=>f 10=.int .i64 (k)∧f 2=f0 2∧f 3=f0 3∧f 8=f0 8∧f 9=f0 9∧Le w wz∧OwnF itemF 117 w.heap.size wz v_7 cur∧ItemsK 114 wz (λj=>n7<=j∧j<wz.heap.size) k cur l∧k<=l.length∧n7<=wz.heap.size) (λ⟨k,cur⟩=>l.length-k) (0,raw) ?_ ?_))))))
 ·
  refine ⟨rfl,rfl,rfl,rfl,rfl,e1,h7,hk07,?_⟩;exact ⟨Nat.zero_le _,by omega⟩
 rintro ⟨k,cur⟩ f_1 w2 ⟨s10_1,s2_1,s3_1,s8_1,s9_1,e_1,r0_1,r1_1,⟨hk,hnz⟩⟩;have z_1:=e_1.size;have r0_1s:=r0_1.sl;have hcl:=(r1_1).1;refine C.sr λK6=>O.lssI s10_1 s9_1 (K6 (C.sq λK7=>C.condD rfl (λc11=>?_) (λc11=>?_)))
 ·
  have hk2:k<raw.length:=by omega
  have hk3:k<l.length:=by omega
  refine C.skip (K7 (C.sq λK8=>C.bl λK9=>C.sr λK10=>O.mv (O.idx U45 Z117 rfl s8_1 (hl.L e_1) s10_1 (by omega) (λa13 h13=>O.loadG (G:=itemF) isAgg117 Z117 rfl h13 ?_))));obtain ⟨u,hu⟩:∃u:List UInt8×Raw,u=raw[k]:=⟨_,rfl⟩
  refine O.cast (v':=.agg #[str u.1,slv u.2]) (by rw[hu];rfl) (O.alloc zeroValue117 (λb5 w3 hb5 hz5 e3=>?_));have z3:=e3.size;have h5:=hz5.own;have hl5:=h5.lt;refine O.j (O.storeA (vs:=[str u.1,slv u.2]) Z117 rfl rfl rfl (ones2 rfl) h5 (leB rfl) (λw4 hs4 e4 z4=>K10 (C.region (O.mv (O.mv (O.fa U117 rfl Z115 rfl (O.loadO isAgg115 rfl hs4 rfl ?_)))))));have t0:=Ext.nr (Ext.T e_1 e3) e4;have hm18:Sl markF.enc w4 F (slv u.2) l[k].2:=by rw[hu];exact (((hit.L t0)).2 k hk2 hk3).2
  refine O.call call185 (args1 rfl) (cloneM_spec (slv u.2) (l[k].2) F _ hm18 (by have:=hS _ (List.getElem_mem hk3);omega)) ?_;rintro v_19 w5 ⟨e5,h19⟩;have z5:=e5.size;have h19b:=h19.bk_ge;have h19s:=h19.sl;obtain ⟨s19,rfl⟩:=h19s.slv;have t1:=(r0_1.L e3).kM e4 (λk hk h=>by have:=r0_1.bk_ge k hk;(try dsimp only at h);omega);obtain ⟨g20,cap20,hv20⟩:=OwnF.ptr (t1.L e5) (by omega);have ho20:=(t1.L e5)
  rw[hv20] at ho20;refine O.idxO U45 Z117 (Eq.trans s3_1 hv20) s10_1 (by omega) (O.fa U117 rfl Z115 rfl (O.storeC (G:=itemF) (i:=k) (off:=1) ((cur[k].1,s19)) (by simp[itemF]) Z115 rfl rfl rfl ho20 (by omega) (by decide) rfl (λw6 hs6 e6 z6=>?_)));rw[<-hv20] at hs6;refine O.o (K9 (K8 (C.region (O.ad s10_1 rfl (O.mv (O.o (⟨(k+1,_),⟨rfl,s2_1,s3_1,s8_1,s9_1,(Ext.new (Ext.T t0 e5) e6 (by intro i hi h;have h0:i=g20:=h;have q1:=ho20.bk_ge g20 rfl;omega)),hs6,((((((r1_1.L e3).keepA e4).L e5).kM e6 (by intro j hj h;have h0:j=g20:=h;have q1:=hb7 g20 (by rw[hv20];rfl);(try dsimp only at hj);omega))).weakA).set (by omega) hk3 (((h19.kM e6 (by intro j hj h;have h0:j=g20:=h;have q1:=hb7 g20 (by rw[hv20];rfl);have q2:=h19b j hj;omega))).fre λj hj=>by have q2:=h19b j hj;(try dsimp only);omega),?_⟩,by first|omega|(simp only[];omega)⟩)))))));exact ⟨by omega,by omega⟩
 refine C.exit (K5 (K3 (C.sr λK11=>O.mv (O.j (K11 (C.ret (Outs.one rfl s3_1 ?_)))))));exact ⟨e_1,cur,(r0_1).fre (λj hj=>by have q1:=(r0_1).bk_ge j hj;(try dsimp only);omega),((r1_1).all (by omega)).weakA⟩
theorem itcmp_spec (a b:MarkT)(w:World):
 Ret prog 118 #[mv (a),mv (b)] w (λv w'=>v=.int .i64 (Dt.cmp a.1 b.1)∧Le w w'∧w.drawn<=w'.drawn):=by
 refine enT [mv (a),mv (b)] 10 func118 rfl rfl (C.sr λK1=>O.boxD (v:=mv (a)) rfl (λb2 w1 hb2 hz2 e1 d1=>?_));have z1:=e1.size;have h2:=hz2.own;have hl2:=h2.lt;refine O.boxD (v:=mv (b)) rfl (λb3 w2 hb3 hz3 e2 d2=>?_);have z2:=e2.size;have h3:=hz3.own;have hl3:=h3.lt;refine O.j (K1 (C.sr λK2=>O.fa U114 rfl Z112 rfl (O.loadOA isAgg112 Z112 rfl (h2.L e2) (leB rfl) (O.fa U114 rfl Z112 rfl (O.loadOA isAgg112 Z112 rfl h3 (leB rfl) (O.call call119 (args2 rfl rfl) (cmp_spec a.1 b.1 _) ?_))))));rintro v_9 w3 ⟨rfl,e3,_⟩;have z3:=e3.size;refine O.j (K2 (C.ret (Outs.one rfl rfl ?_)));exact ⟨rfl,(Ext.T (Ext.T e1 e2) e3),by omega⟩
theorem ins0M_spec (w:World):
 Ret prog 233 #[.slice none 0 0,.int .i64 (0),.int .i64 (0),.func (.func 118) #[] #[]] w (λv w'=>v=.tuple #[]∧w'=w):=by
 refine enT [.slice none 0 0,.int .i64 (0),.int .i64 (0),.func (.func 118) #[] #[]] 53 func233 rfl rfl (C.sr λK1=>O.mv (O.ad rfl rfl (O.cast (v':=.int .i64 (1)) rfl (O.j (K1 (C.bl λK2=>C.loop0 (σ:=Nat) (λf0 w0 z f w=>f 8=.int .i64 (1)∧f 0=f0 0∧f 1=f0 1∧f 2=f0 2∧f 3=f0 3∧w=w0) (λz=>z) 0 ?_ ?_))))))
 ·
  exact ⟨rfl,rfl,rfl,rfl,rfl,rfl⟩
 rintro z f_1 wx ⟨s8_1,s0_1,s1_1,s2_1,s3_1,rfl⟩;refine C.sq λK3=>C.sr λK4=>O.mv (O.mv (O.lssI s8_1 s2_1 (O.cast (v':=.bool false) rfl (K4 (C.condF rfl (C.exit (K2 (Outs.none rfl ?_))))))))
 exact ⟨rfl,rfl⟩
theorem pdq0M_spec (lim:Int)(w:World):
 Ret prog 180 #[.slice none 0 0,.int .i64 (0),.int .i64 (0),.int .i64 (lim),.func (.func 118) #[] #[]] w (λv w'=>v=.tuple #[]∧w'=w):=by
 refine enT [.slice none 0 0,.int .i64 (0),.int .i64 (0),.int .i64 (lim),.func (.func 118) #[] #[]] 148 func180 rfl rfl (C.sr λK1=>O.j (K1 (C.sr λK2=>O.j (K2 (C.bl λK3=>C.loop0 (σ:=Nat) (λf0 w0 z f w=>f 1=.int .i64 (0)∧f 2=.int .i64 (0)∧f 10=.bool (true)∧f 11=.bool (true)∧f 0=f0 0∧f 4=f0 4∧w=w0) (λz=>z) 0 ?_ ?_)))))
 ·
  exact ⟨rfl,rfl,rfl,rfl,rfl,rfl,rfl⟩
 rintro z f_1 wx ⟨s1_1,s2_1,s10_1,s11_1,s0_1,s4_1,rfl⟩;refine C.bl λK4=>C.sr λK5=>O.mv (O.mv (O.sb s2_1 s1_1 (O.cast (v':=.int .i64 (0)) rfl (O.j (K5 (C.sq λK6=>C.sr λK7=>O.mv (O.leqI rfl rfl (O.cast (v':=.bool true) rfl (K7 (C.condT rfl (C.sr λK8=>O.mv (O.mv (O.mv (O.mv (O.call call233 (args4 s0_1 s1_1 s2_1 s4_1) (ins0M_spec _) ?_)))))))))))))))
 rintro v_30 w1 ⟨rfl,hw_⟩;replace hw_:=hw_.symm;subst hw_;refine K8 (C.ret (Outs.none rfl ?_));exact ⟨rfl,rfl⟩
theorem sort0M_spec (w:World):
 Ret prog 117 #[.slice none 0 0,.func (.func 118) #[] #[]] w (λv w'=>v=.tuple #[]∧w'=w):=by
 refine enT [.slice none 0 0,.func (.func 118) #[] #[]] 14 func117 rfl rfl (C.sr λK1=>O.mv (O.lenL U115 rfl (O.cast (v':=.int .i64 0) rfl (O.j (K1 (C.region (O.mv (O.mv (O.mv (O.convIU (m':=64) U3 U135 rfl rfl rfl (O.cast (v':=.int .u64 ((0#64).toNat:Int)) rfl (O.call call109 (args1 rfl) (blen_spec _) ?_))))))))))));rintro v_11 w1 ⟨⟨kv11,rfl⟩,rfl⟩;refine O.mv (O.call call180 (args5 rfl rfl rfl rfl rfl) (pdq0M_spec _ _) ?_);rintro v_13 w1 ⟨rfl,hw_⟩;replace hw_:=hw_.symm;subst hw_;refine O.o (Outs.none rfl ?_);exact ⟨rfl,rfl⟩
theorem ins0S_spec (w:World):
 Ret prog 158 #[.slice none 0 0,.int .i64 (0),.int .i64 (0),.func (.func 72) #[] #[]] w (λv w'=>v=.tuple #[]∧w'=w):=by
 refine enT [.slice none 0 0,.int .i64 (0),.int .i64 (0),.func (.func 72) #[] #[]] 53 func158 rfl rfl (C.sr λK1=>O.mv (O.ad rfl rfl (O.cast (v':=.int .i64 (1)) rfl (O.j (K1 (C.bl λK2=>C.loop0 (σ:=Nat) (λf0 w0 z f w=>f 8=.int .i64 (1)∧f 0=f0 0∧f 1=f0 1∧f 2=f0 2∧f 3=f0 3∧w=w0) (λz=>z) 0 ?_ ?_))))))
 ·
  exact ⟨rfl,rfl,rfl,rfl,rfl,rfl⟩
 rintro z f_1 wx ⟨s8_1,s0_1,s1_1,s2_1,s3_1,rfl⟩;refine C.sq λK3=>C.sr λK4=>O.mv (O.mv (O.lssI s8_1 s2_1 (O.cast (v':=.bool false) rfl (K4 (C.condF rfl (C.exit (K2 (Outs.none rfl ?_))))))))
 exact ⟨rfl,rfl⟩
theorem pdq0S_spec (lim:Int)(w:World):
 Ret prog 108 #[.slice none 0 0,.int .i64 (0),.int .i64 (0),.int .i64 (lim),.func (.func 72) #[] #[]] w (λv w'=>v=.tuple #[]∧w'=w):=by
 refine enT [.slice none 0 0,.int .i64 (0),.int .i64 (0),.int .i64 (lim),.func (.func 72) #[] #[]] 148 func108 rfl rfl (C.sr λK1=>O.j (K1 (C.sr λK2=>O.j (K2 (C.bl λK3=>C.loop0 (σ:=Nat) (λf0 w0 z f w=>f 1=.int .i64 (0)∧f 2=.int .i64 (0)∧f 10=.bool (true)∧f 11=.bool (true)∧f 0=f0 0∧f 4=f0 4∧w=w0) (λz=>z) 0 ?_ ?_)))))
 ·
  exact ⟨rfl,rfl,rfl,rfl,rfl,rfl,rfl⟩
 rintro z f_1 wx ⟨s1_1,s2_1,s10_1,s11_1,s0_1,s4_1,rfl⟩;refine C.bl λK4=>C.sr λK5=>O.mv (O.mv (O.sb s2_1 s1_1 (O.cast (v':=.int .i64 (0)) rfl (O.j (K5 (C.sq λK6=>C.sr λK7=>O.mv (O.leqI rfl rfl (O.cast (v':=.bool true) rfl (K7 (C.condT rfl (C.sr λK8=>O.mv (O.mv (O.mv (O.mv (O.call call158 (args4 s0_1 s1_1 s2_1 s4_1) (ins0S_spec _) ?_)))))))))))))))
 rintro v_30 w1 ⟨rfl,hw_⟩;replace hw_:=hw_.symm;subst hw_;refine K8 (C.ret (Outs.none rfl ?_));exact ⟨rfl,rfl⟩
theorem sort0S_spec (w:World):
 Ret prog 71 #[.slice none 0 0,.func (.func 72) #[] #[]] w (λv w'=>v=.tuple #[]∧w'=w):=by
 refine enT [.slice none 0 0,.func (.func 72) #[] #[]] 14 func71 rfl rfl (C.sr λK1=>O.mv (O.lenL U69 rfl (O.cast (v':=.int .i64 0) rfl (O.j (K1 (C.region (O.mv (O.mv (O.mv (O.convIU (m':=64) U3 U135 rfl rfl rfl (O.cast (v':=.int .u64 ((0#64).toNat:Int)) rfl (O.call call109 (args1 rfl) (blen_spec _) ?_))))))))))));rintro v_11 w1 ⟨⟨kv11,rfl⟩,rfl⟩;refine O.mv (O.call call108 (args5 rfl rfl rfl rfl rfl) (pdq0S_spec _ _) ?_);rintro v_13 w1 ⟨rfl,hw_⟩;replace hw_:=hw_.symm;subst hw_;refine O.o (Outs.none rfl ?_);exact ⟨rfl,rfl⟩
def mdc (a b:MarkT):Int:=Dt.cmp a.1 b.1
theorem swoM:Go.Sort.SWO (ltOf mdc) where
 irrefl x:=by unfold ltOf mdc;exact dF (λh=>Dt.less_irrefl x.1 ((Dt.cmp_lt x.1 x.1).1 h))
 trans x y z h1 h2:=by
  unfold ltOf mdc at*;simp only[decide_eq_true_eq,Dt.cmp_lt] at*;exact Dt.less_trans h1 h2
 ntrans x y z h1 h2:=by
  unfold ltOf mdc at*;simp only[decide_eq_false_iff_not,Dt.cmp_lt] at*;intro h;rcases Dt.less_total y.1 z.1 with k|k|k
  ·exact h2 k
  ·rw [<-k] at h;exact h1 h
  ·exact h1 (Dt.less_trans h k)
theorem sortM_spec (v:Value)(l:List MarkT)(B:Nat)(w:World)(h:OwnF markF 114 B w v l)(hn:l.length<=1000000000000):
 Ret prog 117 #[v,.func (.func 118) #[] #[]] w (λr w'=>r=.tuple #[]∧(∃l':List MarkT,OwnF markF 114 B w' v l'∧l'.Perm l∧l'.Pairwise (λa b=>¬Jn.DL b a))∧Ext (bk v) w w'):=by
 rcases h.1.2 with ⟨rfl,h0⟩|⟨g,cap,cur,rfl,_⟩
 ·obtain rfl:l=[]:=List.eq_nil_of_length_eq_zero h0
  refine (sort0M_spec w).mono ?_;rintro e w' ⟨rfl,rfl⟩;exact ⟨rfl,⟨[],h,List.Perm.refl _,List.Pairwise.nil⟩,Ext.L _ _⟩
 ·obtain ⟨hH,hlt⟩:=h.holdsK
  have eg:∀args w,(callFunc 118 args).run prog w=.ok (.enter 118 args) w:=enters_of func118 (by kernel_rfl) rfl;have hcmp:CmpLays prog 118 #[] markF.e markF.sz mdc g 0 l.toArray.size w:=λm os dk hs x y=>
   (itcmp_spec x y _).calls.mono λe w' hh=>by
     obtain ⟨v,he,hv,hle,hd⟩:=hh;exact ⟨by rw[he,hv];rfl,grow_of_le hle hd⟩
  have hs:l.toArray.size<4611686018427387904:=by simp;omega
  have hcon:=AnyQ.slices_SortFunc Tryz.sortM markF.sz isAgg114 Z114 markF.e markF.len markF.one mdc swoM 118 #[] g 0 cap l.toArray w eg hcmp hH hlt hs;refine Ret.of hcon ?_;rintro e w' ⟨rfl,d',m,os,hp,hso,rfl⟩;obtain ⟨hd,_,hperm⟩:=hp;have hd2:d'.size=l.length:=by simpa using hd
  obtain ⟨h1,h2⟩:=h.sortedK hd2 m os;refine ⟨_,rfl,rfl,⟨d'.toList,h1,?_,?_⟩,h2.mono λk _ hk=>hk⟩
  ·have e1:(l.toArray.extract 0 l.toArray.size).toList=l:=by simp
   have e2:(d'.extract 0 l.toArray.size).toList=d'.toList:=by rw[<-hd];simp
   rw[e1,e2] at hperm;exact hperm
  ·rw [List.pairwise_iff_getElem]
   intro i j hi hj hij;have hi2:i<d'.size:=by simpa using hi
   have hj2:j<d'.size:=by simpa using hj
   have h3:=hso i j (Nat.zero_le _) hij (by simpa[hd2] using hj);unfold ltOf at h3;simp only[decide_eq_false_iff_not] at h3;unfold mdc at h3;rw[Dt.cmp_lt,getElem!_pos d' i hi2,getElem!_pos d' j hj2] at h3
   simpa[Jn.DL] using h3
theorem compactM_a_spec (g cap B:Nat)(l:List MarkT)(w:World)(ho:OwnF markF 114 B w (.slice (some ⟨g,0,none⟩) l.length cap) l)(hn:l.length<=1000000000000):
 Ret prog 120 #[.slice (some ⟨g,0,none⟩) l.length cap] w (λv w'=>v=.slice (some ⟨g,0,none⟩) (Jn.cpt l).length cap∧OwnF markF 114 B w' v (Jn.cpt l)∧Ext (λk=>k=g) w w'):=by
 have hs0:=ho.sl;have hcap:=ho.le_cap;refine enT [.slice (some ⟨g,0,none⟩) l.length cap] 61 func120 rfl rfl (C.sr λK1=>O.j (K1 (C.sq λK2=>C.sr λK3=>O.mv (O.len U115 rfl hs0 (O.lssI rfl rfl (K3 (C.condD rfl (λc8=>?_) (λc8=>?_))))))))
 ·
  refine C.sr λK4=>O.mv (O.j (K4 (C.ret (Outs.one rfl rfl ?_))))
  (have q0:Jn.cpt l=l:=by
    rcases hq:l with _|⟨a,_|⟨b,r⟩⟩
    ·rfl
    ·rfl
    ·rw [hq] at c8;simp at c8;omega
   refine ⟨congrArg (λx:List MarkT=>Value.slice (some ⟨g,0,none⟩) x.length cap) q0.symm,?_,(Ext.L _ _)⟩;rw[q0];exact ho)
 have hn2:2<=l.length:=by omega
 refine C.skip (K2 (C.sq λK5=>C.sr λK6=>O.j (K6 (C.bl λK7=>C.loop0 (σ:=Nat) (λf0 w0 k f wz=>f 3=.int .i64 (k)∧f 0=f0 0∧Le w wz∧OwnF markF 114 B wz (.slice (some ⟨g,0,none⟩) l.length cap) l∧1<=k∧k<=l.length∧∀i,∀h:i+1<l.length,i+1<k->l[i]≠l[i+1]) (λk=>l.length-k) 1 ?_ ?_))))
 ·
  refine ⟨rfl,rfl,leR,ho,?_⟩;exact ⟨by omega,by omega,λi h k=>absurd k (by omega)⟩
 rintro k f_1 w1 ⟨s3_1,s0_1,e_1,r0_1,⟨hk1,hk,hI⟩⟩;have z_1:=e_1.size;have r0_1s:=r0_1.sl;refine C.sq λK8=>C.sr λK9=>O.mv (O.mv (O.len U115 s0_1 r0_1s (O.lssI s3_1 rfl (K9 (C.condD rfl (λc13=>?_) (λc13=>?_))))))
 ·
  have hk2:k<l.length:=by omega
  have x0:((k:Int)).toNat=k:=by omega
  have x1:((k:Int)-1).toNat=k-1:=by omega
  refine C.skip (K8 (C.sq λK10=>C.bl λK11=>C.sd λK12 w2 e2 z2=>D.mv 0 rfl leR (D.mv 1 rfl leR ?_)));obtain ⟨a18,h18,hr18⟩:=Sl.at (i:=(k:Int)) (P:=prog) U115 Z114 rfl (r0_1s.L e2) (by omega);refine D.t 2 rfl leR (λ_ _ _ hN=>O.idxR s0_1 s3_1 hr18 (O.o hN)) (D.t 3 rfl leR (λ_ hw_ _ hN=>O.loadG (G:=markF) isAgg114 Z114 rfl (h18.L hw_) (O.o hN)) (D.mv 4 rfl leR (D.mv 5 rfl leR (D.t 6 rfl leR (λ_ _ _ hN=>O.sb s3_1 rfl (O.o hN)) ?_))));obtain ⟨a23,h23,hr23⟩:=Sl.at (i:=(k:Int)-1) (P:=prog) U115 Z114 rfl (r0_1s.L e2) (by omega);refine D.t 7 rfl leR (λ_ _ _ hN=>O.idxR s0_1 rfl hr23 (O.o hN)) (D.t 8 rfl leR (λ_ hw_ _ hN=>O.loadG (G:=markF) isAgg114 Z114 rfl (h23.L hw_) (O.o hN)) (D.t 9 rfl leR (λ_ _ _ hN=>O.eqlM (λa b=>run_eq_mark U114 (by decide) (by decide) (by decide) rfl rfl rfl U112 (by decide) (by decide) rfl rfl U3 U3 U3 U110 isAgg3 isAgg3 isAgg112 Z112 isAgg3 isAgg110 (by kernel_rfl) (by kernel_rfl) a b) (by kernel_rfl) rfl rfl (O.o hN)) (K12 (C.condD rfl (λc25=>?_) (λc25=>?_)))))
  ·
   simp only[x0,x1] at c25;refine C.sr λK13=>O.mv (O.mv (O.subHi U115 Z114 s0_1 s3_1 (by omega) (by omega) (O.j (K13 (C.sq λK14=>C.sr λK15=>O.j (K15 (C.bl λK16=>C.loop0 (σ:=Nat×Nat×List MarkT) (λf0 w0 ⟨j,m,c⟩ f w=>f 5=.int .i64 (j)∧f 3=.int .i64 (m)∧f 0=f0 0∧f 2=f0 2∧f 4=f0 4∧Ext (λk=>k=g) w0 w∧OwnF markF 114 B w (.slice (some ⟨g,0,none⟩) l.length cap) c∧c.length=l.length∧1<=j∧k+j<=l.length∧1<=m∧m+1<=k+j∧c.take m=Jn.cpt (l.take (k+j))∧∀i,∀h1:i<c.length,∀h2:i<l.length,k+j<=i+1->c[i]=l[i]) (λ⟨j,m,c⟩=>l.length-(k+j)) (1,k,l) ?_ ?_)))))))
   ·
    refine ⟨rfl,s3_1,rfl,rfl,rfl,Ext.L _ _,(r0_1.L e2),⟨rfl,by omega,by omega,by omega,by omega,?_,λi _ _ _=>rfl⟩⟩;rw[Jn.cpt_take hk1 hk2,if_pos c25.symm,List.append_nil,Jn.cpt_distinct];intro i hi;simp only[List.getElem_take];exact hI i (by simp at hi;omega) (by simp at hi;omega)
   rintro ⟨j,m,c⟩ f_2 w3 ⟨s5_2,s3_2,s0_2,s2_2,s4_2,e_2,r0_2,⟨hcl,hj1,hj,hm1,hm,hT,hS⟩⟩;have z_2:=e_2.size;have r0_2s:=r0_2.sl;have hp4:=r0_2;rw[<-hcl] at hp4;replace hp4:=hp4.part (k:=k) (by omega);rw[hcl] at hp4;refine C.sq λK17=>C.sr λK18=>O.mv (O.mv (O.len U115 s4_2 hp4 (O.lssI s5_2 rfl (K18 (C.condD rfl (λc32=>?_) (λc32=>?_))))))
   ·
    have hj2:k+j<c.length:=by simp at c32;omega
    have y1:((j:Int)).toNat=j:=by omega
    have y2:((j:Int)-1).toNat=j-1:=by omega
    have y3:k+(j-1)=k+j-1:=by omega
    refine C.skip (K17 (C.sq λK19=>C.bl λK20=>C.sd λK21 w4 e4 z4=>D.mv 0 rfl leR (D.mv 1 rfl leR ?_)));obtain ⟨a37,h37,hr37⟩:=Sl.at (i:=(j:Int)) (P:=prog) U115 Z114 rfl (hp4.L e4) (by simp;omega);refine D.t 2 rfl leR (λ_ _ _ hN=>O.idxR s4_2 s5_2 hr37 (O.o hN)) (D.t 3 rfl leR (λ_ hw_ _ hN=>O.loadG (G:=markF) isAgg114 Z114 rfl (h37.L hw_) (O.o hN)) (D.mv 4 rfl leR (D.mv 5 rfl leR (D.t 6 rfl leR (λ_ _ _ hN=>O.sb s5_2 rfl (O.o hN)) ?_))));obtain ⟨a42,h42,hr42⟩:=Sl.at (i:=(j:Int)-1) (P:=prog) U115 Z114 rfl (hp4.L e4) (by simp;omega);refine D.t 7 rfl leR (λ_ _ _ hN=>O.idxR s4_2 rfl hr42 (O.o hN)) (D.t 8 rfl leR (λ_ hw_ _ hN=>O.loadG (G:=markF) isAgg114 Z114 rfl (h42.L hw_) (O.o hN)) (D.t 9 rfl leR (λ_ _ _ hN=>O.neqM (λa b=>run_eq_mark U114 (by decide) (by decide) (by decide) rfl rfl rfl U112 (by decide) (by decide) rfl rfl U3 U3 U3 U110 isAgg3 isAgg3 isAgg112 Z112 isAgg3 isAgg110 (by kernel_rfl) (by kernel_rfl) a b) (by kernel_rfl) rfl rfl (O.o hN)) (K21 (C.condD rfl (λc44=>?_) (λc44=>?_)))))
    ·
     simp only[y1,y2,List.getElem_drop] at c44;rw[hS (k+j) hj2 (by omega) (by omega),hS (k+(j-1)) (by omega) (by omega) (by omega)] at c44;simp only[y3] at c44;refine C.sr λK22=>O.mv (O.mv (O.mv (O.mv (O.idx U115 Z114 rfl s4_2 (hp4.L e4) s5_2 (by simp;omega) (λa49 h49=>O.loadG (G:=markF) isAgg114 Z114 rfl h49 ?_)))))
     obtain ⟨u,hu⟩:∃u:MarkT,u=l[k+j]'(by omega):=⟨_,rfl⟩
     refine O.cast (v':=.agg (markF.e u).toArray) (by subst hu;simp only[y1,List.getElem_drop];rw[hS (k+j) hj2 (by omega) (by omega)]) (O.idxO U115 Z114 (Eq.trans s0_2 s0_1) s3_2 (by omega) (O.cast (v':=.pointer (some ⟨g,m*markF.sz,none⟩)) (by rw[Nat.zero_add,Int.toNat_natCast];rfl) ?_));have ho51:=(r0_2.L e4)
     rw[<-hcl] at ho51;refine O.storeG (G:=markF) (_) Z114 rfl rfl ho51 (by omega) (λw5 hs5 e5 z5=>?_);rw[hcl] at hs5;refine K22 (C.region (O.mv (O.ad s3_2 rfl (O.cast (v':=.int .i64 ((m+1:Nat):Int)) rfl (O.j (O.o (K20 (K19 (C.region (O.mv (O.ad s5_2 rfl (O.j (O.o (⟨(j+1,_,_),⟨rfl,rfl,s0_2,s2_2,s4_2,(Ext.T (Ext.T e_2 (Le.to e4)) (e5)),hs5,?_⟩,by first|omega|(simp only[];omega)⟩))))))))))))))
     (refine ⟨by rw[List.length_set];exact hcl,by omega,by omega,by omega,by omega,?_,λi h1 h2 h3=>?_⟩
      ·rw [List.take_succ_eq_append_getElem (by rw[List.length_set];omega),List.take_set,List.set_eq_of_length_le (by simp;omega),hT,show k+(j+1)=k+j+1 from rfl,Jn.cpt_take (by omega) (by omega),if_neg (λh=>c44 h.symm),List.getElem_set_self,hu]
      ·rw [List.getElem_set_ne (by omega)]
       exact hS i (by rw[List.length_set] at h1;exact h1) h2 (by omega))
    simp only[y1,y2,List.getElem_drop] at c44;rw[hS (k+j) hj2 (by omega) (by omega),hS (k+(j-1)) (by omega) (by omega) (by omega)] at c44;simp only[y3] at c44;refine C.skip (K20 (K19 (C.region (O.mv (O.ad s5_2 rfl (O.j (O.o (⟨(j+1,_,_),⟨rfl,s3_2,s0_2,s2_2,s4_2,(Ext.T e_2 (Le.to e4)),(r0_2.L e4),?_⟩,by first|omega|(simp only[];omega)⟩))))))))
    first
    |(refine ⟨by rw[List.length_set];exact hcl,by omega,by omega,by omega,by omega,?_,λi h1 h2 h3=>?_⟩
      ·rw [List.take_succ_eq_append_getElem (by rw[List.length_set];omega),List.take_set,List.set_eq_of_length_le (by simp;omega),hT,show k+(j+1)=k+j+1 from rfl,Jn.cpt_take (by omega) (by omega),if_neg (λh=>c44 h.symm),List.getElem_set_self,hu]
      ·rw [List.getElem_set_ne (by omega)]
       exact hS i (by rw[List.length_set] at h1;exact h1) h2 (by omega))
    |(refine ⟨hcl,by omega,by omega,hm1,by omega,?_,λi h1 h2 h3=>hS i h1 h2 (by omega)⟩
      rw[hT,show k+(j+1)=k+j+1 from rfl,Jn.cpt_take (by omega) (by omega),if_pos (Decidable.of_not_not c44).symm,List.append_nil])
   have hj3:k+j=l.length:=by simp at c32;omega
   refine C.exit (K16 (K14 (C.sr λK23=>O.mv (O.mv (O.subHi U115 Z114 (Eq.trans s0_2 s0_1) s3_2 (by omega) (by omega) ?_)))));have hkw6:=r0_2;rw[<-hcl] at hkw6;refine O.clearG (G:=markF) (zx:=((0,0),0,0#64)) (k:=m) U115 zeroValue114 rfl (by rw[hcl];exact rfl) hkw6 (by omega) (λw6 hc6 e6 z6=>?_);rw[hcl] at hc6;refine K23 (C.sr λK24=>O.mv (O.mv (O.subLo U115 Z114 (Eq.trans s0_2 s0_1) s3_2 (by omega) (by omega) (O.j (K24 (C.ret (Outs.one rfl rfl ?_)))))))
   first
   |(have q0:Jn.cpt l=l:=by
      rcases hq:l with _|⟨a,_|⟨b,r⟩⟩
      ·rfl
      ·rfl
      ·rw [hq] at c8;simp at c8;omega
     refine ⟨congrArg (λx:List MarkT=>Value.slice (some ⟨g,0,none⟩) x.length cap) q0.symm,?_,(Ext.T (Ext.T (Ext.T (Le.to e_1) (Le.to e2)) e_2) e6)⟩;rw[q0];exact hc6)
   |(have q0:Jn.cpt l=l:=Jn.cpt_distinct (λi hi=>hI i hi (by omega))
     refine ⟨congrArg (λx:List MarkT=>Value.slice (some ⟨g,0,none⟩) x.length cap) q0.symm,?_,(Ext.T (Ext.T (Ext.T (Le.to e_1) (Le.to e2)) e_2) e6)⟩;rw[q0];exact hc6)
   |(have q1:c.take m=Jn.cpt l:=by rw[hT,hj3,List.take_length]
     have q2:(Jn.cpt l).length=m:=by rw[<-q1,List.length_take];omega
     refine ⟨congrArg (λx:Nat=>Value.slice (some ⟨g,0,none⟩) x cap) q2.symm,?_,(Ext.T (Ext.T (Ext.T (Le.to e_1) (Le.to e2)) e_2) e6)⟩;have hf:=hc6;obtain ⟨X,hX⟩:∃X:List MarkT,X=c.take m++List.replicate (l.length-m) (((0,0),0,0#64):MarkT):=⟨_,rfl⟩
     have hx:X.length=l.length:=by rw[hX];simp;omega
     rw[<-hX,<-hx] at hf;replace hf:=hf.first (k:=m) (by rw[hx];omega)
     rw[hX,List.take_append_of_le_length (by simp;omega),List.take_take,Nat.min_self,q1] at hf;exact hf)
  simp only[x0,x1] at c25;refine C.skip (K11 (K10 (C.region (O.mv (O.ad s3_1 rfl (O.j (O.o (⟨k+1,⟨rfl,s0_1,(Ext.T e_1 e2),(r0_1.L e2),?_⟩,by first|omega|(simp only[];omega)⟩))))))));refine ⟨by omega,by omega,λi hi hik=>?_⟩;rcases Nat.lt_or_eq_of_le (Nat.le_of_lt_succ hik) with h|rfl
  ·exact hI i hi h
  ·exact λh=>c25 h.symm
 refine C.exit (K7 (K5 (C.sr λK25=>O.mv (O.j (K25 (C.ret (Outs.one rfl s0_1 ?_)))))))
 first
 |(have q0:Jn.cpt l=l:=by
    rcases hq:l with _|⟨a,_|⟨b,r⟩⟩
    ·rfl
    ·rfl
    ·rw [hq] at c8;simp at c8;omega
   refine ⟨congrArg (λx:List MarkT=>Value.slice (some ⟨g,0,none⟩) x.length cap) q0.symm,?_,(Le.to e_1)⟩;rw[q0];exact r0_1)
 |(have q0:Jn.cpt l=l:=Jn.cpt_distinct (λi hi=>hI i hi (by omega))
   refine ⟨congrArg (λx:List MarkT=>Value.slice (some ⟨g,0,none⟩) x.length cap) q0.symm,?_,(Le.to e_1)⟩;rw[q0];exact r0_1)
theorem compact0M_spec (w:World):
 Ret prog 120 #[.slice none 0 0] w (λv w'=>v=.slice none 0 0∧w'=w):=by
 refine enT [.slice none 0 0] 61 func120 rfl rfl (C.sr λK1=>O.j (K1 (C.sq λK2=>C.sr λK3=>O.mv (O.lenL U115 rfl (O.cast (v':=.int .i64 0) rfl (O.lssI rfl rfl (O.cast (v':=.bool true) rfl (K3 (C.condT rfl (C.sr λK4=>O.mv (O.j (K4 (C.ret (Outs.one rfl rfl ?_))))))))))))));exact ⟨rfl,rfl⟩
theorem compactM_spec (v:Value)(l:List MarkT)(B:Nat)(w:World)(h:OwnF markF 114 B w v l)(hn:l.length<=1000000000000):
 Ret prog 120 #[v] w (λr w'=>OwnF markF 114 B w' r (Jn.cpt l)∧Ext (bk v) w w'):=by
 rcases h.1.2 with ⟨rfl,h0⟩|⟨g,cap,cur,rfl,_⟩
 ·obtain rfl:l=[]:=List.eq_nil_of_length_eq_zero h0
  refine (compact0M_spec w).mono ?_;rintro e w' ⟨rfl,rfl⟩;exact ⟨h,Ext.L _ _⟩
 ·refine (compactM_a_spec g cap B l w h hn).mono ?_
  rintro e w' ⟨rfl,h1,h2⟩;exact ⟨h1,h2.mono λk _ hk=>hk⟩
theorem inf9:∃ie,prog.info? 9=some ie∧ie.size=1∧ie.bytes=16∧ie.zero=some (.string ⟨#[]⟩):=by
 have h:(prog.info? 9).isSome=true:=by kernel_rfl
 exact ⟨(prog.info? 9).get h,(Option.some_get h).symm,by kernel_rfl,by kernel_rfl,by kernel_rfl⟩
theorem swoS:Go.Sort.SWO (ltOf Jn.scmp) where
 irrefl x:=by unfold ltOf;exact dF (λh=>Jn.bl_irrefl x ((Jn.scmp_lt x x).1 h))
 trans x y z h1 h2:=by
  unfold ltOf at*;simp only[decide_eq_true_eq,Jn.scmp_lt] at*;exact Jn.bl_trans h1 h2
 ntrans x y z h1 h2:=by
  unfold ltOf at*;simp only[decide_eq_false_iff_not,Jn.scmp_lt] at*;intro h;rcases Jn.bl_total y z with k|k|k
  ·exact h2 k
  ·rw [<-k] at h;exact h1 h
  ·exact h1 (Jn.bl_trans h k)
theorem sortS_spec (v:Value)(l:List (List UInt8))(B:Nat)(w:World)(h:OwnF strF 9 B w v l)(hn:l.length<=1000000):
 Ret prog 71 #[v,.func (.func 72) #[] #[]] w (λr w'=>r=.tuple #[]∧(∃l':List (List UInt8),OwnF strF 9 B w' v l'∧l'.Perm l∧l'.Pairwise (λa b=>¬Jn.BL b a))∧Ext (bk v) w w'):=by
 rcases h.1.2 with ⟨rfl,h0⟩|⟨g,cap,cur,rfl,_⟩
 ·obtain rfl:l=[]:=List.eq_nil_of_length_eq_zero h0
  refine (sort0S_spec w).mono ?_;rintro e w' ⟨rfl,rfl⟩;exact ⟨rfl,⟨[],h,List.Perm.refl _,List.Pairwise.nil⟩,Ext.L _ _⟩
 ·obtain ⟨hH,hlt⟩:=h.holds (enc:=str) rfl (λ_=>rfl)
  have eg:∀args w,(callFunc 72 args).run prog w=.ok (.enter 72 args) w:=enters_of func72 (by kernel_rfl) rfl;have hcmp:CmpReads prog 72 #[] str Jn.scmp g 0 l.toArray.size w:=λm os dk hs x y=>
   (scmp_spec x y _).calls.mono λe w' ⟨v,he,hv,hw⟩=>⟨by rw[he,hv],0,hw⟩
  have hs:l.toArray.size<4611686018427387904:=by simp;omega
  have hcon:=Any.slices_SortFunc Tryz.sortS str (λ_=>rfl) Jn.scmp swoS 72 #[] g 0 cap l.toArray w eg hcmp.lays hH hlt hs;refine Ret.of hcon ?_;rintro e w' ⟨rfl,d',m,os,hp,hso,rfl⟩;obtain ⟨hd,_,hperm⟩:=hp;have hd2:d'.size=l.length:=by simpa using hd
  obtain ⟨h1,h2⟩:=h.sorted (enc:=str) rfl (λ_=>rfl) hd2 m os;refine ⟨_,rfl,rfl,⟨d'.toList,h1,?_,?_⟩,h2.mono λk _ hk=>hk⟩
  ·have e1:(l.toArray.extract 0 l.toArray.size).toList=l:=by simp
   have e2:(d'.extract 0 l.toArray.size).toList=d'.toList:=by rw[<-hd];simp
   rw[e1,e2] at hperm;exact hperm
  ·rw [List.pairwise_iff_getElem]
   intro i j hi hj hij;have hi2:i<d'.size:=by simpa using hi
   have hj2:j<d'.size:=by simpa using hj
   have h3:=hso i j (Nat.zero_le _) hij (by simpa[hd2] using hj);unfold ltOf at h3;simp only[decide_eq_false_iff_not] at h3;rw[Jn.scmp_lt,getElem!_pos d' i hi2,getElem!_pos d' j hj2] at h3
   simpa using h3
theorem upto_cpt (l:List (List UInt8)):∀m,m<=l.length->Lib.compactUpTo l.toArray m=Jn.cpt (l.take m)
 |0,_=>by simp[Lib.compactUpTo,Jn.cpt]
 |m+1,hm=>by
  have ih:=upto_cpt l m (by omega);have hml:m<l.length:=by omega
  have step:Lib.compactUpTo l.toArray (m+1)=Lib.compactUpTo l.toArray m++(if Lib.keeps l.toArray m then [l.toArray[m]!] else []):=by
   unfold Lib.compactUpTo;rw[List.range_succ,List.filter_append,List.map_append,List.filter_cons];cases Lib.keeps l.toArray m<;>rfl
  have get:∀i,∀h:i<l.length,l.toArray[i]! =l[i]:=λi h=>by rw[getElem!_pos l.toArray i (by simpa using h)];simp
  rw[step,ih]
  by_cases h0:m=0
  ·subst h0
   have hk:Lib.keeps l.toArray 0=true:=by simp[Lib.keeps]
   rw[hk,if_pos rfl,get 0 hml,List.take_succ_eq_append_getElem hml,List.take_zero]
   rfl
  ·rw [Jn.cpt_take (by omega) hml,get m hml]
   unfold Lib.keeps;rw[get m hml,get (m-1) (by omega)]
   by_cases e:l[m-1]'(by omega)=l[m]
   ·rw [if_pos e,if_neg (by simp[h0,e])]
   ·rw [if_neg e,if_pos (by simp[h0,Ne.symm e])]
theorem compactS_spec (v:Value)(l:List (List UInt8))(B:Nat)(w:World)(h:OwnF strF 9 B w v l)(hn:l.length<=1000000):
 Ret prog 74 #[v] w (λr w'=>OwnF strF 9 B w' r (Jn.cpt l)∧(∀k,bk r k->bk v k)∧Ext (bk v) w w'):=by
 rcases h.1.2 with ⟨rfl,h0⟩|⟨g,cap,cur,rfl,hB9,hg9,hcap9,_⟩
 ·obtain rfl:l=[]:=List.eq_nil_of_length_eq_zero h0
  refine Ret.of (Tryz.slices_Compact_string_empty none 0 w) ?_;rintro e w' ⟨rfl,rfl⟩;exact ⟨_,rfl,h,λ_ hk=>hk,Ext.L _ _⟩
 ·obtain ⟨hH,hlt⟩:=h.holds (enc:=str) rfl (λ_=>rfl)
  have hlc:=h.le_cap;have hcon:=Tryz.slices_Compact_string_arr g 0 cap l.toArray w hH (by simp;omega) (by simpa using hlc);have hsz:l.toArray.size=l.length:=by simp
  rw[hsz,upto_cpt l l.length (Nat.le_refl _),List.take_length] at hcon;have hcl:=Jn.cpt_length l;refine Ret.of hcon ?_;rintro e w' ⟨rfl,q,rfl⟩;have hd:(Jn.cpt l++List.replicate (l.length-(Jn.cpt l).length) []).toArray.size=l.length:=by simp;omega
  obtain ⟨h1,h2⟩:=h.sorted (enc:=str) rfl (λ_=>rfl) hd q #[];have e1:sortWorld str w g 0 q (Jn.cpt l++List.replicate (l.length-(Jn.cpt l).length) []).toArray #[]=Go.Sort.putRow encStr (Go.Sort.ahead w q) g 0 (Jn.cpt l++List.replicate (l.length-(Jn.cpt l).length) []).toArray:=by
   unfold sortWorld Go.Sort.grow;rw[Array.append_empty]
   rfl
  rw[e1] at h1 h2;obtain ⟨X,hX⟩:∃X:List (List UInt8),X=Jn.cpt l++List.replicate (l.length-(Jn.cpt l).length) []:=⟨_,rfl⟩
  have hq:X.length=l.length:=by rw[hX];simp;omega
  rw[<-hX] at h1 h2 ⊢;rw[show X.toArray.toList=X by simp,<-hq] at h1;have h3:=h1.first (k:=(Jn.cpt l).length) (by rw[hq];exact hcl)
  rw[hX,List.take_left' rfl,<-hX] at h3;exact ⟨_,rfl,h3,λ_ hk=>hk,h2.mono λk _ hk=>hk⟩
theorem marks_raw_no {w:World}{F:Nat->Prop}{raw:List (List UInt8×Raw)}{l:List ItemT}{s:List UInt8}(hit:Items w F raw l)(h:Cn.idx (Jn.nameIs s) raw<0):Jn.marks l s=[]:=
 Jn.marks_no (by rw[<-Jn.idx_same (p:=Jn.nameIs s) hit.1 (λi h1 h2=>by unfold Jn.nameIs;rw[(hit.2 i h1 h2).1])];exact h)
theorem marks_raw_yes {w:World}{F:Nat->Prop}{raw:List (List UInt8×Raw)}{l:List ItemT}{s:List UInt8}{j:Nat}(hit:Items w F raw l)(h:Cn.idx (Jn.nameIs s) raw=(j:Int)):∃hj:j<l.length,Jn.marks l s=l[j].2:=
 Jn.marks_yes (by rw[<-Jn.idx_same (p:=Jn.nameIs s) hit.1 (λi h1 h2=>by unfold Jn.nameIs;rw[(hit.2 i h1 h2).1])];exact h)
theorem one_of {α:Type}{l:List α}{j:Nat}(h:j<l.length):(l.take (j+1)).drop j=[l[j]]:=by
 rw[List.take_succ_eq_append_getElem h,List.drop_append_of_le_length (by rw[List.length_take];omega),List.drop_of_length_le (by rw[List.length_take];omega)]
 rfl
theorem items_one {w:World}{F:Nat->Prop}{raw:List (List UInt8×Raw)}{l:List ItemT}(hit:Items w F raw l){j:Nat}(h:j<raw.length)(h':j<l.length):Items w F [raw[j]] [l[j]]:=⟨rfl,λi h1 h2=>by
 have:i=0:=by simp at h1;omega
 subst this;exact hit.2 j h h'⟩
theorem find_spec (v0:Value)(l:List ItemT)(raw:List (List UInt8×Raw))(s:List UInt8)(F:Nat->Prop)(w:World)(hl:Sl itemF.enc w F v0 raw)(hit:Items w F raw l)(hn:l.length<=1000000)(hS:∀x∈l,x.2.length<=1000000):
 Ret prog 176 #[v0,str (s)] w (λv w'=>Le w w'∧∃(n:List UInt8) (vm:Value) (e:Int),v=.tuple #[.agg #[str n,vm],.int .i64 e]∧Fre markF 114 w' (λj=>w.heap.size<=j∧j<w'.heap.size) vm (Jn.marks l s)):=by
 have hle:=hl.le;have hrl:=hit.1;refine enT [v0,str (s)] 21 func176 rfl rfl (C.sr λK1=>O.alloc zeroValue117 (λb4 w1 hb4 hz4 e1=>?_));have z1:=e1.size;have h4:=hz4.own;have hl4:=h4.lt;refine O.j (K1 (C.sr λK2=>O.mv (O.mv (O.call call231 (args2 rfl rfl) (iindex_spec _ _ _ _ _ (hl.L e1)) ?_))));rintro v_9 w2 ⟨rfl,e2⟩;have z2:=e2.size;refine O.j (K2 (C.sq λK3=>C.sr λK4=>O.mv (O.lssI rfl rfl (K4 (C.condD rfl (λc11=>?_) (λc11=>?_))))))
 ·
  refine C.sr λK5=>O.build (cells:=#[str [],.slice none 0 0]) rfl (by kernel_rfl) (O.storeA (vs:=[str [],.slice none 0 0]) Z117 rfl rfl rfl (ones2 rfl) (h4.L e2) (leB rfl) (λw3 hs3 e3 z3=>O.j (K5 (C.ret (Outs.cellA2 rfl isAgg117 Z117 rfl rfl hs3 rfl ?_)))))
  exact ⟨(Ext.nr (Ext.T e1 e2) e3),[],_,9,rfl,by rw[marks_raw_no hit c11];exact Fre.nil _ _ _ _⟩
 obtain ⟨j,hj⟩:∃j:Nat,Cn.idx (Jn.nameIs s) raw=(j:Int):=⟨_,(Int.toNat_of_nonneg (by omega)).symm⟩
 obtain ⟨⟨hjr,hj1⟩,hj2⟩:=Cn.idx_at hj;obtain ⟨hjl,hjm⟩:=marks_raw_yes hit hj;refine C.skip (K3 (C.sr λK6=>O.mv (O.mv (O.cast (v':=.int .i64 (j:Int)) (cI hj) (O.mv (O.cast (v':=.int .i64 (j:Int)) (cI hj) (O.ad rfl rfl (O.cast (v':=.int .i64 ((j+1:Nat):Int)) rfl ?_))))))));have hb17:=Sl.sub (P:=prog) (j) (j+1) U45 Z117 (by rfl) ((hl.L e1).L e2) (by omega) (by omega);obtain ⟨v17,hs17,hr17⟩:=hb17;refine O.subR rfl hr17 (.inr ⟨_,_,rfl,rfl⟩) (.inr ⟨_,_,rfl,rfl⟩) ?_;rw[one_of hjr] at hs17;refine O.call call124 (args1 rfl) (icopy_spec _ [l[j]] [raw[j]] _ _ hs17 (items_one ((hit.L e1).L e2) hjr hjl) (by simp) (by intro x hx;rw[List.mem_singleton.1 hx];exact hS _ (List.getElem_mem hjl))) ?_;rintro v_18 w4 ⟨e4,h18⟩;have z4:=e4.size;obtain ⟨raw18,hf18,hi18⟩:=h18;have hl18:raw18.length=1:=hi18.1;have hf18s:=hf18.sl;refine O.idx U45 Z117 rfl rfl hf18s rfl (by omega) (λa19 h19=>O.loadG (G:=itemF) isAgg117 Z117 rfl h19 ?_);obtain ⟨u,hu⟩:∃u:List UInt8×Raw,u=raw18[0]:=⟨_,rfl⟩
 refine O.cast (v':=.agg #[str u.1,slv u.2]) (by rw[hu];rfl) (O.storeA (vs:=[str u.1,slv u.2]) Z117 rfl rfl rfl (ones2 rfl) ((h4.L e2).L e4) (leB rfl) (λw5 hs5 e5 z5=>O.j (K6 (C.ret (Outs.cellA2 rfl isAgg117 Z117 rfl rfl hs5 rfl ?_)))))
 first
 |exact ⟨(Ext.nr (Ext.T (Ext.T e1 e2) e4) e5),[],_,9,rfl,by rw[marks_raw_no hit c11];exact Fre.nil _ _ _ _⟩
 |(have hm9:=(((hi18.keepA e5)).2 0 (by omega) (by simp)).2
   rw[hjm];exact ⟨(Ext.nr (Ext.T (Ext.T e1 e2) e4) e5),u.1,slv u.2,0,rfl,by rw[hu];exact hm9.weakA⟩)
theorem jmarks_spec (va1 va2 va3:Value)(a:Cn.Cart)(F:Nat->Prop)(s:List UInt8)(w:World)(hai:Sl itemE w F va3 a.2)(hn:a.2.length<=1000000)(hS:∀x∈a.2,x.2.length<=1000000):
 Ret prog 115 #[.agg #[va1,va2,va3],str (s)] w (λv w'=>Le w w'∧Fre markF 114 w' (λj=>w.heap.size<=j∧j<w'.heap.size) v (Jn.marks a.2 s)):=by
 obtain ⟨raw,hraw,hit⟩:=hai.items;refine enT [.agg #[va1,va2,va3],str (s)] 16 func115 rfl rfl (C.sr λK1=>O.box (v:=.agg #[va1,va2,va3]) rfl (λb2 w1 hb2 hz2 e1=>?_));have z1:=e1.size;have h2:=hz2.own;have hl2:=h2.lt;refine O.j (K1 (C.sr λK2=>O.fa U47 rfl Z45 rfl (O.loadO isAgg45 rfl h2 rfl (O.mv (O.call call176 (args2 rfl rfl) (find_spec _ a.2 raw s _ _ (hraw.L e1) (hit.L e1) hn hS) ?_)))));rintro v_11 w2 ⟨e2,nv11,vmv11,erv11,rfl,hmv11⟩;have z2:=e2.size;refine O.mv (O.extract rfl rfl (O.extract rfl rfl (O.alloc zeroValue117 (λb5 w3 hb5 hz5 e3=>?_))));have z3:=e3.size;have h5:=hz5.own;have hl5:=h5.lt;refine O.storeA (vs:=[str nv11,vmv11]) Z117 rfl rfl rfl (ones2 (hmv11.sl).oneC) h5 (leB rfl) (λw4 hs4 e4 z4=>O.j (K2 (C.sr λK3=>O.fa U117 rfl Z115 rfl (O.loadO isAgg115 rfl hs4 rfl (O.j (K3 (C.ret (Outs.one rfl rfl ?_))))))));exact ⟨(Ext.nr (Ext.T (Ext.T e1 e2) e3) e4),(((hmv11.L e3).keepA e4)).weakA⟩
theorem cnames_spec (va1 va2 va3:Value)(a:Cn.Cart)(F:Nat->Prop)(w:World)(hav:Sl Dt.dotF.enc w F va1 a.1.1)(hac:Sl Dt.dotF.enc w F va2 a.1.2)(hai:Sl itemE w F va3 a.2)(hF:∀k,F k->k<w.heap.size)(hn:a.2.length<=1000000)(hS:∀x∈a.2,x.1.length<=1000000∧x.2.length<=1000000)(hva:Cn.valid a=true)(mx:Mx w):
 Ret prog 70 #[.agg #[va1,va2,va3]] w (λv w'=>Le w w'∧OwnF strF 9 w.heap.size w' v (Jn.namesOf a)):=by
 have hle:=hai.le;obtain ⟨ie9,ti9,ts9,tb9,tz9⟩:=inf9;refine enT [.agg #[va1,va2,va3]] 23 func70 rfl rfl (C.sr λK1=>O.box (v:=.agg #[va1,va2,va3]) rfl (λb1 w1 hb1 hz1 e1=>?_));have z1:=e1.size;have h1:=hz1.own;have hl1:=h1.lt;refine O.j (K1 (C.sq λK2=>C.sr λK3=>O.loadOA isAgg47 Z47 rfl h1 (leB rfl) (O.call call61 (args1 rfl) (cartValid_spec va1 va2 va3 a F _ (hav.L e1) (hac.L e1) (hai.L e1) (λk hk=>by have q1:=hF k hk;omega) hn hS (mx.L e1)) ?_)));rintro v_7 w2 ⟨rfl,e2⟩;have z2:=e2.size;refine O.cast (v':=.bool true) (cB (by exact hva)) (O.not rfl (O.cast (v':=.bool false) rfl (K3 (C.condF rfl (C.skip (K2 (C.sr λK4=>O.j (K4 (C.sq λK5=>C.sr λK6=>O.fa U47 rfl Z45 rfl (O.loadO isAgg45 rfl (h1.L e2) rfl (O.len U45 rfl ((hai.L e1).L e2) (O.mv (K6 (C.bl λK7=>C.loop0 (σ:=Nat×Value) (λf0 w0 ⟨k,o⟩ f wz=>f 3=o∧f 12=.int .i64 (k)∧f 2=f0 2∧f 10=f0 10∧f 11=f0 11∧Le w wz∧OwnF strF 9 w.heap.size wz o ((a.2.take k).map (·.1))∧k<=a.2.length) (λ⟨k,o⟩=>a.2.length-k) (0,.slice none 0 0) ?_ ?_))))))))))))))
 ·
  refine ⟨rfl,rfl,rfl,rfl,rfl,(Ext.T e1 e2),(OwnF.nil _ _ _ _),?_⟩;exact Nat.zero_le _
 rintro ⟨k,o⟩ f_1 w3 ⟨s3_1,s12_1,s2_1,s10_1,s11_1,e_1,r0_1,hk⟩;have z_1:=e_1.size;have r0_1s:=r0_1.sl;refine C.sr λK8=>O.lssI s12_1 s11_1 (K8 (C.sq λK9=>C.condD rfl (λc13=>?_) (λc13=>?_)))
 ·
  have hk2:k<a.2.length:=by omega
  refine C.skip (K9 (C.sq λK10=>C.bl λK11=>C.sr λK12=>O.idx U45 Z117 rfl s10_1 (hai.L e_1) s12_1 (by omega) (λa14 h14=>O.loadE (E:=itemE) isAgg117 Z117 rfl rfl h14 (λcs15 hcs15=>?_))));obtain ⟨vm15,rfl,hm15⟩:=hcs15;obtain ⟨u,hu⟩:∃u:ItemT,u=a.2[k]:=⟨_,rfl⟩
  refine O.cast (v':=.agg #[str u.1,vm15]) (by rw[hu];rfl) (O.alloc zeroValue117 (λb5 w4 hb5 hz5 e4=>?_));have z4:=e4.size;have h5:=hz5.own;have hl5:=h5.lt;refine O.storeA (vs:=[str u.1,vm15]) Z117 rfl rfl rfl (ones2 hm15.oneC) h5 (leB rfl) (λw5 hs5 e5 z5=>K12 (C.region (O.mv (O.fa U117 rfl Z9 rfl (O.loadO isAgg9 rfl hs5 rfl (O.litn [str u.1] U69 ti9 ts9 tz9 rfl (by decide) (by decide) rfl (by intro u hu;rw[List.mem_singleton.1 hu];rfl) (λb19 w6 hb19 hz19 e6=>?_)))))));have z6:=e6.size;have h19:=hz19.own;have hl19:=h19.lt;have h19s:Sl strF.enc w6 (λk=>k=b19) (.slice (some ⟨b19,0,none⟩) 1 1) [u.1]:=Sl.of_own (G:=strF) h19 rfl (Nat.le_refl _) (by unfold maxLen;omega) (by simp[strF]);have t0:=(r0_1.L e4).kM e5 (λk hk h=>by have:=r0_1.bk_ge k hk;(try dsimp only at h);omega);refine O.appF (G:=strF) U69 ti9 tz9 ts9 rfl s3_1 rfl (t0.L e6) h19s (by rw[tb9];simp;omega) (by unfold maxLen;simp;omega) (by omega) (λv20 w7 h20 e7=>?_);have z7:=e7.size;have h20s:=h20.sl;refine O.j (O.o (K11 (K10 (C.region (O.ad s12_1 rfl (O.mv (O.o (⟨(k+1,_),⟨rfl,rfl,s2_1,s10_1,s11_1,(Ext.new (Ext.T (Ext.nr (Ext.T e_1 e4) e5) e6) e7 (by intro i hi h;have:=(t0.L e6).bk_ge i h;omega)),(by rw[List.take_succ_eq_append_getElem hk2,List.map_append,List.map_singleton,<-hu];exact h20),?_⟩,by first|omega|(simp only[];omega)⟩))))))))
  omega
 refine C.exit (K7 (K5 (C.sr λK13=>O.mv (O.j (K13 (C.ret (Outs.one rfl s3_1 ?_)))))));obtain rfl:k=a.2.length:=by omega
 rw[List.take_length] at r0_1;exact ⟨e_1,r0_1⟩
theorem jitem_spec (va1 va2 va3:Value)(a:Cn.Cart)(F:Nat->Prop)(vb1 vb2 vb3:Value)(b:Cn.Cart)(F2:Nat->Prop)(s:List UInt8)(w:World)(hav:Sl Dt.dotF.enc w F va1 a.1.1)(hac:Sl Dt.dotF.enc w F va2 a.1.2)(hai:Sl itemE w F va3 a.2)(hbv:Sl Dt.dotF.enc w F2 vb1 b.1.1)(hbc:Sl Dt.dotF.enc w F2 vb2 b.1.2)(hbi:Sl itemE w F2 vb3 b.2)(hF:∀k,F k->k<w.heap.size)(hF2:∀k,F2 k->k<w.heap.size)(han:a.2.length<=1000000)(haS:∀x∈a.2,x.2.length<=1000000)(hbn:b.2.length<=1000000)(hbS:∀x∈b.2,x.2.length<=1000000)(ga:Jn.GoodC a)(gb:Jn.GoodC b):
 Ret prog 75 #[.agg #[va1,va2,va3],.agg #[vb1,vb2,vb3],str (s)] w (λv w'=>Le w w'∧∃vm:Value,v=.agg #[str s,vm]∧Fre markF 114 w' (λj=>w.heap.size<=j∧j<w'.heap.size) vm (Jn.item a b s).2):=by
 have hbl:=Jn.both_len haS hbS s;have _hF9:=hF;have _hF8:=hF2;obtain ⟨X,hX⟩:∃X,X=Jn.both a b s:=⟨_,rfl⟩
 obtain ⟨ie114,ti114,ts114,tb114,tz114⟩:=inf114;refine enT [.agg #[va1,va2,va3],.agg #[vb1,vb2,vb3],str (s)] 33 func75 rfl rfl (C.sr λK1=>O.box (v:=.agg #[va1,va2,va3]) rfl (λb3 w1 hb3 hz3 e1=>?_));have z1:=e1.size;have h3:=hz3.own;have hl3:=h3.lt;refine O.box (v:=.agg #[vb1,vb2,vb3]) rfl (λb4 w2 hb4 hz4 e2=>?_);have z2:=e2.size;have h4:=hz4.own;have hl4:=h4.lt;refine O.alloc zeroValue117 (λb6 w3 hb6 hz6 e3=>?_);have z3:=e3.size;have h6:=hz6.own;have hl6:=h6.lt;refine K1 (C.sd λK2 w4 e4 z4=>?_);have t0:=((h3.L e2).L e3).L e4;refine D.t 0 rfl leR (λ_ hw_ _ hN=>O.loadOA isAgg47 Z47 rfl (t0.L hw_) (leB rfl) (O.o hN)) (D.mv 1 rfl leR (D.t 3 rfl leR (λ_ hw_ _ hN=>O.loadOA isAgg47 Z47 rfl (((h4.L e3).L e4).L hw_) (leB rfl) (O.o hN)) (D.mv 4 rfl leR (D.on 2 rfl rfl (O.call call115 (args2 rfl rfl) (jmarks_spec va1 va2 va3 a F s _ ((((hai.L e1).L e2).L e3).L e4) han haS) ?_)))));rintro v_12 w5 ⟨e5,h12⟩;have z5:=e5.size;refine O.o ⟨e5,?_⟩;have h12s:=h12.sl;refine D.on 5 rfl rfl (O.call call115 (args2 rfl rfl) (jmarks_spec vb1 vb2 vb3 b F2 s _ (((((hbi.L e1).L e2).L e3).L e4).L e5) hbn hbS) ?_);rintro v_15 w6 ⟨e6,h15⟩;have z6:=e6.size;refine O.o ⟨(Ext.T e5 e6),?_⟩;have h15s:=h15.sl;refine D.as 6 rfl (Ext.T e5 e6) (D.as 7 rfl (Ext.T e5 e6) (K2 (C.sd λK3 w7 e7 z7=>D.mv 0 rfl leR (D.mv 1 rfl leR (D.t 2 rfl leR (λ_ _ _ hN=>O.fa U47 rfl Z44 rfl (O.o hN)) (D.t 3 rfl leR (λ_ hw_ _ hN=>O.loadOA isAgg44 Z44 rfl ((((((h4.L e3).L e4).L e5).L e6).L e7).L hw_) (leB rfl) (O.o hN)) (D.mv 5 rfl leR (D.mv 6 rfl leR (D.t 7 rfl leR (λ_ _ _ hN=>O.fa U47 rfl Z44 rfl (O.o hN)) ?_)))))))));refine D.t 8 rfl leR (λ_ hw_ _ hN=>O.loadOA isAgg44 Z44 rfl ((((t0.L e5).L e6).L e7).L hw_) (leB rfl) (O.o hN)) (D.on 4 rfl rfl ?_);refine O.call call116 (args3 rfl rfl rfl) (stay_spec _ (Jn.marks a.2 s) _ (Jn.marks b.2 s) vb1 vb2 b.1 (λ_=>True) _ ((((h12s.L e6).L e7)).weak (F':=λ_=>True) (λ_ _=>trivial)) (((h15s.L e7)).weak (F':=λ_=>True) (λ_ _=>trivial)) (((((((((hbv.L e1).L e2).L e3).L e4).L e5).L e6).L e7)).weak (F':=λ_=>True) (λ_ _=>trivial)) (((((((((hbc.L e1).L e2).L e3).L e4).L e5).L e6).L e7)).weak (F':=λ_=>True) (λ_ _=>trivial)) (by have:=Jn.find_le haS s;omega)) ?_;rintro v_20 w8 ⟨e8,h20⟩;have z8:=e8.size;refine O.o ⟨e8,?_⟩;have h20s:=h20.sl;refine D.on 9 rfl rfl (O.call call116 (args3 rfl rfl rfl) (stay_spec _ (Jn.marks b.2 s) _ (Jn.marks a.2 s) va1 va2 a.1 (λ_=>True) _ ((((h15s.L e7).L e8)).weak (F':=λ_=>True) (λ_ _=>trivial)) (((((h12s.L e6).L e7).L e8)).weak (F':=λ_=>True) (λ_ _=>trivial)) ((((((((((hav.L e1).L e2).L e3).L e4).L e5).L e6).L e7).L e8)).weak (F':=λ_=>True) (λ_ _=>trivial)) ((((((((((hac.L e1).L e2).L e3).L e4).L e5).L e6).L e7).L e8)).weak (F':=λ_=>True) (λ_ _=>trivial)) (by have:=Jn.find_le hbS s;omega)) ?_);rintro v_25 w9 ⟨e9,h25⟩;have z9:=e9.size;refine O.o ⟨(Ext.T e8 e9),?_⟩;have h25s:=h25.sl;have hsl9:(Jn.stay (Jn.marks a.2 s) (Jn.marks b.2 s) b.1).length+(Jn.stay (Jn.marks b.2 s) (Jn.marks a.2 s) a.1).length<=2000000:=by have h9:=hbl;unfold Jn.both at h9;rw[List.length_append] at h9;omega
 refine D.on 10 rfl rfl (O.appF (G:=markF) U115 ti114 tz114 ts114 rfl rfl rfl (h20.L e9) h25s (by rw[tb114];omega) (by unfold maxLen;omega) (by omega) (λv26 w10 h26 e10=>?_));have z10:=e10.size;have h26s:=h26.sl;have t1:=Ext.new (Ext.T e8 e9) e10 (by intro i hi h;have:=(h20.L e9).bk_ge i h;omega);refine O.o ⟨t1,?_⟩;have hX2:Jn.stay (Jn.marks a.2 s) (Jn.marks b.2 s) b.1++Jn.stay (Jn.marks b.2 s) (Jn.marks a.2 s) a.1=X:=hX.symm;rw[hX2] at h26;have hXl:X.length<=2000000:=by rw[hX];omega
 refine D.as 11 rfl t1 (K3 (C.sr λK4=>O.mv (O.call call117 (args2 rfl rfl) (sortM_spec _ _ _ _ h26 (by omega)) ?_)));rintro v_28 w11 ⟨rfl,⟨lv28,hsv28,hpv28,hav28⟩,e11⟩;have z11:=e11.size;refine K4 (C.sr λK5=>O.mv (O.mv (O.call call120 (args1 rfl) (compactM_spec _ _ _ _ hsv28 (by rw[hpv28.length_eq];omega)) ?_)));rintro v_31 w12 ⟨h31,e12⟩;have z12:=e12.size;have hfin:Jn.cpt lv28=(Jn.item a b s).2:=by subst hX;exact Jn.mset_of (Jn.both_fn ga gb s) hpv28 hav28
 rw[hfin] at h31;obtain ⟨s31,rfl⟩:=h31.sl.slv;refine O.build (cells:=#[str s,slv s31]) rfl (by kernel_rfl) (O.storeA (vs:=[str s,slv s31]) Z117 rfl rfl rfl (ones2 rfl) (((((((((h6.L e4).L e5).L e6).L e7).L e8).L e9).kM e10 (by intro h;have:=(h20.L e9).bk_ge _ h;omega)).kM e11 (by intro h;have:=(h26).bk_ge _ h;omega)).kM e12 (by intro h;have:=(hsv28).bk_ge _ h;omega)) (leB rfl) (λw13 hs13 e13 z13=>K5 (C.ret (Outs.cellA rfl isAgg117 Z117 rfl hs13 rfl ?_))));have t2:=h31.kM e13 (λk hk h=>by have:=h31.bk_ge k hk;(try dsimp only at h);omega);exact ⟨(Ext.nr (Ext.new (Ext.new (Ext.new (Ext.T (Ext.T (Ext.T (Ext.T (Ext.T (Ext.T (Ext.T (Ext.T e1 e2) e3) e4) e5) e6) e7) e8) e9) e10 (by intro i hi h;have:=(h20.L e9).bk_ge i h;omega)) e11 (by intro i hi h;have:=(h26).bk_ge i h;omega)) e12 (by intro i hi h;have:=(hsv28).bk_ge i h;omega)) e13),slv s31,rfl,(t2).fre (λj hj=>by have q1:=(t2).bk_ge j hj;(try dsimp only);omega)⟩
theorem inf42:∃ie,prog.info? 42=some ie∧ie.size=1∧ie.bytes=24∧ie.zero=some (.slice none 0 0):=by
 have h:(prog.info? 42).isSome=true:=by kernel_rfl
 exact ⟨(prog.info? 42).get h,(Option.some_get h).symm,by kernel_rfl,by kernel_rfl,by kernel_rfl⟩
theorem growV_spec (m:Nat)(w:World)(hm:m<=1000000000000):
 Ret prog 230 #[.slice none 0 0,.int .i64 ((m:Int))] w (λv w'=>Le w w'∧OwnF Dt.dotF 112 w.heap.size w' v ([])):=by
 obtain ⟨ie112,ti112,ts112,tb112,tz112⟩:=inf112;refine enT [.slice none 0 0,.int .i64 ((m:Int))] 27 func230 rfl rfl (C.sr λK1=>O.j (K1 (C.sq λK2=>C.sr λK3=>O.mv (O.lssI rfl rfl (O.cast (v':=.bool false) (cB (by exact dF (by omega))) (K3 (C.condF rfl (C.skip (K2 (C.sq λK4=>C.sr λK5=>O.mv (O.mv (O.capL U42 rfl (O.mv (O.lenL U42 rfl (O.sb rfl rfl (O.sb rfl rfl (O.cast (v':=.int .i64 (m:Int)) (cI (by omega)) (O.j (K5 (C.sr λK6=>O.mv (O.gtrI rfl rfl (K6 (C.condD rfl (λc16=>?_) (λc16=>?_))))))))))))))))))))))))
 ·
  have hm0:0<m:=by omega
  refine C.region (O.mv (O.mv (O.capL U42 rfl (O.subNil U42 Z112 rfl rfl (O.mv (O.appZ (G:=Dt.dotF) (zx:=((0,0):Dt.Dot)) (m:=m) U42 U3 ti112 tz112 ts112 rfl rfl rfl (by omega) (by rw[tb112];omega) (by unfold maxLen;omega) (Nat.le_refl _) (λb22 cap22 w1 hb22 hcap22 h22 e1=>?_)))))));have z1:=e1.size;have h22s:=h22.sl;refine O.mv (O.lenL U42 rfl (O.subLo U42 Z112 rfl rfl (by omega) (by omega) (O.j (O.o (K4 (C.sr λK7=>O.mv (O.j (K7 (C.ret (Outs.one rfl rfl ?_))))))))))
  (have hf:=h22
   have hq:(List.replicate m ((0,0):Dt.Dot)).length=m:=by simp
   rw[show Value.slice (some ⟨b22,0,none⟩) m cap22=Value.slice (some ⟨b22,0,none⟩) (List.replicate m ((0,0):Dt.Dot)).length cap22 from by rw[hq]] at hf;exact ⟨e1,((hf.first (k:=0) (Nat.zero_le _)).low (by omega)).lst rfl⟩)
 refine C.skip (K4 (C.sr λK8=>O.mv (O.j (K8 (C.ret (Outs.one rfl rfl ?_))))))
 first
 |(have hf:={app:22}
   have hq:(List.replicate m ((0,0):Dt.Dot)).length=m:=by simp
   rw[show Value.slice (some ⟨b22,0,none⟩) m cap22=Value.slice (some ⟨b22,0,none⟩) (List.replicate m ((0,0):Dt.Dot)).length cap22 from by rw[hq]] at hf;exact ⟨leR,((hf.first (k:=0) (Nat.zero_le _)).low (by omega)).lst rfl⟩)
 |exact ⟨leR,OwnF.nil _ _ _ _⟩
theorem concatV_spec (v0:Value)(ps:List (List Dt.Dot))(F:Nat->Prop)(w:World)(hl:Sl (sliE Dt.dotF.enc) w F v0 ps)(hn:ps.flatten.length<=1000000000000):
 Ret prog 172 #[v0] w (λv w'=>Le w w'∧OwnF Dt.dotF 112 w.heap.size w' v (ps.flatten)):=by
 have hle:=hl.le;obtain ⟨ie112,ti112,ts112,tb112,tz112⟩:=inf112;refine enT [v0] 36 func172 rfl rfl (C.sr λK1=>O.j (K1 (C.sr λK2=>O.j (K2 (C.sq λK3=>C.sr λK4=>O.mv (O.len U266 rfl hl (O.mv (K4 (C.bl λK5=>C.loop0 (σ:=Nat) (λf0 w0 k f wz=>f 3=.int .i64 (((ps.take k).flatten.length:Nat))∧f 11=.int .i64 (k)∧f 0=f0 0∧f 2=f0 2∧f 9=f0 9∧f 10=f0 10∧Le w wz∧k<=ps.length) (λk=>ps.length-k) 0 ?_ ?_)))))))))
 ·
  refine ⟨rfl,rfl,rfl,rfl,rfl,rfl,leR,?_⟩;exact Nat.zero_le _
 rintro k f_1 w1 ⟨s3_1,s11_1,s0_1,s2_1,s9_1,s10_1,e_1,hk⟩;have z_1:=e_1.size;refine C.sr λK6=>O.lssI s11_1 s10_1 (K6 (C.sq λK7=>C.condD rfl (λc12=>?_) (λc12=>?_)))
 ·
  have hk2:k<ps.length:=by omega
  have hfk:=Vc.flatten_take_le ps (k+1);refine C.skip (K7 (C.sq λK8=>C.bl λK9=>C.sr λK10=>O.idx U266 Z42 rfl s9_1 (hl.L e_1) s11_1 (by omega) (λa13 h13=>O.loadSl isAgg42 rfl h13 (λv14 h14=>O.j (K10 (C.sr λK11=>O.mv (O.mv (O.len U42 rfl h14 (O.addI s3_1 rfl (by have h9:=Vc.flatten_take hk2;have h8:(ps.take (k+1)).flatten.length=(ps.take k).flatten.length+ps[k].length:=(by rw[h9,List.length_append]);simp only[Int.toNat_natCast];unfold InI;omega) ?_)))))))));refine O.cast (v':=.int .i64 (((ps.take (k+1)).flatten.length:Nat):Int)) (cI (by rw[Vc.flatten_take hk2,List.length_append,Int.natCast_add];rfl)) (O.j (K11 (C.sr λK12=>O.mv (O.lssI rfl rfl (O.cast (v':=.bool false) (cB (by exact dF (by omega))) (K12 (C.condF rfl (C.skip (K9 (K8 (C.region (O.ad s11_1 rfl (O.mv (O.o (⟨k+1,⟨rfl,rfl,s0_1,s2_1,s9_1,s10_1,e_1,?_⟩,by first|omega|(simp only[];omega)⟩)))))))))))))))
  omega
 have hfk:=Vc.flatten_take_le ps k;refine C.exit (K5 (K3 (C.sr λK13=>O.mv (O.call call230 (args2 rfl s3_1) (growV_spec _ _ (by omega)) ?_))));rintro v_24 w2 ⟨e2,h24⟩;have z2:=e2.size;have h24s:=h24.sl;refine O.j (K13 (C.sq λK14=>C.sr λK15=>O.mv (O.len U266 s0_1 ((hl.L e_1).L e2) (O.mv (K15 (C.bl λK16=>C.loop0 (σ:=Nat×Value) (λf0 w0 ⟨k,o⟩ f wz=>f 6=o∧f 27=.int .i64 (k)∧f 2=f0 2∧f 25=f0 25∧f 26=f0 26∧Le w wz∧OwnF Dt.dotF 112 w.heap.size wz o ((ps.take k).flatten)∧k<=ps.length) (λ⟨k,o⟩=>ps.length-k) (0,v_24) ?_ ?_))))))
 ·
  refine ⟨rfl,rfl,rfl,rfl,rfl,(Ext.T e_1 e2),(h24.low (by omega)),?_⟩;exact Nat.zero_le _
 rintro ⟨k,o⟩ f_2 w3 ⟨s6_2,s27_2,s2_2,s25_2,s26_2,e_2,r0_2,hk⟩;have z_2:=e_2.size;have r0_2s:=r0_2.sl;refine C.sr λK17=>O.lssI s27_2 s26_2 (K17 (C.sq λK18=>C.condD rfl (λc28=>?_) (λc28=>?_)))
 ·
  have hk2:k<ps.length:=by omega
  have hfk:=Vc.flatten_take_le ps (k+1);rw[Vc.flatten_take hk2,List.length_append] at hfk;refine C.skip (K18 (C.sq λK19=>C.bl λK20=>C.sr λK21=>O.idx U266 Z42 rfl (Eq.trans s25_2 s0_1) (hl.L e_2) s27_2 (by omega) (λa29 h29=>O.loadSl isAgg42 rfl h29 (λv30 h30=>O.j (K21 (C.region (O.mv (O.mv (O.appF (G:=Dt.dotF) U42 ti112 tz112 ts112 rfl s6_2 rfl r0_2 h30 (by rw[tb112];simp only[Int.toNat_natCast];omega) (by unfold maxLen;simp only[Int.toNat_natCast];omega) (by omega) (λv33 w4 h33 e4=>?_))))))))));have z4:=e4.size;have h33s:=h33.sl;refine O.j (O.o (K20 (K19 (C.region (O.ad s27_2 rfl (O.mv (O.o (⟨(k+1,_),⟨rfl,rfl,s2_2,s25_2,s26_2,(Ext.new e_2 e4 (by intro i hi h;have:=r0_2.bk_ge i h;omega)),(h33.lst (Vc.flatten_take hk2).symm),?_⟩,by first|omega|(simp only[];omega)⟩))))))))
  omega
 refine C.exit (K16 (K14 (C.sr λK22=>O.mv (O.j (K22 (C.ret (Outs.one rfl s6_2 ?_)))))));obtain rfl:k=ps.length:=by omega
 rw[List.take_length] at r0_2;exact ⟨e_2,r0_2⟩
theorem mcmpV_spec (a b:Dt.Dot)(w:World):
 Ret prog 229 #[Dt.dv (a),Dt.dv (b)] w (λv w'=>v=.int .i64 (Dt.icmp a.1 b.1)∧Le w w'∧w.drawn<=w'.drawn):=by
 refine enT [Dt.dv (a),Dt.dv (b)] 10 func229 rfl rfl (C.sr λK1=>O.boxD (v:=Dt.dv (a)) rfl (λb2 w1 hb2 hz2 e1 d1=>?_));have z1:=e1.size;have h2:=hz2.own;have hl2:=h2.lt;refine O.boxD (v:=Dt.dv (b)) rfl (λb3 w2 hb3 hz3 e2 d2=>?_);have z2:=e2.size;have h3:=hz3.own;have hl3:=h3.lt;refine O.j (K1 (C.sr λK2=>O.fa U112 rfl Z3 rfl (O.loadO isAgg3 rfl (h2.L e2) rfl (O.fa U112 rfl Z3 rfl (O.loadO isAgg3 rfl h3 rfl (O.call call182 (args2 rfl rfl) (icmp_spec a.1 b.1 _) ?_))))));rintro v_9 w3 ⟨rfl,hw_⟩;replace hw_:=hw_.symm;subst hw_;refine O.j (K2 (C.ret (Outs.one rfl rfl ?_)));exact ⟨rfl,(Ext.T e1 e2),by omega⟩
end Go.Proofs.YtpbcafkcfobngaaGreatDoor
end
section
namespace Go.Proofs.YtpbcafkcfobngaaGreatDoor
open Go.Pn Go.RowKit Go.Proofs Go.Sort _root_.Go.Proofs.Tryz
def lessR (a b:Dt.Dot):Int:=Dt.icmp a.1 b.1
theorem lessR_lt (a b:Dt.Dot):lessR a b<0↔a.1<b.1:=by
 unfold lessR Dt.icmp
 split
 ·rename_i h
  exact ⟨λ_=>h,λ_=>by decide⟩
 ·split
  ·rename_i h1 h2
   exact ⟨λh=>absurd h (by decide),λh=>absurd h h1⟩
  ·rename_i h1 h2
   exact ⟨λh=>absurd h (by decide),λh=>absurd h h1⟩
theorem swoR:Go.Sort.SWO (ltOf lessR) where
 irrefl x:=by unfold ltOf;exact dF (λh=>by have:=(lessR_lt x x).1 h;omega)
 trans x y z h1 h2:=by
  unfold ltOf at*;simp only[decide_eq_true_eq,lessR_lt] at*
  omega
 ntrans x y z h1 h2:=by
  unfold ltOf at*;simp only[decide_eq_false_iff_not,lessR_lt] at*
  omega
theorem pdqR_spec (g cap lim:Nat)(l:List Dt.Dot)(B:Nat)(w:World)(h:OwnF Dt.dotF 112 B w (.slice (some ⟨g,0,none⟩) l.length cap) l)(hn:l.length<=1000000000)(hlim:lim=Lib.bitLen l.length):
 Ret prog 255 #[.slice (some ⟨g,0,none⟩) l.length cap,.int .i64 0,.int .i64 (l.length:Int),.int .i64 (lim:Int),.func (.func 229) #[] #[]] w (λr w'=>r=.tuple #[]∧(∃l':List Dt.Dot,OwnF Dt.dotF 112 B w' (.slice (some ⟨g,0,none⟩) l.length cap) l'∧l'.Perm l∧l'.Pairwise (λa b=>a.1<=b.1))∧Ext (λk=>k=g) w w'):=by
 obtain ⟨hH,hlt⟩:=h.holdsK;have eg:∀args w,(callFunc 229 args).run prog w=.ok (.enter 229 args) w:=enters_of func229 (by kernel_rfl) rfl;have hcmp:CmpLays prog 229 #[] Dt.dotF.e Dt.dotF.sz lessR g 0 l.toArray.size w:=λm os dk hs x y=>
  (mcmpV_spec x y _).calls.mono λe w' hh=>by
    obtain ⟨v,he,hv,hle,hd⟩:=hh;exact ⟨by rw[he,hv];rfl,grow_of_le hle hd⟩
 have hs:l.toArray.size<4611686018427387904:=by simp;omega
 have hl2:lim<4611686018427387904:=by
  rw[hlim];exact Nat.lt_of_le_of_lt (Lib.bitLen_le l.length 62 (by omega) (by omega)) (by omega)
 have hcon:=AnyQ.pdqsortCmpFunc_all Tryz.sortP Dt.dotF.sz isAgg112 Z112 Dt.dotF.e lessR 229 #[] swoR g 0 cap l.toArray w eg hcmp ⟨Dt.dotF.len,Dt.dotF.one,hH,hlt⟩ (l.toArray.size+1) 0 l.toArray.size lim l.toArray w (by omega) rfl (SWK.start hH) (Nat.zero_le _) (Nat.le_refl _) hs hl2 (Or.inl rfl);refine Ret.of hcon ?_;rintro e w' ⟨rfl,m,os,rfl⟩;obtain ⟨hp,hso⟩:=pdq_sorts (ltOf lessR) swoR l.toArray 0 l.toArray.size lim true true (Nat.zero_le _) (Nat.le_refl _) (Or.inl rfl);obtain ⟨d',hd'⟩:∃d',d'=pdq (ltOf lessR) l.toArray 0 l.toArray.size lim true true:=⟨_,rfl⟩
 rw[<-hd'] at hp hso;rw[show pdq (ltOf lessR) l.toArray 0 l.toArray.size lim true true=d' from hd'.symm];obtain ⟨hd,_,hperm⟩:=hp;have hd2:d'.size=l.length:=by simpa using hd
 obtain ⟨h1,h2⟩:=h.sortedK hd2 m os;refine ⟨_,rfl,rfl,⟨d'.toList,h1,?_,?_⟩,h2⟩
 ·have e1:(l.toArray.extract 0 l.toArray.size).toList=l:=by simp
  have e2:(d'.extract 0 l.toArray.size).toList=d'.toList:=by rw[<-hd];simp
  rw[e1,e2] at hperm;exact hperm
 ·rw [List.pairwise_iff_getElem]
  intro i j hi hj hij;have hi2:i<d'.size:=by simpa using hi
  have hj2:j<d'.size:=by simpa using hj
  have h3:=hso i j (Nat.zero_le _) hij (by simpa[hd2] using hj);unfold ltOf at h3;simp only[decide_eq_false_iff_not] at h3;rw[lessR_lt,getElem!_pos d' i hi2,getElem!_pos d' j hj2] at h3;have h4:¬(d'.toList[j]).1<(d'.toList[i]).1:=by simpa using h3
  omega
theorem blenNV_spec (m:Nat)(w:World)(hm:m<=1000000000):Ret prog 109 #[.int .u64 (m:Int)] w (λv w'=>v=.int .i64 ((Lib.bitLen m:Nat):Int)∧w'=w):=by
 refine Ret.of (Tryz.bits_Len (m:Int) w (by omega) (by omega)) ?_;rintro e w' ⟨rfl,rfl⟩;exact ⟨_,rfl,by rw[Int.toNat_natCast],rfl⟩
theorem ins0V_spec (w:World):
 Ret prog 277 #[.slice none 0 0,.int .i64 (0),.int .i64 (0),.func (.func 229) #[] #[]] w (λv w'=>v=.tuple #[]∧w'=w):=by
 refine enT [.slice none 0 0,.int .i64 (0),.int .i64 (0),.func (.func 229) #[] #[]] 53 func277 rfl rfl (C.sr λK1=>O.mv (O.ad rfl rfl (O.cast (v':=.int .i64 (1)) rfl (O.j (K1 (C.bl λK2=>C.loop0 (σ:=Nat) (λf0 w0 z f w=>f 8=.int .i64 (1)∧f 0=f0 0∧f 1=f0 1∧f 2=f0 2∧f 3=f0 3∧w=w0) (λz=>z) 0 ?_ ?_))))))
 ·
  exact ⟨rfl,rfl,rfl,rfl,rfl,rfl⟩
 rintro z f_1 wx ⟨s8_1,s0_1,s1_1,s2_1,s3_1,rfl⟩;refine C.sq λK3=>C.sr λK4=>O.mv (O.mv (O.lssI s8_1 s2_1 (O.cast (v':=.bool false) rfl (K4 (C.condF rfl (C.exit (K2 (Outs.none rfl ?_))))))))
 exact ⟨rfl,rfl⟩
theorem pdq0V_spec (lim:Int)(w:World):
 Ret prog 255 #[.slice none 0 0,.int .i64 (0),.int .i64 (0),.int .i64 (lim),.func (.func 229) #[] #[]] w (λv w'=>v=.tuple #[]∧w'=w):=by
 refine enT [.slice none 0 0,.int .i64 (0),.int .i64 (0),.int .i64 (lim),.func (.func 229) #[] #[]] 148 func255 rfl rfl (C.sr λK1=>O.j (K1 (C.sr λK2=>O.j (K2 (C.bl λK3=>C.loop0 (σ:=Nat) (λf0 w0 z f w=>f 1=.int .i64 (0)∧f 2=.int .i64 (0)∧f 10=.bool (true)∧f 11=.bool (true)∧f 0=f0 0∧f 4=f0 4∧w=w0) (λz=>z) 0 ?_ ?_)))))
 ·
  exact ⟨rfl,rfl,rfl,rfl,rfl,rfl,rfl⟩
 rintro z f_1 wx ⟨s1_1,s2_1,s10_1,s11_1,s0_1,s4_1,rfl⟩;refine C.bl λK4=>C.sr λK5=>O.mv (O.mv (O.sb s2_1 s1_1 (O.cast (v':=.int .i64 (0)) rfl (O.j (K5 (C.sq λK6=>C.sr λK7=>O.mv (O.leqI rfl rfl (O.cast (v':=.bool true) rfl (K7 (C.condT rfl (C.sr λK8=>O.mv (O.mv (O.mv (O.mv (O.call call277 (args4 s0_1 s1_1 s2_1 s4_1) (ins0V_spec _) ?_)))))))))))))))
 rintro v_30 w1 ⟨rfl,hw_⟩;replace hw_:=hw_.symm;subst hw_;refine K8 (C.ret (Outs.none rfl ?_));exact ⟨rfl,rfl⟩
theorem sort0V_spec (w:World):
 Ret prog 228 #[.slice none 0 0,.func (.func 229) #[] #[]] w (λv w'=>v=.tuple #[]∧w'=w):=by
 refine enT [.slice none 0 0,.func (.func 229) #[] #[]] 14 func228 rfl rfl (C.sr λK1=>O.mv (O.lenL U42 rfl (O.cast (v':=.int .i64 0) rfl (O.j (K1 (C.region (O.mv (O.mv (O.mv (O.convIU (m':=64) U3 U135 rfl rfl rfl (O.cast (v':=.int .u64 ((0#64).toNat:Int)) rfl (O.call call109 (args1 rfl) (blen_spec _) ?_))))))))))));rintro v_11 w1 ⟨⟨kv11,rfl⟩,rfl⟩;refine O.mv (O.call call255 (args5 rfl rfl rfl rfl rfl) (pdq0V_spec _ _) ?_);rintro v_13 w1 ⟨rfl,hw_⟩;replace hw_:=hw_.symm;subst hw_;refine O.o (Outs.none rfl ?_);exact ⟨rfl,rfl⟩
theorem sort1V_spec (g cap:Nat)(l:List Dt.Dot)(B:Nat)(w:World)(h:OwnF Dt.dotF 112 B w (.slice (some ⟨g,0,none⟩) l.length cap) l)(hn:l.length<=1000000000):
 Ret prog 228 #[.slice (some ⟨g,0,none⟩) l.length cap,.func (.func 229) #[] #[]] w (λv w'=>v=.tuple #[]∧(∃l':List Dt.Dot,OwnF Dt.dotF 112 B w' (.slice (some ⟨g,0,none⟩) l.length cap) l'∧l'.Perm l∧l'.Pairwise (λa b=>a.1<=b.1))∧Ext (λk=>k=g) w w'):=by
 refine enT [.slice (some ⟨g,0,none⟩) l.length cap,.func (.func 229) #[] #[]] 14 func228 rfl rfl (C.sr λK1=>O.mv (O.lenL U42 rfl (O.j (K1 (C.region (O.mv (O.mv (O.mv (O.convIU (m':=64) U3 U135 rfl rfl rfl (O.cast (v':=.int .u64 ((l.length:Nat):Int)) (congrArg (Value.int .u64) (by rw[BitVec.toNat_ofInt];omega)) (O.call call109 (args1 rfl) (blenNV_spec l.length _ (by omega)) ?_)))))))))));rintro v_11 w1 ⟨rfl,hw_⟩;replace hw_:=hw_.symm;subst hw_;refine O.mv (O.call call255 (args5 rfl rfl rfl rfl rfl) (pdqR_spec g cap _ l B _ h hn rfl) ?_);rintro v_13 w1 ⟨rfl,hsv13,e1⟩;have z1:=e1.size;refine O.o (Outs.none rfl ?_);exact ⟨rfl,hsv13,(Ext.nw (Ext.L _ _) e1)⟩
theorem sortV_spec (v:Value)(l:List Dt.Dot)(B:Nat)(w:World)(h:OwnF Dt.dotF 112 B w v l)(hn:l.length<=1000000000):
 Ret prog 228 #[v,.func (.func 229) #[] #[]] w (λr w'=>r=.tuple #[]∧(∃l':List Dt.Dot,OwnF Dt.dotF 112 B w' v l'∧l'.Perm l∧l'.Pairwise (λa b=>a.1<=b.1))∧Ext (bk v) w w'):=by
 rcases h.1.2 with ⟨rfl,h0⟩|⟨g,cap,cur,rfl,_⟩
 ·obtain rfl:l=[]:=List.eq_nil_of_length_eq_zero h0
  refine (sort0V_spec w).mono ?_;rintro e w' ⟨rfl,rfl⟩;exact ⟨rfl,⟨[],h,List.Perm.refl _,List.Pairwise.nil⟩,Ext.L _ _⟩
 ·exact sort1V_spec g cap l B w h hn
theorem made_spec (v0:Value)(l:List Dt.Dot)(F:Nat->Prop)(w:World)(hl:Sl Dt.dotF.enc w F v0 l)(hv:∀d∈l,Dt.Valid d)(hn:l.length<=1000000000):
 Ret prog 171 #[v0] w (λv w'=>Le w w'∧OwnF Dt.dotF 112 w.heap.size w' v (Vc.of l)):=by
 have hle:=hl.le;obtain ⟨ie112,ti112,ts112,tb112,tz112⟩:=inf112;refine enT [v0] 43 func171 rfl rfl (C.sr λK1=>O.j (K1 (C.sr λK2=>O.makeM (λb9 w1 hb9 hm9 e1=>?_))));have z1:=e1.size;have hl9:=hm9.lt;refine O.j (K2 (C.sq λK3=>C.sr λK4=>O.mv (O.len U41 rfl (hl.L e1) (O.mv (K4 (C.bl λK5=>C.loop0 (σ:=Nat) (λf0 w0 k f wz=>f 12=.int .i64 ((k:Int))∧f 2=f0 2∧f 3=f0 3∧f 10=f0 10∧f 11=f0 11∧Le w wz∧MapO wz b9 (Vc.mfold (l.take k))∧k<=l.length) (λk=>l.length-k) 0 ?_ ?_))))))
 ·
  refine ⟨rfl,rfl,rfl,rfl,rfl,e1,hm9,?_⟩;exact Nat.zero_le _
 rintro k f_1 w2 ⟨s12_1,s2_1,s3_1,s10_1,s11_1,e_1,r0_1,hk⟩;have z_1:=e_1.size;have hlm:=(r0_1).lt;refine C.sr λK6=>O.lssI s12_1 s11_1 (K6 (C.sq λK7=>C.condD rfl (λc13=>?_) (λc13=>?_)))
 ·
  have hk2:k<l.length:=by omega
  refine C.skip (K7 (C.sq λK8=>C.bl λK9=>C.sr λK10=>O.idx U41 Z112 rfl s10_1 (hl.L e_1) s12_1 (by omega) (λa14 h14=>O.loadG (G:=Dt.dotF) isAgg112 Z112 rfl h14 (O.alloc zeroValue112 (λb5 w3 hb5 hz5 e3=>?_)))));have z3:=e3.size;have h5:=hz5.own;have hl5:=h5.lt;refine O.storeA (vs:=[.int .i64 (l[(k:Int).toNat]'(by omega)).1,.int .i64 (l[(k:Int).toNat]'(by omega)).2]) Z112 rfl rfl rfl (by simp[Value.oneCell']) h5 (leB rfl) (λw4 hs4 e4 z4=>K10 (C.region (O.mv (O.fa U112 rfl Z3 rfl (O.loadO isAgg3 rfl hs4 rfl (O.mv (O.fa U112 rfl Z3 rfl (O.loadO isAgg3 rfl hs4 rfl (O.lookupM underlying264 U3 (zeroValue3 _) s3_1 rfl ((r0_1.L e3).kO e4) (O.fa U112 rfl Z3 rfl (O.loadO isAgg3 rfl hs4 rfl (O.maxI rfl rfl ?_))))))))))));refine O.updateM underlying264 U3 s3_1 rfl rfl ((r0_1.L e3).kO e4) (λw5 hu5 e5 z5=>O.o (K9 (K8 (C.region (O.ad s12_1 rfl (O.mv (O.o (⟨(k+1),⟨rfl,s2_1,s3_1,s10_1,s11_1,(Ext.nr (Ext.nr (Ext.T e_1 e3) e4) e5),(by rw[List.take_succ_eq_append_getElem hk2,Vc.mfold_snoc];exact hu5),?_⟩,by first|omega|(simp only[];omega)⟩))))))))
  omega
 have hkl:k=l.length:=by omega
 have hml:=Vc.mfold_len l;have hm28:=r0_1;rw[hkl,List.take_length] at hm28;refine C.exit (K5 (K3 (C.sr λK11=>O.j (K11 (C.sq λK12=>C.sr λK13=>O.mv (O.rangeM underlying264 s3_1 hm28 (λr28 w6 hr28 hi28 e6=>?_)))))));have z6:=e6.size;have hl28:=hi28.lt;refine K13 (C.bl λK14=>C.loop0 (σ:=List Dt.Dot×Value) (λf0 w0 ⟨done,o⟩ f wz=>f 6=o∧f 2=f0 2∧f 28=f0 28∧Le w wz∧IterO wz r28 b9 (Vc.mfold l) done∧OwnF Dt.dotF 112 (r28+1) wz o done∧done.length<=(Vc.mfold l).length) (λ⟨done,o⟩=>(Vc.mfold l).length-done.length) ([],.slice none 0 0) ?_ ?_)
 ·
  refine ⟨rfl,rfl,rfl,(Ext.T e_1 e6),hi28,(OwnF.nil _ _ _ _),?_⟩;exact Nat.zero_le _
 rintro ⟨done,o⟩ f_2 w7 ⟨s6_2,s2_2,s28_2,e_2,r0_2,r1_2,hdl⟩;have z_2:=e_2.size;have r1_2s:=r1_2.sl;have hr9:=(r0_2).lt;refine C.sr λK15=>O.nextM s28_2 r0_2 (λhp29=>?_) (λp29 w8 hm29 hn29 hl29 hi29 e8 z8=>?_)
 ·
  have hkeys:=(r0_2).map.keys;refine O.extract rfl rfl (K15 (C.sq λK16=>C.condF rfl (C.exit (K14 (K12 (C.sr λK17=>O.mv (O.call call228 (args2 s6_2 rfl) (sortV_spec o done (r28+1) _ r1_2 (by omega)) ?_)))))));rintro v_41 w9 ⟨rfl,⟨lv41,hsv41,hpv41,hav41⟩,e9⟩;have z9:=e9.size;have hof:=Vc.sorted_of hv rfl hkeys hp29 hpv41 hav41;rw[hof] at hsv41;refine K17 (C.sr λK18=>O.mv (O.j (K18 (C.ret (Outs.one rfl s6_2 ?_)))));exact ⟨(Ext.new e_2 e9 (by intro i hi h;have:=(r1_2).bk_ge i h;omega)),(hsv41).low (by omega)⟩
 refine O.extract rfl rfl (K15 (C.sq λK19=>C.condT rfl (C.skip (K19 (C.bl λK20=>C.sr λK21=>O.entryM s28_2 hi29 (O.extract rfl rfl (O.extract rfl rfl (O.j (O.j (K21 (C.region (O.mv (O.mv (O.mv (O.build (cells:=#[.int .i64 p29.1,.int .i64 p29.2]) rfl (by kernel_rfl) (O.litG (G:=Dt.dotF) [p29] U42 ti112 ts112 tz112 rfl (by decide) (by decide) rfl (λb38 w10 hb38 hz38 e10=>?_)))))))))))))))));have z10:=e10.size;have h38:=hz38.own;have hq38:=Sl.litG (n:=1) h38 rfl (by unfold maxLen;omega);have t0:=r1_2.kM e8 (λk hk h=>by have:=r1_2.bk_ge k hk;(try dsimp only at h);omega);refine O.appF (G:=Dt.dotF) U42 ti112 tz112 ts112 rfl s6_2 rfl (t0.L e10) hq38 (by rw[tb112];simp;omega) (by unfold maxLen;simp;omega) (by omega) (λv39 w11 h39 e11=>?_);have z11:=e11.size;have h39s:=h39.sl;refine O.j (O.o (K20 (⟨(done++[p29],_),⟨rfl,s2_2,s28_2,(Ext.new (Ext.T (Ext.nr e_2 e8) e10) e11 (by intro i hi h;have:=(t0.L e10).bk_ge i h;omega)),((hi29.L e10).kM e11 (by intro j hj h;have q2:=(t0.L e10).bk_ge j h;first|(have q1:=hF j hj;omega)|((try dsimp only at hj);omega))),h39,?_⟩,by show (Vc.mfold l).length-(done++[p29]).length<(Vc.mfold l).length-done.length;rw[List.length_append];show _-(done.length+1)<_;omega⟩)));rw[List.length_append];show done.length+1<=_;omega
theorem vmerge_spec (v0:Value)(a:List Dt.Dot)(v1:Value)(b:List Dt.Dot)(F F2:Nat->Prop)(w:World)(ha:Sl Dt.dotF.enc w F v0 a)(hb:Sl Dt.dotF.enc w F2 v1 b)(hF:∀k,F k->k<w.heap.size)(hF2:∀k,F2 k->k<w.heap.size)(hn:a.length<=1000000)(hm:b.length<=1000000):
 Ret prog 112 #[v0,v1] w (λv w'=>Le w w'∧∃u,v=.tuple #[u,.int .i64 (if Cn.vecValid a&&Cn.vecValid b then 0 else 2)]∧OwnF Dt.dotF 112 w.heap.size w' u (if Cn.vecValid a&&Cn.vecValid b then Vc.mrg a b else [])):=by
 have hle:=ha.le;have hbl:=hb.le;have _hF9:=hF;have _hF8:=hF2;obtain ⟨ie42,ti42,ts42,tb42,tz42⟩:=inf42;refine enT [v0,v1] 19 func112 rfl rfl (C.sr λK1=>O.j (O.j (K1 (C.sq λK2=>C.sr λK3=>O.mv (O.call call168 (args1 rfl) (vecValid_spec _ _ _ _ ha) ?_)))));rintro v_7 w1 ⟨rfl,e1⟩;have z1:=e1.size;refine O.not rfl (O.mv (O.split (x:=.tmp 9) rfl (λc9=>?_) (λc9=>?_)))
 ·
  have hva:Cn.vecValid a=false:=by simpa using c9
  refine O.no rfl (noB (isT' rfl c9) rfl) (O.no rfl (noB (isT' rfl c9) rfl) (O.no rfl (noB (isT' rfl c9) rfl) (O.pickT (isT' rfl c9) (K3 (C.condT rfl (C.sr λK4=>O.j (O.j (K4 (C.ret (Outs.two rfl rfl rfl ?_))))))))));exact ⟨e1,_,by rw[hva];rfl,by rw[hva];exact OwnF.nil _ _ _ _⟩
 have hva:Cn.vecValid a=true:=by simpa using c9
 refine O.yes rfl (isF' rfl c9) (O.mv (O.yes rfl (isF' rfl c9) (O.call call168 (args1 rfl) (vecValid_spec _ _ _ _ (hb.L e1)) ?_)));rintro v_11 w2 ⟨rfl,e2⟩;have z2:=e2.size;refine O.yes rfl (isF' rfl c9) (O.not rfl (O.pickF (isF' rfl c9) (K3 (C.cond rfl (λc13=>?_) (λc13=>?_)))))
 ·
  have hvb:Cn.vecValid b=false:=by simpa using c13
  refine C.sr λK5=>O.j (O.j (K5 (C.ret (Outs.two rfl rfl rfl ?_))))
  first
  |exact ⟨(Ext.T e1 e2),_,by rw[hva];rfl,by rw[hva];exact OwnF.nil _ _ _ _⟩
  |exact ⟨(Ext.T e1 e2),_,by rw[hva,hvb];rfl,by rw[hva,hvb];exact OwnF.nil _ _ _ _⟩
 have hvb:Cn.vecValid b=true:=by simpa using c13
 refine C.skip (K2 (C.sr λK6=>O.mv (O.mv (O.litn [v0,v1] U266 ti42 ts42 tz42 rfl (by decide) (by decide) rfl (by intro u hu;simp only[List.mem_cons,List.not_mem_nil,or_false] at hu;rcases hu with rfl|rfl;exact ha.oneC;exact hb.oneC) (λb16 w3 hb16 hz16 e3=>?_)))));have z3:=e3.size;have h16:=hz16.own;have hl16:=h16.lt;have l16:=h16.lt;obtain ⟨wb,hwb⟩:∃x,x=w3:=⟨_,rfl⟩
 have hzb:wb.heap.size=w3.heap.size:=by rw[hwb]
 have hab:Sl (sliE Dt.dotF.enc) w3 (λj=>j=b16∨j<wb.heap.size) (.slice (some ⟨b16,0,none⟩) 2 2) [a,b]:=Sl.lits (F:=λj=>j<wb.heap.size) h16 rfl (by unfold maxLen;simp) λi h1 h2=>by
  match i,h1,h2 with
  |0,_,_=>exact ((((ha.L e1).L e2).L e3)).weak (by intro j hj;have q1:=hF j hj;show j<wb.heap.size;omega)
  |1,_,_=>exact ((((hb.L e1).L e2).L e3)).weak (by intro j hj;have q1:=hF2 j hj;show j<wb.heap.size;omega)
 refine O.call call172 (args1 rfl) (concatV_spec _ [a,b] _ _ hab (by simp;omega)) ?_;rintro v_17 w4 ⟨e4,h17⟩;have z4:=e4.size;have h17s:=h17.sl;replace h17s:=h17s.weak (λk _=>trivial);rw[show [a,b].flatten=a++b by simp] at h17s;refine O.call call171 (args1 rfl) (made_spec v_17 (a++b) _ _ h17s (Vc.both_valid (Vc.ok_iff.1 hva).2 (Vc.ok_iff.1 hvb).2) (by rw[List.length_append];omega)) ?_;rintro v_18 w5 ⟨e5,h18⟩;have z5:=e5.size;refine O.j (O.j (K6 (C.ret (Outs.two rfl rfl rfl ?_))))
 first
 |exact ⟨(Ext.T (Ext.T (Ext.T (Ext.T e1 e2) e3) e4) e5),_,by rw[hva];rfl,by rw[hva];exact OwnF.nil _ _ _ _⟩
 |exact ⟨(Ext.T (Ext.T (Ext.T (Ext.T e1 e2) e3) e4) e5),_,by rw[hva,hvb];rfl,by rw[hva,hvb];exact OwnF.nil _ _ _ _⟩
 |exact ⟨(Ext.T (Ext.T (Ext.T (Ext.T e1 e2) e3) e4) e5),_,by rw[hva,hvb];rfl,by rw[hva,hvb];exact (h18).low (by omega)⟩
end Go.Proofs.YtpbcafkcfobngaaGreatDoor
end
section
namespace Go.Proofs.YtpbcafkcfobngaaGreatDoor
open Go.Pn Go.RowKit Go.Proofs _root_.Go.Proofs.Tryz
attribute [local irreducible] O C D
theorem vraise_spec (v0:Value)(l:List Dt.Dot)(F:Nat->Prop)(d:Dt.Dot)(w:World)(hl:Sl Dt.dotF.enc w F v0 l)(hF:∀k,F k->k<w.heap.size)(hn:l.length<=1000000):
 Ret prog 173 #[v0,Dt.dv (d)] w (λv w'=>Le w w'∧∃u,v=.tuple #[u,.int .i64 (if Cn.vecValid l&&Cn.vecValid [d] then 0 else 2)]∧OwnF Dt.dotF 112 w.heap.size w' u (if Cn.vecValid l&&Cn.vecValid [d] then Vc.mrg l [d] else [])):=by
 have hle:=hl.le;have _hF9:=hF;obtain ⟨ie112,ti112,ts112,tb112,tz112⟩:=inf112;refine enT [v0,Dt.dv (d)] 12 func173 rfl rfl (C.sr λK1=>O.box (v:=Dt.dv (d)) rfl (λb3 w1 hb3 hz3 e1=>?_));have z1:=e1.size;have h3:=hz3.own;have hl3:=h3.lt;refine O.j (O.j (K1 (C.sr λK2=>O.mv (O.loadOA isAgg112 Z112 rfl h3 (leB rfl) (O.litG (G:=Dt.dotF) [d] U42 ti112 ts112 tz112 rfl (by decide) (by decide) rfl (λb8 w2 hb8 hz8 e2=>?_))))));have z2:=e2.size;have h8:=hz8.own;have hq8:=Sl.litG (n:=1) h8 rfl (by unfold maxLen;omega);refine O.call call112 (args2 rfl rfl) (vmerge_spec v0 l (.slice (some ⟨b8,0,none⟩) 1 1) [d] F (λk=>k=b8) _ ((hl.L e1).L e2) hq8 (λj hj=>by have q1:=hF j hj;omega) (λj hj=>by have hj:j=b8:=hj;have q1:=(h8).lt;omega) hn (by simp)) ?_;rintro v_9 w3 ⟨e3,uv9,rfl,h9⟩;have z3:=e3.size;refine O.extract rfl rfl (O.extract rfl rfl (O.j (O.j (K2 (C.ret (Outs.two rfl rfl rfl ?_))))));exact ⟨(Ext.T (Ext.T e1 e2) e3),_,rfl,(h9).low (by omega)⟩
def Clo (g:Nat)(cs:List Value)(o:Nat)(keep:Bool):Prop:=(∀args w,(callFunc g args).run prog w=.ok (.enter g args) w)∧
 ∀(d:Dt.Dot) (B:Nat) (vo:Value) (xs:List Dt.Dot) (w:World),Own w o 41 [vo]->OwnF Dt.dotF 112 B w vo xs->B<=w.heap.size->o<B->xs.length<=100000->
  Ret prog g ([Dt.dv d]++cs).toArray w (λ_ w'=>∃v',Own w' o 41 [v']∧OwnF Dt.dotF 112 B w' v' (if keep then xs++[d] else xs)∧Ext (λk=>k=o∨B<=k) w w')
theorem keepU_spec (d:Dt.Dot)(o B:Nat)(vo:Value)(xs:List Dt.Dot)(w:World)(hb:Own w o 41 [vo])(ho:OwnF Dt.dotF 112 B w vo xs)(hB:B<=w.heap.size)(hoB:o<B)(hn:xs.length<=100000):
 Ret prog 174 #[Dt.dv (d),.pointer (some ⟨o,0,none⟩)] w (λv w'=>v=.tuple #[]∧∃v',Own w' o 41 [v']∧OwnF Dt.dotF 112 B w' v' (xs++[d])∧Ext (λk=>k=o∨B<=k) w w'):=by
 obtain ⟨ie112,ti112,ts112,tb112,tz112⟩:=inf112;refine enT [Dt.dv (d),.pointer (some ⟨o,0,none⟩)] 7 func174 rfl rfl (C.sr λK1=>O.box (v:=Dt.dv (d)) rfl (λb2 w1 hb2 hz2 e1=>?_));have z1:=e1.size;have h2:=hz2.own;have hl2:=h2.lt;refine K1 (C.region (O.loadO isAgg41 rfl (hb.L e1) rfl (O.loadOA isAgg112 Z112 rfl h2 (leB rfl) (O.litG (G:=Dt.dotF) [d] U41 ti112 ts112 tz112 rfl (by decide) (by decide) rfl (λb5 w2 hb5 hz5 e2=>?_)))));have z2:=e2.size;have h5:=hz5.own;have hq5:=Sl.litG (n:=1) h5 rfl (by unfold maxLen;omega);refine O.appF (G:=Dt.dotF) U41 ti112 tz112 ts112 rfl rfl rfl ((ho.L e1).L e2) hq5 (by rw[tb112];simp;omega) (by unfold maxLen;simp;omega) (by omega) (λv6 w3 h6 e3=>?_);have z3:=e3.size;have h6s:=h6.sl;refine O.store Z41 rfl rfl h6.one (((hb.L e1).L e2).kM e3 (by intro h;have:=((ho.L e1).L e2).bk_ge _ h;omega)) (by simp) (λw4 hs4 e4 z4=>?_)
 (try simp only[Int.toNat_natCast] at hs4);(try simp only[Nat.zero_add] at hs4);(try simp only[Nat.mul_one] at hs4)
 refine O.o (Outs.none rfl ?_);exact ⟨rfl,v6,hs4,(h6.kM e4 (by intro k hk h;have h0:k=o:=h;have:=h6.bk_ge k hk;omega)),(Ext.T (Ext.T (Ext.T (Le.to e1) (Le.to e2)) (Ext.mono e3 (by intro k _ hk;first|exact .inl hk|exact .inr (ho.bk_ge k hk).1))) (Ext.mono e4 (by intro k _ hk;first|exact .inl hk|exact .inr (ho.bk_ge k hk).1)))⟩
theorem clo_keepU (o:Nat):Clo 174 [.pointer (some ⟨o,0,none⟩)] o true:=⟨call174,λd B vo xs w hb ho hB hoB hn=>(keepU_spec d o B vo xs w hb ho hB hoB hn).mono λ_ _ h=>h.2⟩
theorem parts_spec (va:Value)(a:List Dt.Dot)(vb:Value)(b:List Dt.Dot)(F F2:Nat->Prop)(g1 g2 g3:Nat)(c1 c2 c3:List Value)(k1 k2 k3:Bool)(o:Nat)(w:World)(ha:Sl Dt.dotF.enc w F va a)(hb:Sl Dt.dotF.enc w F2 vb b)(hn:a.length<=40000)(hm:b.length<=40000)(hbo:Own w o 41 [.slice none 0 0])(C1:Clo g1 c1 o k1)(C2:Clo g2 c2 o k2)(C3:Clo g3 c3 o k3):
 Ret prog 175 #[va,vb,.func (.func g1) #[] c1.toArray,.func (.func g2) #[] c2.toArray,.func (.func g3) #[] c3.toArray] w (λv w'=>v=.tuple #[]∧(∃vo B,Own w' o 41 [vo]∧OwnF Dt.dotF 112 B w' vo (Dt.merge k1 k2 k3 (Dt.set a) (Dt.set b))∧w.heap.size<=B)∧Ext (λk=>k=o) w w'):=by
 have hlo:=hbo.lt;have hsa:=Dt.addAll_length a [];have hsb:=Dt.addAll_length b [];simp only[List.length_nil,Nat.zero_add] at hsa hsb;refine enT [va,vb,.func (.func g1) #[] c1.toArray,.func (.func g2) #[] c2.toArray,.func (.func g3) #[] c3.toArray] 78 func175 rfl rfl (C.sr λK1=>O.mv (O.call call149 (args1 rfl) (set_spec _ _ _ _ ha (by omega)) ?_));rintro v_11 w1 ⟨e1,h11⟩;have z1:=e1.size;refine O.mv (O.call call149 (args1 rfl) (set_spec _ _ _ _ (hb.L e1) (by omega)) ?_);rintro v_13 w2 ⟨e2,h13⟩;have z2:=e2.size;obtain ⟨B,hBd⟩:∃B,B=w2.heap.size:=⟨_,rfl⟩
 have hoB:o<B:=by omega
 have y11:=(((h11.L e2)).sl).weak (F':=λk=>k<B∧k≠o) (λk hk=>by have q:=((h11.L e2)).bk_ge k hk;constructor<;>omega);have y13:=(h13.sl).weak (F':=λk=>k<B∧k≠o) (λk hk=>by have q:=h13.bk_ge k hk;constructor<;>omega);refine O.j (O.j (K1 (C.bl λK2=>C.loop0 (σ:=Value×Value×List Dt.Dot×List Dt.Dot×Value×List Dt.Dot) (λf0 w0 ⟨ua,ub,x,y,vo,out⟩ f w=>f 0=ua∧f 1=ub∧f 2=f0 2∧f 3=f0 3∧f 4=f0 4∧Ext (λk=>k=o∨B<=k) w0 w∧Sl Dt.dotF.enc w (λk=>k<B∧k≠o) ua x∧Sl Dt.dotF.enc w (λk=>k<B∧k≠o) ub y∧Own w o 41 [vo]∧OwnF Dt.dotF 112 B w vo out∧out.length+x.length+y.length<=80000∧out++Dt.merge k1 k2 k3 x y=Dt.merge k1 k2 k3 (Dt.set a) (Dt.set b)) (λ⟨ua,ub,x,y,vo,out⟩=>x.length+y.length) (v_11,v_13,Dt.set a,Dt.set b,.slice none 0 0,[]) ?_ ?_)))
 ·
  refine ⟨rfl,rfl,rfl,rfl,rfl,Ext.L _ _,y11,y13,((hbo.L e1).L e2),(OwnF.nil _ _ _ _),?_⟩;exact ⟨by unfold Dt.set;simp;omega,rfl⟩
 rintro ⟨ua,ub,x,y,vo,out⟩ f_1 w3 ⟨s0_1,s1_1,s2_1,s3_1,s4_1,e_1,r0_1,r1_1,r2_1,r3_1,⟨hlen,hI⟩⟩;have z_1:=e_1.size;refine C.sq λK3=>C.sr λK4=>O.mv (O.len U41 s0_1 r0_1 (O.gtrI rfl rfl (O.mv (O.cut 4 (λf f'=>f' 21=.bool (decide ((0:Int)<(x.length:Int)∨(0:Int)<(y.length:Int)))∧f' 0=f 0∧f' 1=f 1∧f' 2=f 2∧f' 3=f 3∧f' 4=f 4) ?_ ?_))))
 ·
  refine O.splitD (x:=.tmp 17) rfl (λc17=>?_) (λc17=>?_)
  ·
   refine O.no rfl (noB (isT rfl c17) rfl) (O.no rfl (noB (isT rfl c17) rfl) (O.no rfl (noB (isT rfl c17) rfl) (O.pickT (isT rfl c17) (O.o (⟨⟨?_,rfl,rfl,rfl,rfl,rfl⟩,rfl⟩)))));exact dJ rfl
  refine O.yes rfl (isF rfl c17) (O.mv (O.yes rfl (isF rfl c17) (O.len U41 s1_1 r1_1 (O.yes rfl (isF rfl c17) (O.gtrI rfl rfl (O.pickF (isF rfl c17) (O.o (⟨⟨?_,rfl,rfl,rfl,rfl,rfl⟩,rfl⟩))))))));exact dJ rfl
 rintro f_2 ⟨s21_2,s0_2,s1_2,s2_2,s3_2,s4_2⟩;refine K4 (C.condD s21_2 (λc21=>?_) (λc21=>?_))
 ·
  refine C.skip (K3 (C.bl λK5=>C.bl λK6=>C.sd λK7 w4 e4 z4=>D.mv 0 rfl leR (D.tk 1 rfl rfl rfl rfl leR len_form (λ_ hw_ _ hN=>O.len U41 (Eq.trans s1_2 s1_1) ((r1_1.L e4).L hw_) (O.o hN)) (D.t 2 rfl leR (λ_ _ _ hN=>O.eqlI rfl rfl (O.o hN)) (D.mv 3 rfl leR (D.splitD (x:=.tmp 35) rfl (λc35=>?_) (λc35=>?_)))))))
  ·
   refine D.tn 4 rfl rfl leR rfl (noB (isT rfl c35) rfl) (D.tn 5 rfl rfl leR rfl (noB (isT rfl c35) rfl) (D.tn 6 rfl rfl leR rfl (noB (isT rfl c35) rfl) (D.tn 7 rfl rfl leR rfl (noB (isT rfl c35) rfl) (D.tn 8 rfl rfl leR rfl (noU rfl) (D.tn 9 rfl rfl leR rfl (noU rfl) (D.tn 10 rfl rfl leR rfl (noU rfl) (D.tn 11 rfl rfl leR rfl (noU rfl) (D.tn 12 rfl rfl leR rfl (noU rfl) (D.tn 13 rfl rfl leR rfl (noU rfl) (D.tn 14 rfl rfl leR rfl (noU rfl) (D.tn 15 rfl rfl leR rfl (noU rfl) (D.tn 16 rfl rfl leR rfl (noB (isT rfl c35) rfl) ?_))))))))))));refine D.tk 17 rfl rfl rfl rfl leR pick_form (λ_ hw_ _ hN=>O.pickT (isT rfl c35) (O.o hN)) (D.as 18 rfl leR (K7 (C.condT rfl (C.sr λK8=>O.mv ?_))));obtain ⟨d0,x2,rfl⟩:∃d0 x2,x=d0::x2:=List.exists_cons_of_length_pos (by omega);refine O.mv (O.idx U41 Z112 rfl (Eq.trans s0_2 s0_1) (r0_1.L e4) rfl (by omega) (λa52 h52=>O.loadG (G:=Dt.dotF) isAgg112 Z112 rfl h52 (O.callV (vs:=[Dt.dv d0]) C1.1 (Eq.trans s2_2 s2_1) (args1 rfl) (C1.2 d0 B vo out w4 (r2_1.L e4) (r3_1.L e4) (by omega) hoB (by omega)) ?_)));rintro v_54 w5 ⟨vo54,hb54,ho54,e5⟩;have z5:=e5.size;refine K8 (C.region (O.mv ?_));have hb56:=Sl.sub (P:=prog) (1) ((d0::x2).length) U41 Z112 (by rfl) ((r0_1.L e4).kM e5 (by rintro k ⟨q1,q2⟩ (q3|q3);exact q2 q3;omega)) (by simp) (Nat.le_refl _);obtain ⟨v56,hs56,hr56⟩:=hb56;refine O.subR (Eq.trans s0_2 s0_1) hr56 (.inr ⟨_,_,rfl,rfl⟩) (.inl ⟨rfl,rfl⟩) ?_;simp only[List.take_length,List.drop_succ_cons,List.drop_zero] at hs56;refine O.j (O.o (K6 (K5 (⟨(_,_,_,_,_,_),⟨rfl,(Eq.trans s1_2 s1_1),(Eq.trans s2_2 s2_1),(Eq.trans s3_2 s3_1),(Eq.trans s4_2 s4_1),(Ext.T (Ext.T e_1 (Le.to e4)) (e5)),hs56,((r1_1.L e4).kM e5 (by rintro k ⟨q1,q2⟩ (q3|q3);exact q2 q3;omega)),hb54,ho54,?_⟩,(by simp<;>omega)⟩))));refine ⟨(by simp only[List.length_cons] at hlen;split<;>first|omega|(simp only[List.length_append,List.length_cons,List.length_nil];omega)),?_⟩;exact Dt.keepA hI (.inl (List.eq_nil_of_length_eq_zero (by omega)))
  refine D.ty 4 rfl rfl rfl rfl (isF rfl c35) leR ⟨pure _,rfl⟩ (λ_ hw_ _ hN=>O.mv (O.o hN)) (D.ty 5 rfl rfl rfl rfl (isF rfl c35) leR len_form (λ_ hw_ _ hN=>O.len U41 (Eq.trans s0_2 s0_1) ((r0_1.L e4).L hw_) (O.o hN)) (D.ty 6 rfl rfl rfl rfl (isF rfl c35) leR ⟨_,rfl⟩ (λ_ hw_ _ hN=>O.gtrI rfl rfl (O.o hN)) (D.ty 7 rfl rfl rfl rfl (isF rfl c35) leR ⟨pure _,rfl⟩ (λ_ hw_ _ hN=>O.mv (O.o hN)) (D.splitD (x:=.tmp 39) rfl (λc39=>?_) (λc39=>?_)))))
  ·
   refine D.ty 8 rfl rfl rfl rfl (isT rfl c39) leR ⟨pure _,rfl⟩ (λ_ hw_ _ hN=>O.mv (O.o hN)) ?_;obtain ⟨a41,h41,hr41⟩:=Sl.at (i:=0) (P:=prog) U41 Z112 rfl (r0_1.L e4) (by omega);refine D.ty 9 rfl rfl rfl rfl (isT rfl c39) leR ⟨_,rfl⟩ (λ_ hw_ _ hN=>O.idxR (Eq.trans s0_2 s0_1) rfl hr41 (O.o hN)) (D.ty 10 rfl rfl rfl rfl (isT rfl c39) leR ⟨_,rfl⟩ (λ_ hw_ _ hN=>O.loadG (G:=Dt.dotF) isAgg112 Z112 rfl (h41.L hw_) (O.o hN)) (D.ty 11 rfl rfl rfl rfl (isT rfl c39) leR ⟨pure _,rfl⟩ (λ_ hw_ _ hN=>O.mv (O.o hN)) ?_));obtain ⟨a44,h44,hr44⟩:=Sl.at (i:=0) (P:=prog) U41 Z112 rfl (r1_1.L e4) (by omega);refine D.ty 12 rfl rfl rfl rfl (isT rfl c39) leR ⟨_,rfl⟩ (λ_ hw_ _ hN=>O.idxR (Eq.trans s1_2 s1_1) rfl hr44 (O.o hN)) (D.ty 13 rfl rfl rfl rfl (isT rfl c39) leR ⟨_,rfl⟩ (λ_ hw_ _ hN=>O.loadG (G:=Dt.dotF) isAgg112 Z112 rfl (h44.L hw_) (O.o hN)) (D.oneYes (i:=14) rfl rfl (isT rfl c39) (by kernel_rfl) (O.call call119 (args2 rfl rfl) (cmp_spec (x[(0:Int).toNat]'(by omega)) (y[(0:Int).toNat]'(by omega)) _) ?_)));rintro v_46 w6 ⟨rfl,e6,_⟩;have z6:=e6.size;refine O.o ⟨e6,D.ty 15 rfl rfl rfl rfl (isT rfl c39) e6 ⟨_,rfl⟩ (λ_ hw_ _ hN=>O.lssI rfl rfl (O.o hN)) (D.ty 16 rfl rfl rfl rfl (isF rfl c35) e6 pick_form (λ_ hw_ _ hN=>O.pickT (isT rfl c39) (O.o hN)) (D.tk 17 rfl rfl rfl rfl e6 pick_form (λ_ hw_ _ hN=>O.pickF (isF rfl c35) (O.o hN)) (D.as 18 rfl e6 (K7 (C.condD rfl (λc31=>?_) (λc31=>?_))))))⟩
   ·
    refine C.sr λK9=>O.mv ?_
    obtain ⟨d0,x2,rfl⟩:∃d0 x2,x=d0::x2:=List.exists_cons_of_length_pos (by omega);refine O.mv (O.idx U41 Z112 rfl (Eq.trans s0_2 s0_1) ((r0_1.L e4).L e6) rfl (by omega) (λa52 h52=>O.loadG (G:=Dt.dotF) isAgg112 Z112 rfl h52 (O.callV (vs:=[Dt.dv d0]) C1.1 (Eq.trans s2_2 s2_1) (args1 rfl) (C1.2 d0 B vo out w6 ((r2_1.L e4).L e6) ((r3_1.L e4).L e6) (by omega) hoB (by omega)) ?_)));rintro v_54 w7 ⟨vo54,hb54,ho54,e7⟩;have z7:=e7.size;refine K9 (C.region (O.mv ?_));have hb56:=Sl.sub (P:=prog) (1) ((d0::x2).length) U41 Z112 (by rfl) (((r0_1.L e4).L e6).kM e7 (by rintro k ⟨q1,q2⟩ (q3|q3);exact q2 q3;omega)) (by simp) (Nat.le_refl _);obtain ⟨v56,hs56,hr56⟩:=hb56;refine O.subR (Eq.trans s0_2 s0_1) hr56 (.inr ⟨_,_,rfl,rfl⟩) (.inl ⟨rfl,rfl⟩) ?_;simp only[List.take_length,List.drop_succ_cons,List.drop_zero] at hs56;refine O.j (O.o (K6 (K5 (⟨(_,_,_,_,_,_),⟨rfl,(Eq.trans s1_2 s1_1),(Eq.trans s2_2 s2_1),(Eq.trans s3_2 s3_1),(Eq.trans s4_2 s4_1),(Ext.T (Ext.T (Ext.T e_1 (Le.to e4)) (Le.to e6)) (e7)),hs56,(((r1_1.L e4).L e6).kM e7 (by rintro k ⟨q1,q2⟩ (q3|q3);exact q2 q3;omega)),hb54,ho54,?_⟩,(by simp<;>omega)⟩))));refine ⟨(by simp only[List.length_cons] at hlen;split<;>first|omega|(simp only[List.length_append,List.length_cons,List.length_nil];omega)),?_⟩
    first
    |exact Dt.keepA hI (.inl (List.eq_nil_of_length_eq_zero (by omega)))
    |exact Dt.keepA hI (Dt.first_of (by omega) c31)
   refine C.sd λK10 w8 e8 z8=>D.mv 0 rfl leR ?_
   have t0:=(r0_1.L e4).L e6;refine D.tk 1 rfl rfl rfl rfl leR len_form (λ_ hw_ _ hN=>O.len U41 (Eq.trans s0_2 s0_1) ((t0.L e8).L hw_) (O.o hN)) (D.t 2 rfl leR (λ_ _ _ hN=>O.eqlI rfl rfl (O.o hN)) (D.mv 3 rfl leR (D.splitD (x:=.tmp 61) rfl (λc61=>?_) (λc61=>?_))))
   ·
    exfalso;omega
   refine D.ty 4 rfl rfl rfl rfl (isF rfl c61) leR ⟨pure _,rfl⟩ (λ_ hw_ _ hN=>O.mv (O.o hN)) ?_;obtain ⟨a63,h63,hr63⟩:=Sl.at (i:=0) (P:=prog) U41 Z112 rfl (t0.L e8) (by omega);refine D.ty 5 rfl rfl rfl rfl (isF rfl c61) leR ⟨_,rfl⟩ (λ_ hw_ _ hN=>O.idxR (Eq.trans s0_2 s0_1) rfl hr63 (O.o hN)) (D.ty 6 rfl rfl rfl rfl (isF rfl c61) leR ⟨_,rfl⟩ (λ_ hw_ _ hN=>O.loadG (G:=Dt.dotF) isAgg112 Z112 rfl (h63.L hw_) (O.o hN)) (D.ty 7 rfl rfl rfl rfl (isF rfl c61) leR ⟨pure _,rfl⟩ (λ_ hw_ _ hN=>O.mv (O.o hN)) ?_));have t1:=(r1_1.L e4).L e6;obtain ⟨a66,h66,hr66⟩:=Sl.at (i:=0) (P:=prog) U41 Z112 rfl (t1.L e8) (by omega);refine D.ty 8 rfl rfl rfl rfl (isF rfl c61) leR ⟨_,rfl⟩ (λ_ hw_ _ hN=>O.idxR (Eq.trans s1_2 s1_1) rfl hr66 (O.o hN)) (D.ty 9 rfl rfl rfl rfl (isF rfl c61) leR ⟨_,rfl⟩ (λ_ hw_ _ hN=>O.loadG (G:=Dt.dotF) isAgg112 Z112 rfl (h66.L hw_) (O.o hN)) (D.oneYes (i:=10) rfl rfl (isF rfl c61) (by kernel_rfl) (O.call call119 (args2 rfl rfl) (cmp_spec (x[(0:Int).toNat]'(by omega)) (y[(0:Int).toNat]'(by omega)) _) ?_)));rintro v_68 w9 ⟨rfl,e9,_⟩;have z9:=e9.size;refine O.o ⟨e9,D.ty 11 rfl rfl rfl rfl (isF rfl c61) e9 ⟨_,rfl⟩ (λ_ hw_ _ hN=>O.gtrI rfl rfl (O.o hN)) (D.tk 12 rfl rfl rfl rfl e9 pick_form (λ_ hw_ _ hN=>O.pickF (isF rfl c61) (O.o hN)) (D.as 13 rfl e9 (K10 (C.condD rfl (λc57=>?_) (λc57=>?_)))))⟩
   ·
    refine C.sr λK11=>O.mv ?_
    obtain ⟨d1,y2,rfl⟩:∃d1 y2,y=d1::y2:=List.exists_cons_of_length_pos (by omega);refine O.mv (O.idx U41 Z112 rfl (Eq.trans s1_2 s1_1) ((t1.L e8).L e9) rfl (by omega) (λa73 h73=>O.loadG (G:=Dt.dotF) isAgg112 Z112 rfl h73 (O.callV (vs:=[Dt.dv d1]) C3.1 (Eq.trans s4_2 s4_1) (args1 rfl) (C3.2 d1 B vo out w9 ((((r2_1.L e4).L e6).L e8).L e9) ((((r3_1.L e4).L e6).L e8).L e9) (by omega) hoB (by omega)) ?_)));rintro v_75 w10 ⟨vo75,hb75,ho75,e10⟩;have z10:=e10.size;refine K11 (C.region (O.mv ?_));have hb77:=Sl.sub (P:=prog) (1) ((d1::y2).length) U41 Z112 (by rfl) (((t1.L e8).L e9).kM e10 (by rintro k ⟨q1,q2⟩ (q3|q3);exact q2 q3;omega)) (by simp) (Nat.le_refl _);obtain ⟨v77,hs77,hr77⟩:=hb77;refine O.subR (Eq.trans s1_2 s1_1) hr77 (.inr ⟨_,_,rfl,rfl⟩) (.inl ⟨rfl,rfl⟩) ?_;simp only[List.take_length,List.drop_succ_cons,List.drop_zero] at hs77;refine O.j (O.o (K6 (K5 (⟨(_,_,_,_,_,_),⟨(Eq.trans s0_2 s0_1),rfl,(Eq.trans s2_2 s2_1),(Eq.trans s3_2 s3_1),(Eq.trans s4_2 s4_1),(Ext.T (Ext.T (Ext.T (Ext.T (Ext.T e_1 (Le.to e4)) (Le.to e6)) (Le.to e8)) (Le.to e9)) (e10)),(((t0.L e8).L e9).kM e10 (by rintro k ⟨q1,q2⟩ (q3|q3);exact q2 q3;omega)),hs77,hb75,ho75,?_⟩,(by simp<;>omega)⟩))));refine ⟨(by simp only[List.length_cons] at hlen;split<;>first|omega|(simp only[List.length_append,List.length_cons,List.length_nil];omega)),?_⟩
    first
    |exact Dt.keepA hI (.inl (List.eq_nil_of_length_eq_zero (by omega)))
    |exact Dt.keepA hI (Dt.first_of (by omega) c31)
    |exact Dt.keepC hI (.inl (List.eq_nil_of_length_eq_zero (by omega)))
    |exact Dt.keepC hI (Dt.second_of (by omega) c57)
   refine C.sr λK12=>O.mv ?_
   obtain ⟨d0,x2,rfl⟩:∃d0 x2,x=d0::x2:=List.exists_cons_of_length_pos (by omega);obtain ⟨d1,y2,rfl⟩:∃d1 y2,y=d1::y2:=List.exists_cons_of_length_pos (by omega);refine O.mv (O.idx U41 Z112 rfl (Eq.trans s0_2 s0_1) ((t0.L e8).L e9) rfl (by omega) (λa24 h24=>O.loadG (G:=Dt.dotF) isAgg112 Z112 rfl h24 (O.callV (vs:=[Dt.dv d0]) C2.1 (Eq.trans s3_2 s3_1) (args1 rfl) (C2.2 d0 B vo out w9 ((((r2_1.L e4).L e6).L e8).L e9) ((((r3_1.L e4).L e6).L e8).L e9) (by omega) hoB (by omega)) ?_)));rintro v_26 w11 ⟨vo26,hb26,ho26,e11⟩;have z11:=e11.size;refine K12 (C.draw (by kernel_rfl) λw12 e12=>?_);have z12:=e12.size;refine D.mv 0 rfl leR ?_;have hb28:=Sl.sub (P:=prog) (1) ((d0::x2).length) U41 Z112 (by rfl) ((((t0.L e8).L e9).kM e11 (by rintro k ⟨q1,q2⟩ (q3|q3);exact q2 q3;omega)).L e12) (by simp) (Nat.le_refl _);obtain ⟨v28,hs28,hr28⟩:=hb28;refine D.t 1 rfl leR (λ_ _ _ hN=>O.subR (Eq.trans s0_2 s0_1) hr28 (.inr ⟨_,_,rfl,rfl⟩) (.inl ⟨rfl,rfl⟩) (O.o hN)) ?_;simp only[List.take_length,List.drop_succ_cons,List.drop_zero] at hs28;refine D.mv 2 rfl leR ?_;have hb30:=Sl.sub (P:=prog) (1) ((d1::y2).length) U41 Z112 (by rfl) ((((t1.L e8).L e9).kM e11 (by rintro k ⟨q1,q2⟩ (q3|q3);exact q2 q3;omega)).L e12) (by simp) (Nat.le_refl _);obtain ⟨v30,hs30,hr30⟩:=hb30;refine D.t 3 rfl leR (λ_ _ _ hN=>O.subR (Eq.trans s1_2 s1_1) hr30 (.inr ⟨_,_,rfl,rfl⟩) (.inl ⟨rfl,rfl⟩) (O.o hN)) ?_;simp only[List.take_length,List.drop_succ_cons,List.drop_zero] at hs30;refine D.as 4 rfl leR (D.as 5 rfl leR (D.dn (K6 (K5 (⟨(_,_,_,_,_,_),⟨rfl,rfl,(Eq.trans s2_2 s2_1),(Eq.trans s3_2 s3_1),(Eq.trans s4_2 s4_1),(Ext.T (Ext.T (Ext.T (Ext.T (Ext.T (Ext.T e_1 (Le.to e4)) (Le.to e6)) (Le.to e8)) (Le.to e9)) (e11)) (Le.to e12)),hs28,hs30,(hb26.L e12),(ho26.L e12),?_⟩,(by simp<;>omega)⟩)))));refine ⟨(by simp only[List.length_cons] at hlen;split<;>first|omega|(simp only[List.length_append,List.length_cons,List.length_nil];omega)),?_⟩
   first
   |exact Dt.keepA hI (.inl (List.eq_nil_of_length_eq_zero (by omega)))
   |exact Dt.keepA hI (Dt.first_of (by omega) c31)
   |exact Dt.keepC hI (.inl (List.eq_nil_of_length_eq_zero (by omega)))
   |exact Dt.keepC hI (Dt.second_of (by omega) c57)
   |exact Dt.keepB hI c31 c57
  refine D.tn 8 rfl rfl leR rfl (noB (isF rfl c39) rfl) (D.tn 9 rfl rfl leR rfl (noB (isF rfl c39) rfl) (D.tn 10 rfl rfl leR rfl (noB (isF rfl c39) rfl) (D.tn 11 rfl rfl leR rfl (noB (isF rfl c39) rfl) (D.tn 12 rfl rfl leR rfl (noB (isF rfl c39) rfl) (D.tn 13 rfl rfl leR rfl (noB (isF rfl c39) rfl) (D.tn 14 rfl rfl leR rfl (noB (isF rfl c39) rfl) (D.tn 15 rfl rfl leR rfl (noB (isF rfl c39) rfl) (D.ty 16 rfl rfl rfl rfl (isF rfl c35) leR pick_form (λ_ hw_ _ hN=>O.pickF (isF rfl c39) (O.o hN)) (D.tk 17 rfl rfl rfl rfl leR pick_form (λ_ hw_ _ hN=>O.pickF (isF rfl c35) (O.o hN)) ?_)))))))));refine D.as 18 rfl leR (K7 (C.condF rfl (C.sd λK13 w13 e13 z13=>D.mv 0 rfl leR (D.tk 1 rfl rfl rfl rfl leR len_form (λ_ hw_ _ hN=>O.len U41 (Eq.trans s0_2 s0_1) (((r0_1.L e4).L e13).L hw_) (O.o hN)) (D.t 2 rfl leR (λ_ _ _ hN=>O.eqlI rfl rfl (O.o hN)) (D.mv 3 rfl leR (D.splitD (x:=.tmp 61) rfl (λc61=>?_) (λc61=>?_))))))))
  ·
   refine D.tn 4 rfl rfl leR rfl (noB (isT rfl c61) rfl) (D.tn 5 rfl rfl leR rfl (noB (isT rfl c61) rfl) (D.tn 6 rfl rfl leR rfl (noB (isT rfl c61) rfl) (D.tn 7 rfl rfl leR rfl (noB (isT rfl c61) rfl) (D.tn 8 rfl rfl leR rfl (noB (isT rfl c61) rfl) (D.tn 9 rfl rfl leR rfl (noB (isT rfl c61) rfl) (D.tn 10 rfl rfl leR rfl (noB (isT rfl c61) rfl) (D.tn 11 rfl rfl leR rfl (noB (isT rfl c61) rfl) (D.tk 12 rfl rfl rfl rfl leR pick_form (λ_ hw_ _ hN=>O.pickT (isT rfl c61) (O.o hN)) (D.as 13 rfl leR (K13 (C.condT rfl (C.sr λK14=>O.mv ?_))))))))))));obtain ⟨d1,y2,rfl⟩:∃d1 y2,y=d1::y2:=List.exists_cons_of_length_pos (by omega);refine O.mv (O.idx U41 Z112 rfl (Eq.trans s1_2 s1_1) ((r1_1.L e4).L e13) rfl (by omega) (λa73 h73=>O.loadG (G:=Dt.dotF) isAgg112 Z112 rfl h73 (O.callV (vs:=[Dt.dv d1]) C3.1 (Eq.trans s4_2 s4_1) (args1 rfl) (C3.2 d1 B vo out w13 ((r2_1.L e4).L e13) ((r3_1.L e4).L e13) (by omega) hoB (by omega)) ?_)));rintro v_75 w14 ⟨vo75,hb75,ho75,e14⟩;have z14:=e14.size;refine K14 (C.region (O.mv ?_));have hb77:=Sl.sub (P:=prog) (1) ((d1::y2).length) U41 Z112 (by rfl) (((r1_1.L e4).L e13).kM e14 (by rintro k ⟨q1,q2⟩ (q3|q3);exact q2 q3;omega)) (by simp) (Nat.le_refl _);obtain ⟨v77,hs77,hr77⟩:=hb77;refine O.subR (Eq.trans s1_2 s1_1) hr77 (.inr ⟨_,_,rfl,rfl⟩) (.inl ⟨rfl,rfl⟩) ?_;simp only[List.take_length,List.drop_succ_cons,List.drop_zero] at hs77;refine O.j (O.o (K6 (K5 (⟨(_,_,_,_,_,_),⟨(Eq.trans s0_2 s0_1),rfl,(Eq.trans s2_2 s2_1),(Eq.trans s3_2 s3_1),(Eq.trans s4_2 s4_1),(Ext.T (Ext.T (Ext.T e_1 (Le.to e4)) (Le.to e13)) (e14)),(((r0_1.L e4).L e13).kM e14 (by rintro k ⟨q1,q2⟩ (q3|q3);exact q2 q3;omega)),hs77,hb75,ho75,?_⟩,(by simp<;>omega)⟩))));refine ⟨(by simp only[List.length_cons] at hlen;split<;>first|omega|(simp only[List.length_append,List.length_cons,List.length_nil];omega)),?_⟩
   first
   |exact Dt.keepA hI (.inl (List.eq_nil_of_length_eq_zero (by omega)))
   |exact Dt.keepA hI (Dt.first_of (by omega) c31)
   |exact Dt.keepC hI (.inl (List.eq_nil_of_length_eq_zero (by omega)))
  exfalso;omega
 refine C.exit (K2 (Outs.none rfl ?_));have hx:x=[]:=List.eq_nil_of_length_eq_zero (by omega);have hy:y=[]:=List.eq_nil_of_length_eq_zero (by omega);subst hx hy;rw[Dt.merge_nil,List.append_nil] at hI;exact ⟨rfl,⟨vo,B,r2_1,hI ▸ r3_1,by omega⟩,(Ext.T (Ext.T (Le.to e1) (Le.to e2)) (Ext.mono e_1 (by intro k hk h;rcases h with h|h;exact h;omega)))⟩
theorem union_spec (va:Value)(a:List Dt.Dot)(vb:Value)(b:List Dt.Dot)(F F2:Nat->Prop)(w:World)(ha:Sl Dt.dotF.enc w F va a)(hb:Sl Dt.dotF.enc w F2 vb b)(hn:a.length<=40000)(hm:b.length<=40000):
 Ret prog 114 #[va,vb] w (λv w'=>Le w w'∧OwnF Dt.dotF 112 w.heap.size w' v (Dt.merge true true true (Dt.set a) (Dt.set b))):=by
 have hale:=ha.le;have hble:=hb.le;refine enT [va,vb] 14 func114 rfl rfl (C.sr λK1=>O.alloc zeroValue41 (λb4 w1 hb4 hz4 e1=>?_));have z1:=e1.size;have h4:=hz4.own;have hl4:=h4.lt;refine K1 (C.sr λK2=>O.makeF (v1:=[]) rfl rfl (O.j (K2 (C.sr λK3=>O.mv (O.mv (O.mv (O.mv (O.mv (O.call call175 (args5 rfl rfl rfl rfl rfl) (parts_spec va a vb b _ _ 174 174 174 [.pointer (some ⟨b4,0,none⟩)] [.pointer (some ⟨b4,0,none⟩)] [.pointer (some ⟨b4,0,none⟩)] true true true b4 _ (ha.L e1) (hb.L e1) hn hm h4 (clo_keepU b4) (clo_keepU b4) (clo_keepU b4)) ?_)))))))));rintro v_12 w2 ⟨rfl,⟨vov12,Bv12,hov12,hlv12,hBv12⟩,e2⟩;have z2:=e2.size;refine K3 (C.sr λK4=>O.loadO isAgg41 rfl hov12 rfl (O.store Z41 rfl rfl hlv12.one hov12 (by simp) (λw3 hs3 e3 z3=>?_)))
 (try simp only[Int.toNat_natCast] at hs3);(try simp only[Nat.zero_add] at hs3);(try simp only[Nat.mul_one] at hs3)
 refine K4 (C.ret (Outs.cell1 rfl isAgg41 rfl hs3 ?_));exact ⟨(Ext.nr (Ext.nr e1 e2) e3),(hlv12.kM e3 (by intro k hk h;have h0:k=b4:=h;have:=hlv12.bk_ge k hk;omega)).low (by omega)⟩
end Go.Proofs.YtpbcafkcfobngaaGreatDoor
end
