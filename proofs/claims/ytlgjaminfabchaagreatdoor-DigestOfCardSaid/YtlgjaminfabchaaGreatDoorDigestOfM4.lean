/-
 The walk of the law of digests' making. Conditions: slices as they lie in memory.
-/
import Derived.Test.YtlgjaminfabchaaGreatDoorDigestOfM3
namespace Go.Proofs.YtlgjaminfabchaaGreatDoor
open Go.Pn Go.RowKit Go.Proofs _root_.Go.Proofs.Tryz
attribute [local irreducible] O C D
set_option maxHeartbeats 16000000 in
theorem digestOf0_spec (v0:Value)(raw:List EntR)(l:List EntT)(F:Nat->Prop)(sl:List UInt8)(w:World)(hr:Sl entF.enc w F v0 raw)(he:EntL w F raw l)(hF:∀k,F k->k<w.heap.size)(mx:Mx w)(hg:Row u64E w (λk=>k=0) 0 0 [Dg.off,Dg.prime]):
 Ret prog 3 #[v0,str (sl)] w (λv w'=>v=.bool true∧Le w w'):=by
 have hgl:=mx.lt;have hl:=he.1;have hrl:=hr.le;refine enT [v0,str (sl)] 51 func3 rfl rfl (C.sr λK1=>O.j (K1 (C.sq λK2=>C.sr λK3=>O.mv (O.call call8 (args2 rfl rfl) (dsmall_spec v0 raw l F 12 _ hr he (λj hj=>by have q1:=hF j hj;omega)) ?_))));rintro v_10 w1 ⟨rfl,e1⟩;have z1:=e1.size;refine O.not rfl (O.mv (O.split (x:=.tmp 12) rfl (λc12=>?_) (λc12=>?_)))
 ·
  refine O.no rfl (noB (isT' rfl c12) rfl) (O.no rfl (noB (isT' rfl c12) rfl) (O.no rfl (noB (isT' rfl c12) rfl) (O.pickT (isT' rfl c12) (K3 (C.condT rfl (C.sr λK4=>O.call call9 (argsN) (known_spec _ (mx.L e1) (hg.L e1)) ?_))))));rintro v_17 w2 ⟨rfl,e2⟩;have z2:=e2.size;refine O.j (K4 (C.ret (Outs.one rfl rfl ?_)));exact ⟨rfl,(Ext.T e1 e2)⟩
 have hsm:Dg.small l 12=true:=by simpa using c12
 have hB:=Dg.small_big hsm;have hM:=Dg.small_mid hsm;have hl12:=(Dg.small_iff hsm).1;refine O.yes rfl (isF' rfl c12) (O.mv (O.yes rfl (isF' rfl c12) (O.lenS U9 rfl (O.yes rfl (isF' rfl c12) (O.gtrI rfl rfl (O.pickF (isF' rfl c12) (K3 (C.condD rfl (λc16=>?_) (λc16=>?_)))))))))
 ·
  refine C.sr λK5=>O.call call9 (argsN) (known_spec _ (mx.L e1) (hg.L e1)) ?_
  rintro v_17 w3 ⟨rfl,e3⟩;have z3:=e3.size;refine O.j (K5 (C.ret (Outs.one rfl rfl ?_)));exact ⟨rfl,(Ext.T e1 e3)⟩
 refine C.skip (K2 (C.sq λK6=>C.sr λK7=>O.mv (O.call call10 (args1 rfl) (bucket_spec sl _ (by unfold maxLen;omega) (hg.L e1)) ?_)));rintro v_19 w4 ⟨rfl,e4⟩;have z4:=e4.size;refine O.mv (O.call call11 (args1 rfl) (hash_spec sl _ (by unfold maxLen;omega) ((hg.L e1).L e4)) ?_);rintro v_21 w5 ⟨rfl,e5⟩;have z5:=e5.size;refine O.remU (m:=64) (b:=16#64) rfl rfl rfl rfl (by decide) (O.convU64I U26 U3 rfl (O.neqI rfl rfl (O.cast (v':=.bool false) (cB (by exact dF (by rw[Dg.bucket_int];exact λh=>h rfl))) (K7 (C.condF rfl (C.skip (K6 (C.sr λK8=>O.mv (O.call call12 (args1 rfl) (of_spec v0 raw l F _ (((hr.L e1).L e4).L e5) (((he.L e1).L e4).L e5) (λj hj=>by have q1:=hF j hj;omega) hB (((mx.L e1).L e4).L e5) (((hg.L e1).L e4).L e5)) ?_)))))))));rintro v_27 w6 ⟨uv27,rfl,huv27,e6⟩;have z6:=e6.size;refine O.mv (O.extract rfl rfl (O.extract rfl rfl (O.alloc zeroValue31 (λb5 w7 hb5 hz5 e7=>?_))));have z7:=e7.size;have h5:=hz5.own;have hl5:=h5.lt;replace h5:Own w7 b5 31 (dgC (.slice none 0 0) (List.replicate 16 0#64) 0#64):=h5;refine O.storeA (vs:=dgC uv27 (Dg.of l).bs (Dg.of l).rt) Z31 (by rw[dgC_len,Dg.of_bs]) rfl rfl (dgC_ones huv27.oneC) h5 (leB rfl) (λw8 hs8 e8 z8=>?_);replace hs8:Own w8 b5 31 (dgC uv27 (Dg.of l).bs (Dg.of l).rt):=by
  have q:=hs8;rw[show (dgC (.slice none 0 0) (List.replicate 16 0#64) 0#64).drop (0+18)=[] from rfl,List.append_nil] at q;exact q
 refine O.j (K8 (C.sr λK9=>O.build (cells:=#[.slice none 0 0,.int .u64 0,.int .u64 0,.int .u64 0,.int .u64 0,.int .u64 0,.int .u64 0,.int .u64 0,.int .u64 0,.int .u64 0,.int .u64 0,.int .u64 0,.int .u64 0,.int .u64 0,.int .u64 0,.int .u64 0,.int .u64 0,.int .u64 0]) rfl (by kernel_rfl) (O.mv ?_)));have t0:=Ext.T (Ext.T e1 e4) e5;have t1:=Ext.T (Ext.T t0 e6) e7;refine O.call call13 (args1 rfl) (bad_spec v0 raw l F _ (hr.L (Ext.nr t1 e8)) (he.L (Ext.nr t1 e8)) (λj hj=>by have q1:=hF j hj;omega) hB (mx.L (Ext.nr t1 e8))) ?_;rintro v_32 w9 ⟨rfl,e9⟩;have z9:=e9.size;refine O.alloc zeroValue31 (λb7 w10 hb7 hz7 e10=>?_);have z10:=e10.size;have h7:=hz7.own;have hl7:=h7.lt;replace h7:Own w10 b7 31 (dgC (.slice none 0 0) (List.replicate 16 0#64) 0#64):=h7;refine O.storeA (vs:=dgC (.slice none 0 0) (List.replicate 16 0#64) 0#64) Z31 (by first|rfl|(rw[dgC_len];exact congrArg (· +2) (Dg.bks_len _))) rfl rfl (dgC_ones (by first|rfl|exact huv37.oneC)) h7 (leB rfl) (λw11 hs11 e11 z11=>?_)
 first
 |(replace hs11:Own w11 b7 31 (dgC uv37 (Dg.of l).bs (Dg.of l).rt):=by
    have q:=hs11;rw[Dg.of_ok c34];rw[show (dgC (.slice none 0 0) (List.replicate 16 0#64) 0#64).drop (0+18)=[] from rfl,List.append_nil] at q;exact q)
 |(replace hs11:Own w11 b7 31 (dgC (.slice none 0 0) (List.replicate 16 0#64) 0#64):=hs11)
 refine O.j (K9 (C.sq λK10=>C.sr λK11=>O.mv (O.eqlI rfl rfl (K11 (C.join (λf w f' w'=>Ext (λk=>k=b7) w w'∧f' 4=f 4∧f' 5=f 5∧f' 6=f 6∧f' 7=f 7∧∃(wv:Value),f' 8=.int .i64 (Dg.check l)∧Own w' b7 31 (dgC wv (Dg.of l).bs (Dg.of l).rt)∧Sl leafF.enc w' (λj=>b7<j∧j<w'.heap.size) wv (Dg.of l).ls) ?_ ?_)))))
 ·
  refine C.condD rfl (λc34=>?_) (λc34=>?_)
  ·
   refine C.region (O.mv ?_);have t2:=Ext.T (Ext.nr t1 e8) e9;have t3:=Ext.T t2 e10;refine O.call call14 (args1 rfl) (digested_spec v0 raw l F _ (hr.L (Ext.nr t3 e11)) (he.L (Ext.nr t3 e11)) (λj hj=>by have q1:=hF j hj;omega) hB (mx.L (Ext.nr t3 e11)) (hg.L (Ext.nr t3 e11)) (Dg.check_zero c34).2 (Dg.check_zero c34).1) ?_;rintro v_37 w12 ⟨uv37,rfl,huv37,e12⟩;have z12:=e12.size;rw[show Dg.dig l=Dg.of l from (Dg.of_ok c34).symm] at huv37;refine O.mv (O.extract rfl rfl (O.extract rfl rfl (O.storeA (vs:=dgC uv37 (Dg.dig l).bs (Dg.dig l).rt) Z31 (by first|rfl|(rw[dgC_len];exact congrArg (· +2) (Dg.bks_len _))) rfl rfl (dgC_ones (by first|rfl|exact huv37.oneC)) (hs11.L e12) (leB rfl) (λw13 hs13 e13 z13=>?_))))
   first
   |(replace hs13:Own w13 b7 31 (dgC uv37 (Dg.of l).bs (Dg.of l).rt):=by
      have q:=hs13;rw[Dg.of_ok c34];rw[show (dgC (.slice none 0 0) (List.replicate 16 0#64) 0#64).drop (0+18)=[] from rfl,List.append_nil] at q;exact q)
   |(replace hs13:Own w13 b7 31 (dgC (.slice none 0 0) (List.replicate 16 0#64) 0#64):=hs13)
   refine O.j (O.o ?_);exact ⟨(Ext.nw (Ext.nw (Ext.L _ _) e12) e13),rfl,rfl,rfl,rfl,⟨_,(Eq.trans rfl (cI (by first|exact c34.symm|rfl))),hs13,(((huv37.keepA e13)).weakA)⟩⟩
  have h7z:Own w11 b7 31 (dgC (.slice none 0 0) (Dg.of l).bs (Dg.of l).rt):=by
   rw[Dg.of_bad c34];exact hs11
  have hwz:Sl leafF.enc w11 (λj=>b7<j∧j<w11.heap.size) (.slice none 0 0) (Dg.of l).ls:=by
   rw[Dg.of_bad c34];exact Sl.nil _ _ _
  refine C.skip ?_;exact ⟨(Ext.L _ _),rfl,rfl,rfl,rfl,⟨_,(Eq.trans rfl (cI (by first|exact c34.symm|rfl))),h7z,((hwz).weakA)⟩⟩
 rintro f_1 w14 ⟨e_1,s4_1,s5_1,s6_1,s7_1,⟨wv,s8_1,q0_1,q1_1⟩⟩;have z_1:=e_1.size;refine K10 (C.sr λK12=>O.loadOA isAgg31 Z31 s5_1 ((((hs8.L e9).L e10).kO e11).kM e_1 (by intro h9;(try dsimp only at h9);omega)) (by rw[dgC_len,Dg.of_bs];exact Nat.le_refl _) (O.cast (v':=.agg (dgC uv27 (Dg.of l).bs (Dg.of l).rt).toArray) (by rw[List.drop_zero,List.take_of_length_le (by rw[dgC_len,Dg.of_bs];exact Nat.le_refl _)]) (O.loadOA isAgg31 Z31 s7_1 q0_1 (by rw[dgC_len,Dg.of_bs];exact Nat.le_refl _) (O.cast (v':=.agg (dgC wv (Dg.of l).bs (Dg.of l).rt).toArray) (by rw[List.drop_zero,List.take_of_length_le (by rw[dgC_len,Dg.of_bs];exact Nat.le_refl _)]) ?_))));refine O.call call15 (args2 rfl rfl) (lequal_spec (Dg.of l) uv27 _ (Dg.of l) wv _ _ ((((((huv27.L e7).keepA e8).L e9).L e10).keepA e11).kM e_1 (by intro j hj h9;(try dsimp only at h9);first|(have q1:=hF j hj;omega)|((try dsimp only at hj);omega))) (Dg.of_bs l) q1_1 (Dg.of_bs l)) ?_;rintro v_42 w15 ⟨rfl,e15⟩;have z15:=e15.size;refine O.cast (v':=.bool true) (cB (by exact decide_eq_true rfl)) (O.mv (O.yes rfl rfl (O.mv (O.yes rfl rfl (O.mv (O.yes rfl rfl (O.eqlI s6_1 s8_1 (O.cast (v':=.bool true) (cB (by exact decide_eq_true rfl)) (O.pickT rfl (O.mv (O.yes rfl rfl ?_)))))))))));have t4:=Ext.T (Ext.nr t1 e8) e9;have t5:=Ext.T t4 e10;have t6:=Ext.new (Ext.nr t5 e11) e_1 (by intro i9 hi9 h9;(try dsimp only at h9);omega);have t7:=Ext.T t6 e15;refine O.call call9 (argsN) (known_spec _ (mx.L t7) (hg.L t7)) ?_;rintro v_49 w16 ⟨rfl,e16⟩;have z16:=e16.size;refine O.pickT rfl (O.j (K12 (C.ret (Outs.one rfl rfl ?_))));exact ⟨rfl,(Ext.T t7 e16)⟩
theorem digestOf_spec (v0:Value)(l:List EntT)(F:Nat->Prop)(sl:List UInt8)(w:World)(hl:Sl entE w F v0 l)(hF:∀k,F k->k<w.heap.size)(mx:Mx w)(hg:Row u64E w (λk=>k=0) 0 0 [Dg.off,Dg.prime]):Ret prog 3 #[v0,str sl] w (λv w'=>v=.bool true∧Le w w'):=by
 obtain ⟨raw,hr,he⟩:=hl.ents;exact digestOf0_spec v0 raw l F sl w hr he hF mx hg
end Go.Proofs.YtlgjaminfabchaaGreatDoor
