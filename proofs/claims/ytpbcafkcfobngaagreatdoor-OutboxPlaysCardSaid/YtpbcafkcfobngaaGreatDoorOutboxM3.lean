/-
 Several cells of an element of a slice, written in place. No condition.
-/
import Derived.Test.YtpbcafkcfobngaaGreatDoorOutboxM2
section
namespace Go.Pn
open Go.RowKit
theorem Flat.setN {α:Type}(G:Flat α){off:Nat}{z:α}{vs:List Value}:∀(xs:List α) (i:Nat) (h:i<xs.length),off+vs.length<=G.sz->G.e z=(G.e xs[i]).take off++vs++(G.e xs[i]).drop (off+vs.length)->
 (xs.flatMap G.e).take (i*G.sz+off)++vs++(xs.flatMap G.e).drop (i*G.sz+off+vs.length)=(xs.set i z).flatMap G.e
 |[],i,h,_,_=>by simp at h
 |x::xs,0,h,ho,hz=>by
  have hl:=G.len x;simp only[List.getElem_cons_zero] at hz;rw[List.flatMap_cons,List.set_cons_zero,List.flatMap_cons,Nat.zero_mul,Nat.zero_add,hz,List.take_append_of_le_length (by omega),List.drop_append_of_le_length (by omega)];simp only[List.append_assoc]
 |x::xs,i+1,h,ho,hz=>by
  have hl:=G.len x;simp only[List.getElem_cons_succ] at hz;have ih:=Flat.setN G (off:=off) (z:=z) (vs:=vs) xs i (by simpa using h) ho hz;have e1:(i+1)*G.sz+off=(G.e x).length+(i*G.sz+off):=by rw[Nat.add_mul];omega
  rw[List.flatMap_cons,List.set_cons_succ,List.flatMap_cons,<-ih,e1,List.take_length_add_append,show (G.e x).length+(i*G.sz+off)+vs.length=(G.e x).length+(i*G.sz+off+vs.length) by omega,List.drop_length_add_append];simp only[List.append_assoc]
theorem OwnF.putN {α:Type}{G:Flat α}{ty:TypeId}{B:Nat}{w:World}{g cap:Nat}{xs:List α}(P:Program){i off:Nat}{z:α}{vs:List Value}(h:OwnF G ty B w (.slice (some ⟨g,0,none⟩) xs.length cap) xs)(hi:i<xs.length)(hof:off+vs.length<=G.sz)(h1:∀v∈vs,v.oneCell'=true)(hz:G.e z=(G.e xs[i]).take off++vs++(G.e xs[i]).drop (off+vs.length)):
 ∃w',(storeCells ⟨g,i*G.sz+off,none⟩ vs 0).run P w=.ok () w'∧OwnF G ty B w' (.slice (some ⟨g,0,none⟩) xs.length cap) (xs.set i z)∧Ext (λk=>k=g) w w'∧w'.heap.size=w.heap.size:=by
 obtain ⟨h0,hm⟩:=h;rcases h0.2 with ⟨q1,_⟩|⟨g',cap',cur,q1,hb,hg,hn,hc,hsz,ht⟩
 ·cases q1
 ·have e1:g=g':=by cases q1;rfl
  have e2:cap=cap':=by cases q1;rfl
  subst e1;subst e2;have hle:(i+1)*G.sz<=xs.length*G.sz:=Nat.mul_le_mul_right _ hi;have hle2:xs.length*G.sz<=cap*G.sz:=Nat.mul_le_mul_right _ hn;have hmul:(i+1)*G.sz=i*G.sz+G.sz:=by rw[Nat.add_mul,Nat.one_mul]
  have h00:Own0 w g ty cur.toList:=by simpa[Own0] using hg
  obtain ⟨w',hr,ho,he,hs⟩:=run_storeCells_own0 (P:=P) vs (i*G.sz+off) 0 cur.toList w h00 (by simp;omega) h1;rw[Nat.add_zero] at ho;refine ⟨w',hr,⟨⟨by rw[G.length],.inr ⟨g,cap,(cur.toList.take (i*G.sz+off)++vs++cur.toList.drop (i*G.sz+off+vs.length)).toArray,by rw[List.length_set],hb,ho,by rw[List.length_set];exact hn,hc,?_,?_⟩⟩,by rw[List.length_set];exact hm⟩,he,hs⟩
  ·simp
   omega
  ·rw [List.length_set,<-G.setN xs i hi hof hz,<-ht]
   simp only[];have hAB:(cur.toList.take (i*G.sz+off)++vs).length=i*G.sz+off+vs.length:=by
    rw[List.length_append,List.length_take,Array.length_toList,Nat.min_eq_left (by omega)]
   rw[List.take_append,List.take_of_length_le (by rw[hAB];omega),hAB,List.take_take,Nat.min_eq_left (by omega),<-List.drop_take]
section
variable {P:Program}{n:Nat}{ops rest:List Oper}{N:Val->World->Prop}{Z:List PanicEntry->World->Prop}{f:Val}{w:World}
 {x y:Operand}{t tr ty:TypeId}{pos:String}{after:Array Edge}{α:Type}
theorem O.storeP {G:Flat α}{B g cap i off k s:Nat}{xs:List α}{vs:List Value}(z:α)(hk:k=i*G.sz+off)(hsz:∀w,(sizeOf t).run P w=.ok s w)(hl:vs.length=s)(hx:ev n f x=.pointer (some ⟨g,k,none⟩))(hy:ev n f y=.agg vs.toArray)(h1:∀v∈vs,v.oneCell'=true)
 (ho:OwnF G ty B w (.slice (some ⟨g,0,none⟩) xs.length cap) xs)(hi:i<xs.length)(hof:off+vs.length<=G.sz)(hz:G.e z=(G.e xs[i]).take off++vs++(G.e xs[i]).drop (off+vs.length))
 (h:∀w',OwnF G ty B w' (.slice (some ⟨g,0,none⟩) xs.length cap) (xs.set i z)->Ext (λk=>k=g) w w'->w'.heap.size=w.heap.size->O P n ops rest N Z f w'):
 O P n ops ({dst:=.none,op:=.store t x y,type:=tr,pos:=pos,after:=after,guard:=.none}::rest) N Z f w:=by
 subst hk;subst hl;obtain ⟨w',hr,ho',he,hs⟩:=ho.putN P hi hof h1 hz;refine O.act rfl rfl ?_ (h w' ho' he hs);have h3:execOp (ev n f) {dst:=.none,op:=.store t x y,type:=tr,pos:=pos,after:=after,guard:=.none}=(do Instr.storeAt t (ev n f x) (ev n f y);pure .skip):=rfl;rw[h3,Sem.run_bind,hx,hy];have h4:(Instr.storeAt t (.pointer (some ⟨g,i*G.sz+off,none⟩)) (.agg vs.toArray)).run P w=.ok () w':=by
  simp[Instr.storeAt,Instr.sureAddr,storeVar,hsz,Value.cells,hr]
 rw[h4]
 rfl
end
end Go.Pn
end
section
namespace Go.Pn
def OS (b:Nat)(us:Value)(lo hi:Nat)(j:Nat):Prop:=j=b∨bk us j∨(lo<=j∧j<hi)
theorem OS.of {b:Nat}{us:Value}{lo hi j:Nat}(h:j=b∨bk us j):OS b us lo hi j:=h.imp id .inl
theorem OS.b {b:Nat}{us:Value}{lo hi:Nat}:OS b us lo hi b:=.inl rfl
structure OB (te td ti tm to ts:TypeId) (w:World) (b:Nat) (n:Int) (l:List EntT) (d:List (List UInt8)) (uo ud us:Value) (lo hi:Nat):Prop where
 own:Own w b to [.int .i64 n,ud,us]
 clip:Clip uo ud
 ents:SlE te td ti tm w lo hi uo l
 keys:OwnF strF ts 0 w us d
 top:hi<=w.heap.size
 out:b<lo∨hi<=b
 ne:∀k,bk us k->k≠b∧(k<lo∨hi<=k)
section
variable {te td ti tm to ts:TypeId}{w w':World}{b:Nat}{n:Int}{l:List EntT}{d:List (List UInt8)}{uo ud us:Value}{lo hi:Nat}{M:Nat->Prop}
theorem OB.kM (h:OB te td ti tm to ts w b n l d uo ud us lo hi)(e:Ext M w w')(hM:∀k,OS b us lo hi k->¬M k):OB te td ti tm to ts w' b n l d uo ud us lo hi:=
 ⟨h.own.kM e (hM _ (.inl rfl)),h.clip,h.ents.kM e λk h1 h2=>hM k (.inr (.inr ⟨h1,h2⟩)),h.keys.kM e λk hk=>hM k (.inr (.inl hk)),Nat.le_trans h.top e.size,h.out,h.ne⟩
theorem OB.L (h:OB te td ti tm to ts w b n l d uo ud us lo hi)(e:Le w w'):OB te td ti tm to ts w' b n l d uo ud us lo hi:=h.kM e λ_ _=>not_false
theorem OB.lt (h:OB te td ti tm to ts w b n l d uo ud us lo hi):∀k,OS b us lo hi k->k<w.heap.size:=by
 intro k hk;rcases hk with rfl|hk|hk
 ·exact h.own.lt
 ·exact (h.keys.bk_ge k hk).2
 ·have:=h.top;omega
theorem OB.new (h:Own w b to [.int .i64 n,.slice none 0 0,.slice none 0 0]):OB te td ti tm to ts w b n [] [] (.slice none 0 0) (.slice none 0 0) (.slice none 0 0) 0 0:=
 ⟨h,.inl rfl,SlE.nil _ _ _ _ _ (Nat.le_refl _),OwnF.nil _ _ _ _,Nat.zero_le _,.inr (Nat.zero_le _),λ_ hk=>hk.elim⟩
end
section
variable {P:Program}{n:Nat}{ops rest:List Oper}{N:Val->World->Prop}{Z:List PanicEntry->World->Prop}{f:Val}{w:World}
 {d:Nat}{x:Operand}{t ty:TypeId}{pos:String}{after:Array Edge}
theorem run_eql_nilN {e:TypeId}(ht:P.underlying t=some (.pointer e)):(Op.equal t (.pointer none) (.pointer none)).run P w=.ok true w:=by
 unfold Op.equal Op.maxDepth;rw[Op.equalIn,Sem.run_bind,run_underlying ht]
 rfl
theorem O.eqlN {e:TypeId}(ht:P.underlying t=some (.pointer e))(hx:ev n f x=.pointer none){t':TypeId}(h:O P n ops rest N Z (upd f d (.bool true)) w):
 O P n ops (ZO d (.binOp .eql t x (.const (.pointer none)) t') ty pos after::rest) N Z f w:=
 O.val rfl rfl (by
  refine run_bin hx (y:=.const (.pointer none)) rfl rfl ?_ _ _;have h2:binOp .eql t (.pointer none) (.pointer none)=(do pure (.bool (<-Op.equal t (.pointer none) (.pointer none)))):=rfl;show Sem.run P (binOp .eql t (.pointer none) (.pointer none)) w=_;rw[h2,Sem.run_bind,run_eql_nilN ht]
  rfl) h
end
end Go.Pn
end
section
namespace Go.Pn.Bt
open Go Go.Pn Go.Pn.Jn
section
variable {a b:List Ent}{m1 m2:Int}
end
theorem flat_next {gs:List (List Ent)}{k:Nat}(h:k<gs.length):(gs.take (k+1)).flatten=(gs.take k).flatten++gs[k]:=by
 rw[List.take_succ_eq_append_getElem h,List.flatten_append]
 simp
theorem flat_ge {gs:List (List Ent)}(h:∀g∈gs,g≠[]):gs.length<=gs.flatten.length:=by
 induction gs with
 |nil=>exact Nat.le_refl _
 |cons g gs ih=>
  have h1:=ih λx hx=>h x (List.mem_cons_of_mem _ hx)
  have h2:=List.length_pos_iff.2 (h g List.mem_cons_self);rw[List.flatten_cons,List.length_append,List.length_cons]
  omega
theorem flat_le {gs:List (List Ent)}(k:Nat):((gs.take k).flatten).length<=gs.flatten.length:=by
 have h:gs.flatten=(gs.take k).flatten++(gs.drop k).flatten:=by rw[<-List.flatten_append,List.take_append_drop]
 rw[h,List.length_append]
 omega
end Go.Pn.Bt
end
section
namespace Go.Pn.Ob
open Go Go.Pn Go.Pn.Jn Go.Pn.Bt
def ka:Name:=[97]
def kb:Name:=[98]
def kA:Name:=[65]
def c1:CartT:=someC 1 1
def c2:CartT:=someC 2 1
def c3:CartT:=someC 3 3
def c12:CartT:=(([(1,1),(2,1)],[]),[([116,101,97],[((1,1),1,1),((2,1),1,1)])])
theorem join_12:Jn.join c1 c2=c12:=by decide+kernel
theorem ok_b1:okE (kb,c1)=true:=by decide+kernel
theorem ok_b2:okE (kb,c2)=true:=by decide+kernel
theorem ok_a1:okE (ka,c1)=true:=by decide+kernel
theorem no_A1:okE (kA,c1)=false:=by decide+kernel
theorem ok_b12:okE (kb,c12)=true:=by decide+kernel
theorem small_big {l:List Ent}(h:∀x∈l,x.1.length<=1∧x.2.1.1.length<=2∧x.2.1.2.length<=2∧x.2.2.length<=2∧∀y∈x.2.2,y.1.length<=3∧y.2.length<=2):Big l:=λx hx=>by
 obtain ⟨h1,h2,h3,h4,h5⟩:=h x hx;exact ⟨by omega,by omega,by omega,by omega,λy hy=>by have:=h5 y hy;omega⟩
theorem small_mid {l:List Ent}(h:∀x∈l,x.1.length<=1∧x.2.1.1.length<=2∧x.2.1.2.length<=2∧x.2.2.length<=2∧∀y∈x.2.2,y.1.length<=3∧y.2.length<=2):Mid 20000 l:=λx hx=>by
 obtain ⟨h1,h2,h3,h4,h5⟩:=h x hx;exact ⟨by omega,by omega,by omega,λy hy=>by have:=h5 y hy;omega⟩
def T (x:Ent):Prop:=x.1.length<=1∧x.2.1.1.length<=2∧x.2.1.2.length<=2∧x.2.2.length<=2∧∀y∈x.2.2,y.1.length<=3∧y.2.length<=2
theorem t_b1:T (kb,c1):=by unfold T;decide+kernel
theorem t_b2:T (kb,c2):=by unfold T;decide+kernel
theorem t_a1:T (ka,c1):=by unfold T;decide+kernel
theorem t_A1:T (kA,c1):=by unfold T;decide+kernel
theorem t_a3:T (ka,c3):=by unfold T;decide+kernel
theorem t_b12:T (kb,c12):=by unfold T;decide+kernel
theorem t_one {x:Ent}(h:T x):∀y∈[x],T y:=λy hy=>by rw[List.mem_singleton.1 hy];exact h
theorem t_two {x z:Ent}(h:T x)(h':T z):∀y∈[x,z],T y:=λy hy=>by
 rcases List.mem_cons.1 hy with g|g
 ·rw [g];exact h
 ·rw [List.mem_singleton.1 g];exact h'
theorem put_1:put 1 [] [] kb c1=([(kb,c1)],[]):=by decide+kernel
theorem put_2:put 1 [(kb,c1)] [] kb c2=([(kb,c12)],[]):=by decide+kernel
theorem put_3:put 1 [(kb,c12)] [] ka c1=([(kb,c12)],[ka]):=by decide+kernel
theorem dr_1:drE [ka] []=9:=by decide+kernel
theorem dr_2:drE [ka] [(ka,c3)]=0:=by decide+kernel
theorem dr_3:drE [] []=0:=by decide+kernel
theorem dl_1:drL [(kb,c12)] [ka] []=[]:=by decide+kernel
theorem dl_2:drL [(kb,c12)] [ka] [(ka,c3)]=[(ka,c3),(kb,c12)]:=by decide+kernel
theorem dl_3:drL [] [] []=[]:=by decide+kernel
theorem mp_1:merge [(kb,c12)] (picked [ka] [])=[(kb,c12)]:=by decide+kernel
theorem mp_2:merge [(kb,c12)] (picked [ka] [(ka,c3)])=[(ka,c3),(kb,c12)]:=by decide+kernel
theorem mp_3:merge [] (picked [] [])=[]:=by decide+kernel
theorem e_a3:(entB (ka,c3)).length<=900000:=by decide+kernel
theorem e_b12:(entB (kb,c12)).length<=900000:=by decide+kernel
theorem ord_1:Ord [(kb,c1)]:=one_ord ok_b1
theorem ord_12:Ord [(kb,c12)]:=one_ord ok_b12
theorem good_1:GoodC c1:=good_iff.1 (by decide+kernel)
theorem good_2:GoodC c2:=good_iff.1 (by decide+kernel)
theorem e_two:∀x∈[(ka,c3),(kb,c12)],(entB x).length<=900000:=λy hy=>by
 rcases List.mem_cons.1 hy with g|g
 ·rw [g];exact e_a3
 ·rw [List.mem_singleton.1 g];exact e_b12
end Go.Pn.Ob
end
