/-
 The call with some bytes, as the law looks for it. No condition.
-/
import Derived.Lib.SmallJoins
import Derived.Test.YtbnblcnabgdndaaGreatDoorCards
import Derived.Test.YtbnblcnabgdndaaGreatDoorTie
import Derived.Test.YtbnblcnabgdndaaGreatDoorClientDecodesM2
namespace Go.Pn.Cl
open Go Go.Pn Go.Lib
def Ni (p:Str)(a i:Nat)(k:BitVec 64):Prop:=(i<=10∧a+i<=p.length)∧∀m r,m<2^64->p.drop a=Cn.num m++r->∃m',p.drop (a+i)=Cn.num m'++r∧m=k.toNat+m'*128^i∧(i=0∨1<=m')
def Nd (p:Str)(a i:Nat)(k:BitVec 64):Prop:=(1<=i∧a+i<=p.length)∧∀m r,m<2^64->p.drop a=Cn.num m++r->k.toNat=m∧p.drop (a+i)=r
section
variable {p:Str}{a i:Nat}{k:BitVec 64}
theorem Ni.start (h:a<=p.length):Ni p a 0 0#64:=⟨⟨Nat.zero_le _,h⟩,λm r _ e=>⟨m,e,by simp,.inl rfl⟩⟩
def addK (k:BitVec 64)(b:UInt8)(i:Nat):BitVec 64:=k+(BitVec.setWidth 64 (b.toBitVec%128#8)<<<(7*i))
theorem addK_nat {b:UInt8}(h:k.toNat+(b.toNat%128)*128^i<2^64):(addK k b i).toNat=k.toNat+(b.toNat%128)*128^i:=by
 have hb:=b.toNat_lt;have e1:(128:Nat)^i=2^(7*i):=by rw[Nat.pow_mul]
 have e2:(BitVec.setWidth 64 (b.toBitVec%128#8)).toNat=b.toNat%128:=by
  rw[BitVec.toNat_setWidth,BitVec.toNat_umod,UInt8.toNat_toBitVec];show b.toNat%128%2^64=_
  omega
 unfold addK;rw[BitVec.toNat_add,BitVec.toNat_shiftLeft,e2,Nat.shiftLeft_eq,<-e1];have h2:(b.toNat%128)*128^i<2^64:=by omega
 rw[Nat.mod_eq_of_lt h2,Nat.mod_eq_of_lt h]
theorem num_head {m:Nat}{r s:Str}{b:UInt8}(h:b::s=Cn.num m++r):(m<128∧b.toNat=m∧s=r)∨(128<=m∧b.toNat=128+m%128∧s=Cn.num (m/128)++r):=by
 by_cases hm:m<128
 ·rw [Cn.num_lt hm] at h
  injection h with h1 h2;exact .inl ⟨hm,by rw[h1,UInt8.toNat_ofNat'];omega,h2⟩
 ·rw [Cn.num_ge hm] at h
  injection h with h1 h2;exact .inr ⟨by omega,by rw[h1,UInt8.toNat_ofNat'];omega,h2⟩
theorem Ni.step (h:Ni p a i k)(hl:a+i<p.length)(hi:i<10):(¬(p[a+i]).toNat<128->Ni p a (i+1) (addK k p[a+i] i))∧((p[a+i]).toNat<128->Nd p a (i+1) (addK k p[a+i] i)):=by
 obtain ⟨_,h2⟩:=h;have hd:=List.drop_eq_getElem_cons hl
 constructor
 ·intro hb
  refine ⟨⟨by omega,by omega⟩,λm r hm e=>?_⟩;obtain ⟨m',e1,e2,_⟩:=h2 m r hm e;rw[hd] at e1;rcases num_head e1 with ⟨q1,q2,_⟩|⟨q1,q2,q3⟩
  ·omega
  ·have hk:m'*128^i=(m'%128)*128^i+(m'/128)*128^(i+1):=by
    rw[Nat.pow_succ,Nat.mul_comm (128^i) 128,<-Nat.mul_assoc,<-Nat.add_mul,Nat.mul_comm (m'/128) 128,Nat.mod_add_div]
   have hbm:(p[a+i]).toNat%128=m'%128:=by omega
   have h9:=addK_nat (k:=k) (b:=p[a+i]) (i:=i) (by rw[hbm];omega);exact ⟨m'/128,q3,by rw[h9,hbm];omega,.inr (by omega)⟩
 ·intro hb
  refine ⟨⟨by omega,by omega⟩,λm r hm e=>?_⟩;obtain ⟨m',e1,e2,_⟩:=h2 m r hm e;rw[hd] at e1;rcases num_head e1 with ⟨q1,q2,q3⟩|⟨q1,q2,_⟩
  ·have hbm:(p[a+i]).toNat%128=m':=by omega
   have h9:=addK_nat (k:=k) (b:=p[a+i]) (i:=i) (by rw[hbm];omega);exact ⟨by rw[h9,hbm];omega,q3⟩
  ·omega
theorem num_ne (m:Nat):Cn.num m≠[]:=by
 by_cases hm:m<128
 ·rw [Cn.num_lt hm];simp
 ·rw [Cn.num_ge hm];simp
theorem Ni.out (h:Ni p a i k)(ha:a<p.length)(hx:¬(a+i<p.length∧i<10)):Nd p a i k:=by
 obtain ⟨⟨h0,h1⟩,h2⟩:=h;refine ⟨⟨by omega,h1⟩,λm r hm e=>?_⟩
 exfalso
 obtain ⟨m',e1,e2,e3⟩:=h2 m r hm e
 by_cases q:a+i<p.length
 ·have hi:i=10:=by omega
  subst hi;have:1*128^10<=m'*128^10:=Nat.mul_le_mul_right _ (by omega)
  omega
 ·rw [List.drop_eq_nil_of_le (by omega)] at e1
  have:=(List.append_eq_nil_iff.1 e1.symm).1;exact num_ne _ this
end
def pt (d:Call)(x:UInt8):Str:=if x=107 then d.key else if x=111 then d.other else if x=113 then [] else if x=105 then d.item else d.data
def nu (d:Call)(x:UInt8):Nat:=if x=113 then Cn.u d.qty else (pt d x).length
theorem pieceB_eq (d:Call)(x:UInt8):pieceB d x=Cn.num (nu d x)++pt d x:=by
 unfold pieceB nu pt
 by_cases h1:x=107
 ·subst h1;rfl
 ·by_cases h2:x=111
  ·subst h2;rfl
  ·by_cases h3:x=113
   ·subst h3;rw[if_neg (by decide),if_neg (by decide),if_pos rfl,if_pos rfl,if_neg (by decide),if_neg (by decide),if_pos rfl,List.append_nil]
   ·by_cases h4:x=105
    ·subst h4;rfl
    ·rw [if_neg h1,if_neg h2,if_neg h3,if_neg h4,if_neg h3,if_neg h1,if_neg h2,if_neg h3,if_neg h4];rfl
def Fd (p:Str)(o:Int)(a:Nat)(ps:List Str)(ns:List (BitVec 64)):Prop:=
 (a<=p.length∧ps.length=ns.length∧(∀x∈ps,x.length<=p.length)∧ps.length<=a)∧∀d,valid d=true->InI64 d.qty->bytes d=p->
   d.op=o∧p.drop a=((parts o).drop ps.length).flatMap (pieceB d)∧ps=((parts o).take ps.length).map (pt d)∧ns.map BitVec.toNat=((parts o).take ps.length).map (nu d)∧ps.length<=(parts o).length
theorem qty_at {o:Int}{k:Nat}(hk:k<(parts o).length)(h:(parts o)[k]=113):(o=1∨o=2)∧k=1:=by
 have ho:isOp o=true:=by
  cases q:isOp o with
  |true=>rfl
  |false=>rw[parts_no q] at hk;simp at hk
 have key:∀n,n<12->∀j,j<3->(1<=n∧(parts (n:Nat))[j]? =some (113:UInt8))->(n=1∨n=2)∧j=1:=by decide+kernel
 have h1:=of_decide_eq_true ho;have:=key o.toNat (by omega) k (Nat.lt_of_lt_of_le hk (parts_len ho)) ⟨by omega,by rw[Int.toNat_of_nonneg (by omega),List.getElem?_eq_getElem hk,h]⟩
 omega
theorem qty_is {o:Int}(ho:o=1∨o=2):parts o=[107,113,105]:=by rcases ho with rfl|rfl<;>decide
theorem u_lt (x:Int):Cn.u x<2^64:=(BitVec.ofInt 64 x).isLt
section
variable {p:Str}{o:Int}{a i:Nat}{k:BitVec 64}{ps:List Str}{ns:List (BitVec 64)}
theorem Fd.start {b:UInt8}{r:Str}(hp:p=b::r):Fd p (b.toNat:Int) 1 [] []:=by
 subst hp;refine ⟨⟨by simp,rfl,λ_ h=>(by cases h),by simp⟩,λd hv _ hd=>?_⟩;unfold bytes at hd;injection hd with h1 h2;have h3:=opB_inj (valid_iff.1 hv).1 h1;rw[<-h3];exact ⟨rfl,h2.symm,rfl,rfl,Nat.zero_le _⟩
theorem Fd.at (h:Fd p o a ps ns)(ha:a<p.length)(hn:Nd p a i k){d:Call}(hv:valid d=true)(hq:InI64 d.qty)(hd:bytes d=p)(hp:p.length<2^60):
 ∃hk:ps.length<(parts o).length,k.toNat=nu d (parts o)[ps.length]∧p.drop (a+i)=pt d (parts o)[ps.length]++((parts o).drop (ps.length+1)).flatMap (pieceB d):=by
 obtain ⟨_,h2⟩:=h;obtain ⟨e1,e2,_,_,_⟩:=h2 d hv hq hd;have hk:ps.length<(parts o).length:=by
  apply Decidable.byContradiction
  intro q;rw[show (parts o).drop ps.length=[] from List.drop_eq_nil_of_le (by omega)] at e2;have:=congrArg List.length e2
  simp at this
  omega
 refine ⟨hk,?_⟩;rw[List.drop_eq_getElem_cons hk,List.flatMap_cons,pieceB_eq,List.append_assoc] at e2;have hm:nu d (parts o)[ps.length]<2^64:=by
  unfold nu
  split
  ·exact u_lt _
  ·have h3:=congrArg List.length e2
   rw[List.length_append,List.length_append,List.length_drop] at h3
   omega
 exact hn.2 _ _ hm e2
theorem take_map {α β:Type}{f:α->β}{l:List α}{k:Nat}{ys:List β}(hk:k<l.length)(h:ys=(l.take k).map f){y:β}(hy:y=f l[k]):ys++[y]=(l.take (k+1)).map f:=by
 rw[List.take_succ_eq_append_getElem hk,List.map_append,<-h,hy];rfl
theorem Fd.qty (h:Fd p o a ps ns)(ha:a<p.length)(hn:Nd p a i k)(hp:p.length<2^60)(ho:o=1∨o=2)(hl:ns.length+1=2):Fd p o (a+i) (ps++[[]]) (ns++[k]):=by
 have h0:=h;obtain ⟨⟨k1,k2,k3,k4⟩,h2⟩:=h;refine ⟨⟨hn.1.2,by simp[k2],λx hx=>?_,by have:=hn.1.1;rw[List.length_append,List.length_singleton];omega⟩,λd hv hq hd=>?_⟩
 ·rcases List.mem_append.1 hx with hx|hx
  ·exact k3 x hx
  ·rw [List.mem_singleton.1 hx];exact Nat.zero_le _
 ·obtain ⟨hk,e1,e2⟩:=h0.at ha hn hv hq hd hp
  obtain ⟨f1,f2,f3,f4,f5⟩:=h2 d hv hq hd;have hx:(parts o)[ps.length]=113:=by
   have hl1:ps.length=1:=by omega
   simp only[hl1,qty_is ho]
   rfl
  rw[hx] at e1 e2;have hlen:(ps++[[]]).length=ps.length+1:=by simp
  rw[hlen];refine ⟨f1,e2,take_map hk f3 (by rw[hx];rfl),?_,by omega⟩;rw[List.map_append];exact take_map hk f4 (by rw[hx];exact e1)
theorem Fd.few (h:Fd p o a ps ns)(ha:a<p.length)(hn:Nd p a i k)(hp:p.length<2^60)(hb:¬((o=1∨o=2)∧ns.length+1=2))(hk:p.length-(a+i)<k.toNat):∀d,valid d=true->InI64 d.qty->bytes d≠p:=by
 intro d hv hq hd;obtain ⟨hk2,e1,e2⟩:=h.at ha hn hv hq hd hp;have hx:(parts o)[ps.length]≠113:=λq=>by
  have:=qty_at hk2 q;have h3:=h.1.2.1;exact hb ⟨this.1,by omega⟩
 unfold nu at e1;rw[if_neg hx] at e1;have:=congrArg List.length e2;rw[List.length_append,List.length_drop] at this
 omega
theorem Fd.str (h:Fd p o a ps ns)(ha:a<p.length)(hn:Nd p a i k)(hp:p.length<2^60)(hb:¬((o=1∨o=2)∧ns.length+1=2))(hk:k.toNat<=p.length-(a+i)):Fd p o (a+i+k.toNat) (ps++[(p.take (a+i+k.toNat)).drop (a+i)]) (ns++[k]):=by
 have h0:=h;obtain ⟨⟨k1,k2,k3,k4⟩,h2⟩:=h;have hn2:=hn.1;refine ⟨⟨by omega,by simp[k2],λx hx=>?_,by rw[List.length_append,List.length_singleton];omega⟩,λd hv hq hd=>?_⟩
 ·rcases List.mem_append.1 hx with hx|hx
  ·exact k3 x hx
  ·rw [List.mem_singleton.1 hx,List.length_drop,List.length_take];omega
 ·obtain ⟨hk2,e1,e2⟩:=h0.at ha hn hv hq hd hp
  obtain ⟨f1,f2,f3,f4,f5⟩:=h2 d hv hq hd;have hx:(parts o)[ps.length]≠113:=λq=>by
   have:=qty_at hk2 q;exact hb ⟨this.1,by omega⟩
  have e3:=e1;unfold nu at e3;rw[if_neg hx] at e3;have hlen:(ps++[(p.take (a+i+k.toNat)).drop (a+i)]).length=ps.length+1:=by simp
  rw[hlen];have e4:(p.take (a+i+k.toNat)).drop (a+i)=pt d (parts o)[ps.length]:=by
   rw[List.drop_take,e2,Nat.add_sub_cancel_left,e3,List.take_left]
  refine ⟨f1,?_,take_map hk2 f3 e4,?_,by omega⟩
  ·rw [<-List.drop_drop,e2,e3,List.drop_left]
  ·rw [List.map_append]
   exact take_map hk2 f4 e1
def Fe (p:Str)(o:Int)(ps:List Str)(ns:List (BitVec 64)):Prop:=ps.length=ns.length∧(∀x∈ps,x.length<=p.length)∧∀d,valid d=true->InI64 d.qty->bytes d=p->d.op=o∧∀(j:Nat) (x:UInt8),(parts o)[j]? =some x->ps[j]? =some (pt d x)∧(ns[j]?).map BitVec.toNat=some (nu d x)
theorem Fd.all (h:Fd p o a ps ns)(ha:p.length<=a):Fe p o ps ns:=by
 obtain ⟨⟨k1,k2,k3,_⟩,h2⟩:=h;refine ⟨k2,k3,λd hv hq hd=>?_⟩;obtain ⟨f1,f2,f3,f4,f5⟩:=h2 d hv hq hd;have hk:ps.length=(parts o).length:=by
  apply Decidable.byContradiction
  intro q;rw[List.drop_eq_nil_of_le ha,List.drop_eq_getElem_cons (show ps.length<(parts o).length by omega),List.flatMap_cons,pieceB_eq] at f2;exact num_ne _ (List.append_eq_nil_iff.1 (List.append_eq_nil_iff.1 f2.symm).1).1
 rw[hk,List.take_length] at f3 f4;refine ⟨f1,λj x hx=>⟨by rw[f3,List.getElem?_map,hx];rfl,?_⟩⟩;rw[<-List.getElem?_map,f4,List.getElem?_map,hx];rfl
theorem Fe.pad (h:Fe p o ps ns):Fe p o (ps++[[]]) (ns++[0#64]):=by
 obtain ⟨h1,h2,h3⟩:=h;refine ⟨by simp[h1],λx hx=>?_,λd hv hq hd=>?_⟩
 ·rcases List.mem_append.1 hx with hx|hx
  ·exact h2 x hx
  ·rw [List.mem_singleton.1 hx];exact Nat.zero_le _
 ·obtain ⟨f1,f2⟩:=h3 d hv hq hd
  refine ⟨f1,λj x hx=>?_⟩;obtain ⟨g1,g2⟩:=f2 j x hx;have hj:j<ps.length:=(List.getElem?_eq_some_iff.1 g1).1;rw[List.getElem?_append_left hj,List.getElem?_append_left (by omega)];exact ⟨g1,g2⟩
def Fc (p:Str)(c:Call):Prop:=(Short c∧InI64 c.qty)∧∀d,valid d=true->InI64 d.qty->bytes d=p->c=d
theorem toInt_in (n:BitVec 64):InI64 n.toInt:=by
 unfold InI64;have h1:=BitVec.le_toInt n;have h2:=BitVec.toInt_lt (x:=n)
 simp at h1 h2
 omega
theorem toInt_u {n:BitVec 64}{q:Int}(hq:InI64 q)(h:n.toNat=Cn.u q):n.toInt=q:=by
 unfold Cn.u at h;rw[BitVec.eq_of_toNat_eq h,BitVec.toInt_ofInt,Int.bmod_def];unfold InI64 at hq
 omega
theorem Fe.fin (h:Fe p o ps ns)(hl:p.length<=1000000){c:Call}(h1:c.key=[]∨c.key∈ps)(h2:c.other=[]∨c.other∈ps)(h3:c.item=[]∨c.item∈ps)(h4:c.data=[]∨c.data∈ps)(h5:InI64 c.qty)
 (hk:∀d,valid d=true->InI64 d.qty->d.op=o->(∀(j:Nat) (x:UInt8),(parts o)[j]? =some x->ps[j]? =some (pt d x)∧(ns[j]?).map BitVec.toNat=some (nu d x))->c=cut d (parts o)):Fc p c:=by
 have hs:∀s:Str,s=[]∨s∈ps->s.length<=1000000:=λs hs=>by
  rcases hs with rfl|hs
  ·exact Nat.zero_le _
  ·exact Nat.le_trans (h.2.1 s hs) hl
 refine ⟨⟨⟨hs _ h1,hs _ h2,hs _ h3,hs _ h4⟩,h5⟩,λd hv hq hd=>?_⟩;obtain ⟨f1,f2⟩:=h.2.2 d hv hq hd;rw[hk d hv hq f1 f2,<-f1,cut_all hv]
variable {s0 s1 s2:Str}{n1:BitVec 64}
theorem mem_some {l:List Str}{j:Nat}{s:Str}(h:l[j]? =some s):s∈l:=List.mem_of_getElem? h
theorem Fe.add (h:Fe p o ps ns)(hl:p.length<=1000000)(ho:o=1∨o=2)(e0:ps[0]? =some s0)(e2:ps[2]? =some s2)(e1:ns[1]? =some n1):Fc p ⟨o,s0,[],s2,n1.toInt,[]⟩:=by
 refine h.fin hl (.inr (mem_some e0)) (.inl rfl) (.inr (mem_some e2)) (.inl rfl) (toInt_in _) λd hv hq ho2 hf=>?_
 rw[qty_is ho] at hf ⊢;have g0:=(hf 0 107 rfl).1;have g2:=(hf 2 105 rfl).1;have g1:=(hf 1 113 rfl).2;rw[e0] at g0;rw[e2] at g2;rw[e1] at g1;have k0:s0=d.key:=Option.some.inj g0;have k2:s2=d.item:=Option.some.inj g2;have k1:n1.toNat=Cn.u d.qty:=Option.some.inj g1;rw[k0,k2,toInt_u hq k1];exact Call.ext' ho2.symm rfl rfl rfl rfl rfl
theorem Fe.two (h:Fe p o ps ns)(hl:p.length<=1000000)(ho:o=3)(e0:ps[0]? =some s0)(e1:ps[1]? =some s1):Fc p ⟨o,s0,[],s1,0,[]⟩:=by
 refine h.fin hl (.inr (mem_some e0)) (.inl rfl) (.inr (mem_some e1)) (.inl rfl) in0 λd hv hq ho2 hf=>?_
 have hp:parts o=[107,105]:=by rw[ho];decide
 rw[hp] at hf ⊢;have g0:=(hf 0 107 rfl).1;have g1:=(hf 1 105 rfl).1;rw[e0] at g0;rw[e1] at g1;have k0:s0=d.key:=Option.some.inj g0;have k1:s1=d.item:=Option.some.inj g1;rw[k0,k1];exact Call.ext' ho2.symm rfl rfl rfl rfl rfl
theorem Fe.one (h:Fe p o ps ns)(hl:p.length<=1000000)(ho:o=4∨o=5)(e0:ps[0]? =some s0):Fc p ⟨o,s0,[],[],0,[]⟩:=by
 refine h.fin hl (.inr (mem_some e0)) (.inl rfl) (.inl rfl) (.inl rfl) in0 λd hv hq ho2 hf=>?_
 have hp:parts o=[107]:=by rcases ho with ho|ho<;>rw[ho]<;>decide
 rw[hp] at hf ⊢;have g0:=(hf 0 107 rfl).1;rw[e0] at g0;have k0:s0=d.key:=Option.some.inj g0;rw[k0];exact Call.ext' ho2.symm rfl rfl rfl rfl rfl
theorem Fe.wish (h:Fe p o ps ns)(hl:p.length<=1000000)(ho:o=6)(e0:ps[0]? =some s0)(e1:ps[1]? =some s1)(e2:ps[2]? =some s2):Fc p ⟨o,s0,s1,s2,0,[]⟩:=by
 refine h.fin hl (.inr (mem_some e0)) (.inr (mem_some e1)) (.inr (mem_some e2)) (.inl rfl) in0 λd hv hq ho2 hf=>?_
 have hp:parts o=[107,111,105]:=by rw[ho];decide
 rw[hp] at hf ⊢;have g0:=(hf 0 107 rfl).1;have g1:=(hf 1 111 rfl).1;have g2:=(hf 2 105 rfl).1;rw[e0] at g0;rw[e1] at g1;rw[e2] at g2;have k0:s0=d.key:=Option.some.inj g0;have k1:s1=d.other:=Option.some.inj g1;have k2:s2=d.item:=Option.some.inj g2;rw[k0,k1,k2];exact Call.ext' ho2.symm rfl rfl rfl rfl rfl
theorem Fe.login (h:Fe p o ps ns)(hl:p.length<=1000000)(ho:o=7)(e0:ps[0]? =some s0)(e1:ps[1]? =some s1):Fc p ⟨o,s0,s1,[],0,[]⟩:=by
 refine h.fin hl (.inr (mem_some e0)) (.inr (mem_some e1)) (.inl rfl) (.inl rfl) in0 λd hv hq ho2 hf=>?_
 have hp:parts o=[107,111]:=by rw[ho];decide
 rw[hp] at hf ⊢;have g0:=(hf 0 107 rfl).1;have g1:=(hf 1 111 rfl).1;rw[e0] at g0;rw[e1] at g1;have k0:s0=d.key:=Option.some.inj g0;have k1:s1=d.other:=Option.some.inj g1;rw[k0,k1];exact Call.ext' ho2.symm rfl rfl rfl rfl rfl
theorem Fe.deliver (h:Fe p o ps ns)(hl:p.length<=1000000)(ho:o=8)(e0:ps[0]? =some s0):Fc p ⟨o,[],[],[],0,s0⟩:=by
 refine h.fin hl (.inl rfl) (.inl rfl) (.inl rfl) (.inr (mem_some e0)) in0 λd hv hq ho2 hf=>?_
 have hp:parts o=[100]:=by rw[ho];decide
 rw[hp] at hf ⊢;have g0:=(hf 0 100 rfl).1;rw[e0] at g0;have k0:s0=d.data:=Option.some.inj g0;rw[k0];exact Call.ext' ho2.symm rfl rfl rfl rfl rfl
theorem Fe.none (h:Fe p o ps ns)(hl:p.length<=1000000)(h1:¬o=1)(h2:¬o=2)(h3:¬o=3)(h4:¬o=4)(h5:¬o=5)(h6:¬o=6)(h7:¬o=7)(h8:¬o=8):Fc p ⟨o,[],[],[],0,[]⟩:=by
 refine h.fin hl (.inl rfl) (.inl rfl) (.inl rfl) (.inl rfl) in0 λd hv hq ho2 hf=>?_
 have ho:=(valid_iff.1 hv).1;rw[ho2] at ho;have hp:parts o=[]:=by
  rcases op_cases ho with h|h|h|h|h|h|h|h|h|h|h
  ·exact absurd h h1
  ·exact absurd h h2
  ·exact absurd h h3
  ·exact absurd h h4
  ·exact absurd h h5
  ·exact absurd h h6
  ·exact absurd h h7
  ·exact absurd h h8
  ·rw [h];decide
  ·rw [h];decide
  ·rw [h];decide
 rw[hp];exact Call.ext' ho2.symm rfl rfl rfl rfl rfl
theorem bytes_ne (d:Call):bytes d≠[]:=by unfold bytes;simp
theorem gt_nat {n:Nat}(hn:n<2^64)(k:BitVec 64):BitVec.ofInt 64 ((n:Nat):Int)<k↔n<k.toNat:=by
 rw[BitVec.lt_def,BitVec.toNat_ofInt];have:(((n:Nat):Int)%((2^64:Nat):Int)).toNat=n:=by omega
 rw[this]
theorem toInt_small {k:BitVec 64}(h:k.toNat<=1000000):k.toInt=(k.toNat:Int):=by
 rw[BitVec.toInt_eq_toNat_of_lt (by omega)]
theorem lt_byte {b:UInt8}:b.toBitVec<128#8↔b.toNat<128:=by
 rw[BitVec.lt_def,UInt8.toNat_toBitVec];exact Iff.rfl
def FGot (p:Str)(c:Call)(b:Bool):Prop:=(b=true->valid c=true∧InI64 c.qty∧bytes c=p)∧(b=false->∀d,valid d=true->InI64 d.qty->bytes d≠p)
theorem FGot.of {c:Call}(h:Fc p c){b:Bool}(hb:b=true↔valid c=true∧bytes c=p):FGot p c b:=
 ⟨λq=>⟨(hb.1 q).1,h.1.2,(hb.1 q).2⟩,λq d hv hq hd=>by
  have e:=h.2 d hv hq hd;subst e;have:=hb.2 ⟨hv,hd⟩;rw[q] at this;cases this⟩
theorem FGot.bad (h:∀d,valid d=true->InI64 d.qty->bytes d≠p)(c:Call):FGot p c false:=⟨λq=>(by cases q),λ_=>h⟩
end
end Go.Pn.Cl
