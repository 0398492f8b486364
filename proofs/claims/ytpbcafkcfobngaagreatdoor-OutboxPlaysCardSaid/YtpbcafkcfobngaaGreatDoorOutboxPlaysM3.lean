/-
 Outboxes: strings put in order one by one. No condition.
-/
import Derived.Ground.Names2Prog
import Derived.Shelf.Spec.SlicesInsert
import Derived.Shelf.Spec.SlicesInsertGrow
import Derived.Test.YtpbcafkcfobngaaGreatDoorProg
import Derived.Test.YtpbcafkcfobngaaGreatDoorCards
import Derived.Test.YtpbcafkcfobngaaGreatDoorTie
import Derived.Test.YtpbcafkcfobngaaGreatDoorOutboxPlaysM2
section
namespace Go.Pn.Ob
open Go Go.Pn Go.Pn.Jn Go.Pn.Bt
def lin (s:Name):List Name->List Name
 |[]=>[s]
 |a::r=>if BL a s then a::lin s r else s::a::r
def srt (l:List Name):List Name:=l.foldl (λo s=>lin s o) []
theorem srt_snoc (l:List Name)(s:Name):srt (l++[s])=lin s (srt l):=by unfold srt;rw[List.foldl_append];rfl
theorem srt_take {l:List Name}{i:Nat}(h:i<l.length):srt (l.take (i+1))=lin l[i] (srt (l.take i)):=by rw[List.take_succ_eq_append_getElem h,srt_snoc]
theorem lin_len (s:Name):∀o:List Name,(lin s o).length=o.length+1
 |[]=>rfl
 |a::r=>by
  unfold lin
  split
  ·rw [List.length_cons,lin_len s r,List.length_cons]
  ·rfl
theorem srt_len (l:List Name):(srt l).length=l.length:=by
 have:∀(l o:List Name),(l.foldl (λo s=>lin s o) o).length=o.length+l.length:=by
  intro l
  induction l with
  |nil=>intro o;rfl
  |cons a l ih=>intro o;rw[List.foldl_cons,ih,lin_len,List.length_cons];omega
 have h:=this l []
 simpa[srt] using h
theorem lin_at {s:Name}:∀{o:List Name} {k:Nat},k<=o.length->(∀j,∀h:j<o.length,j<k->BL o[j] s)->(∀h:k<o.length,¬BL o[k] s)->o.take k++s::o.drop k=lin s o
 |[],k,hk,_,_=>by simp[lin]
 |a::r,0,_,_,h2=>by
  have:=h2 (by simp);unfold lin;rw[if_neg (by simpa using this)]
  rfl
 |a::r,k+1,hk,h1,h2=>by
  have ha:=h1 0 (by simp) (by omega);unfold lin;rw[if_pos (by simpa using ha)];show a::(r.take k++s::r.drop k)=_;rw[lin_at (o:=r) (k:=k) (by simpa using hk) (λj h q=>by have:=h1 (j+1) (by simpa using h) (by omega);simpa using this) (λh=>by have:=h2 (by simpa using h);simpa using this)]
theorem lin_nins {s:Name}:∀{o:List Name},o.Pairwise BL->s∉o->lin s o=nins s o
 |[],_,_=>rfl
 |a::r,hp,hs=>by
  have h:=List.pairwise_cons.1 hp;show (if BL a s then a::lin s r else s::a::r)=(if a=s then a::r else if BL s a then s::a::r else a::nins s r);rcases bl_total a s with g|g|g
  ·rw [if_pos g,if_neg (λe:a=s=>bl_irrefl s (by rw[e] at g;exact g)),if_neg (λq=>bl_irrefl _ (bl_trans q g)),lin_nins h.2 (λq=>hs (List.mem_cons_of_mem _ q))]
  ·exact absurd (by rw[g];exact List.mem_cons_self) hs
  ·rw [if_neg (λq=>bl_irrefl _ (bl_trans q g)),if_neg (λe:a=s=>bl_irrefl s (by rw[e] at g;exact g)),if_pos g]
def nxt (o:List Name)(s:Name)(k:Nat):Bool:=match o[k]? with
 |some a=>Op.bytesLess a s
 |none=>false
theorem nxt_lt {o:List Name}{s:Name}{k:Nat}(h:k<o.length):nxt o s k=Op.bytesLess o[k] s:=by unfold nxt;rw[List.getElem?_eq_getElem h]
theorem nxt_ge {o:List Name}{s:Name}{k:Nat}(h:o.length<=k):nxt o s k=false:=by unfold nxt;rw[List.getElem?_eq_none h]
theorem nxt_true {o:List Name}{s:Name}{k:Nat}(h:nxt o s k=true):∃q:k<o.length,BL o[k] s:=by
 rcases Nat.lt_or_ge k o.length with g|g
 ·exact ⟨g,(nxt_lt g).symm.trans h⟩
 ·rw [nxt_ge g] at h;cases h
theorem nxt_false {o:List Name}{s:Name}{k:Nat}(h:nxt o s k=false):∀q:k<o.length,¬BL o[k] s:=λq g=>by
 have:=(nxt_lt q).symm.trans h;rw[show Op.bytesLess o[k] s=true from g] at this;cases this
end Go.Pn.Ob
end
section
namespace Go.Pn.Ob
open Go Go.Pn Go.Pn.Jn Go.Pn.Bt
def Lin (ks:List Name)(k:Name)(i:Nat):Prop:=i<=ks.length∧(∀j,∀h:j<ks.length,j<i->BL ks[j] k)∧∀h:i<ks.length,¬BL ks[i] k
theorem Lin.at {ks:List Name}{k:Name}{i:Nat}(h:Lin ks k i)(hp:ks.Pairwise BL):At ks k i:=by
 refine ⟨h.1,h.2.1,λj hj hij=>?_⟩;rcases Nat.lt_or_eq_of_le hij with g|rfl
 ·exact bl_no (.inr ((List.pairwise_iff_getElem.1 hp) i j (by omega) hj g)) (h.2.2 (by omega))
 ·exact h.2.2 hj
def hit (ks:List Name)(k:Name)(i:Nat):Bool:=decide (ks[i]? =some k)
theorem hit_lt {ks:List Name}{k:Name}{i:Nat}(h:i<ks.length):hit ks k i=decide (ks[i]=k):=by unfold hit;rw[List.getElem?_eq_getElem h];exact decide_eq_decide.2 ⟨λq=>Option.some.inj q,λq=>congrArg some q⟩
theorem hit_ge {ks:List Name}{k:Name}{i:Nat}(h:ks.length<=i):hit ks k i=false:=by unfold hit;rw[List.getElem?_eq_none h];rfl
theorem hit_iff {ks:List Name}{k:Name}{i:Nat}(h:Lin ks k i)(hp:ks.Pairwise BL):hit ks k i=decide (k∈ks):=by
 rcases Nat.lt_or_ge i ks.length with g|g
 ·rw [hit_lt g]
  exact decide_eq_decide.2 ⟨λq=>((h.at hp).found hp).2 ⟨g,q⟩,λq=>by obtain ⟨_,e⟩:=((h.at hp).found hp).1 q;exact e⟩
 ·rw [hit_ge g]
  exact (dF (λq=>by obtain ⟨q,_⟩:=((h.at hp).found hp).1 q;omega)).symm
end Go.Pn.Ob
end
section
namespace Go.Pn.Ob
open Go Go.Pn Go.Pn.Jn Go.Pn.Bt
def tm (l:List ItemT):Nat:=(l.map (·.2.length)).sum
theorem tm_cons (x:ItemT)(l:List ItemT):tm (x::l)=x.2.length+tm l:=by unfold tm;rw[List.map_cons,List.sum_cons]
theorem tm_filter (p:ItemT->Bool)(l:List ItemT):tm (l.filter p)<=tm l:=by
 induction l with
 |nil=>exact Nat.le_refl _
 |cons x l ih=>
  rw[List.filter_cons]
  split
  ·rw [tm_cons,tm_cons];omega
  ·rw [tm_cons];omega
theorem marks_cons (x:ItemT)(l:List ItemT)(s:Name):marks (x::l) s=if x.1=s then x.2 else marks l s:=by
 unfold marks;rw[List.find?_cons]
 by_cases h:x.1=s
 ·rw [if_pos h];simp[h]
 ·rw [if_neg h];simp[h]
theorem marks_sum:∀(l:List ItemT) (nl:List Name),nl.Nodup->(nl.map λs=>(marks l s).length).sum<=tm l
 |[],nl,_=>by
  have h:(nl.map λs=>(marks [] s).length)=nl.map λ_=>0:=List.map_congr_left λs _=>rfl
  rw[h];have:(nl.map λ_=>(0:Nat)).sum=0:=by induction nl with
   |nil=>rfl
   |cons a l ih=>rw[List.map_cons,List.sum_cons,ih (List.nodup_cons.1 (by assumption)).2 (List.map_congr_left λs _=>rfl)]
  omega
 |x::l,nl,hn=>by
  have ih:=marks_sum l nl hn;have key:∀nl:List Name,nl.Nodup->(nl.map λs=>(marks (x::l) s).length).sum<=x.2.length+(nl.map λs=>(marks l s).length).sum∧(x.1∉nl->(nl.map λs=>(marks (x::l) s).length).sum<=(nl.map λs=>(marks l s).length).sum):=by
   intro nl
   induction nl with
   |nil=>intro _;exact ⟨by simp,λ_=>by simp⟩
   |cons a nl ih=>
    intro hd;have hd:=List.nodup_cons.1 hd;obtain ⟨i1,i2⟩:=ih hd.2;simp only[List.map_cons,List.sum_cons];rw[marks_cons];refine ⟨?_,λhx=>?_⟩
    ·by_cases h:x.1=a
     ·rw [if_pos h]
      have:=i2 (by rw[h];exact hd.1)
      omega
     ·rw [if_neg h];omega
    ·rw [if_neg (λh=>hx (by rw[h];exact List.mem_cons_self))]
     have:=i2 (λq=>hx (List.mem_cons_of_mem _ q))
     omega
  have:=(key nl hn).1;rw[tm_cons];omega
theorem names_nodup (a b:Jn.Cart):(allNames a b).Nodup:=(nset_pw (namesOf a++namesOf b)).imp λh e=>by rw[e] at h;exact bl_irrefl _ h
theorem join_tm (a b:Jn.Cart):tm (join a b).2<=tm a.2+tm b.2:=by
 have h1:tm (join a b).2<=tm ((allNames a b).map (item a b)):=tm_filter _ _;have h2:∀nl:List Name,tm (nl.map (item a b))<=(nl.map λs=>(marks a.2 s).length).sum+(nl.map λs=>(marks b.2 s).length).sum:=by
  intro nl
  induction nl with
  |nil=>exact Nat.le_refl _
  |cons s nl ih=>
   rw[List.map_cons,tm_cons];simp only[List.map_cons,List.sum_cons];have k1:=mset_len (both a b s);have k2:(both a b s).length<=(marks a.2 s).length+(marks b.2 s).length:=by
    unfold both stay;rw[List.length_append];have h3:=List.length_filter_le (keeps (marks b.2 s) b.1) (marks a.2 s);have h4:=List.length_filter_le (keeps (marks a.2 s) a.1) (marks b.2 s)
    omega
   show (mset (both a b s)).length+_<=_
   omega
 have h3:=h2 (allNames a b);have h4:=marks_sum a.2 _ (names_nodup a b);have h5:=marks_sum b.2 _ (names_nodup a b)
 omega
def SzC (N:Nat)(x:CartT):Prop:=x.1.1.length<=40*N+20*(N*(N+1))∧x.1.2.length<=40*N∧x.2.length<=20*N∧tm x.2<=400*N∧∀y∈x.2,y.1.length<=100
theorem mul_mono {N M:Nat}(h:N<=M):N*(N+1)<=M*(M+1):=Nat.mul_le_mul h (by omega)
theorem SzC.mono {N M:Nat}{x:CartT}(h:SzC N x)(hm:N<=M):SzC M x:=by
 obtain ⟨h1,h2,h3,h4,h5⟩:=h;have:=mul_mono hm;exact ⟨by omega,by omega,by omega,by omega,h5⟩
theorem tm_le {l:List ItemT}{n:Nat}(h:∀y∈l,y.2.length<=n):tm l<=n*l.length:=by
 induction l with
 |nil=>exact Nat.zero_le _
 |cons x l ih=>
  have h1:=h x List.mem_cons_self;have h2:=ih λy hy=>h y (List.mem_cons_of_mem _ hy)
  rw[tm_cons,List.length_cons,Nat.mul_add]
  omega
theorem mem_tm {l:List ItemT}{y:ItemT}(h:y∈l):y.2.length<=tm l:=by
 induction l with
 |nil=>cases h
 |cons x l ih=>
  rw[tm_cons];rcases List.mem_cons.1 h with rfl|h
  ·omega
  ·have:=ih h;omega
theorem SzC.small {x:CartT}(h:Cn.small x=true):SzC 1 x:=by
 obtain ⟨h1,h2,h3,h4⟩:=Cn.small_iff h;have h5:=tm_le (n:=20) λy hy=>(h4 y hy).1
 exact ⟨by omega,by omega,by omega,by omega,λy hy=>(h4 y hy).2⟩
theorem SzC.join {N:Nat}{a b:CartT}(ha:SzC N a)(hb:Cn.small b=true)(ga:GoodC a)(gb:GoodC b):SzC (N+1) (Jn.join a b):=by
 obtain ⟨a1,a2,a3,a4,_⟩:=ha;obtain ⟨b1,b2,b3,b4⟩:=Cn.small_iff hb;have b5:=tm_le (n:=20) λy hy=>(b4 y hy).1
 obtain ⟨s1,s2,s3⟩:=join_sizes a b;have s4:=join_tm a b;have e:(N+1)*(N+1+1)=N*(N+1)+2*N+2:=by rw[Nat.add_mul,Nat.mul_add N (N+1) 1];omega
 exact ⟨by rw[e];omega,by omega,by omega,by omega,λy hy=>by have:=join_names ga gb y hy;omega⟩
theorem dotsB_n (l:List Dt.Dot)(h:l.length<=1000000):(Cn.dotsB l).length<=10+20*l.length:=by
 have h1:=Cn.num_le l.length (by omega);have h2:=Cn.flatMap_le (f:=Cn.dotB) (b:=20) (l:=l) λx _=>Cn.dotB_le x
 unfold Cn.dotsB;rw[List.length_append]
 omega
theorem items_n {l:List ItemT}(h:∀y∈l,y.1.length<=100∧y.2.length<=1000000):(l.flatMap Cn.itemB).length<=120*l.length+40*tm l:=by
 induction l with
 |nil=>exact Nat.zero_le _
 |cons x l ih=>
  have h1:=h x List.mem_cons_self;have h2:=ih λy hy=>h y (List.mem_cons_of_mem _ hy)
  have h3:=Cn.num_le x.1.length (by omega);have h4:=Cn.num_le x.2.length (by omega);have h5:=Cn.flatMap_le (f:=Cn.markB) (b:=40) (l:=x.2) λy _=>Cn.markB_le y
  rw[List.flatMap_cons,List.length_append,tm_cons,List.length_cons];have h6:(Cn.itemB x).length<=120+40*x.2.length:=by
   unfold Cn.itemB Cn.strB;simp only[List.length_append]
   omega
  omega
theorem SzC.ent {x:Ent}{N:Nat}(h:SzC N x.2)(hN:N<=27)(hk:x.1.length<=100):(entB x).length<=900000:=by
 obtain ⟨h1,h2,h3,h4,h5⟩:=h;have:=mul_mono hN;have d1:=dotsB_n x.2.1.1 (by omega);have d2:=dotsB_n x.2.1.2 (by omega);have d3:=Cn.num_le x.2.2.length (by omega);have d4:=Cn.num_le x.1.length (by omega);have d5:=items_n (l:=x.2.2) λy hy=>⟨h5 y hy,by have:=mem_tm hy;omega⟩
 unfold entB Cn.strB Cn.bytes Cn.ctxB Cn.itemsB;simp only[List.length_append]
 omega
theorem SzC.big {x:Ent}{N:Nat}(h:SzC N x.2)(hN:N<=27)(hk:x.1.length<=100):Big [x]∧Mid 20000 [x]:=by
 obtain ⟨h1,h2,h3,h4,h5⟩:=h;have:=mul_mono hN;refine ⟨λy hy=>?_,λy hy=>?_⟩
 ·rw [List.mem_singleton.1 hy]
  exact ⟨by omega,by omega,by omega,by omega,λz hz=>by have:=mem_tm hz;have:=h5 z hz;omega⟩
 ·rw [List.mem_singleton.1 hy]
  exact ⟨by omega,by omega,by omega,λz hz=>by have:=mem_tm hz;have:=h5 z hz;omega⟩
end Go.Pn.Ob
end
section
namespace Go.Pn.Ob
open Go Go.Pn Go.Pn.Jn Go.Pn.Bt
def one (x:Ent):List Ent:=if okE x then [x] else []
theorem get_one (x:Ent)(k:Name):get [x] k=if x.1=k then some x.2 else none:=by rw[get_cons,get_nil]
theorem okKey_len {s:List UInt8}(h:okKey s=true):s.length<=64:=by
 unfold okKey at h;simp only[Bool.and_eq_true,decide_eq_true_eq] at h;exact h.2.2
theorem sz_all {l:List Ent}{N:Nat}(ho:Ord l)(h:∀k c,get l k=some c->SzC N c)(hN:N<=27):Big l∧Mid 20000 l∧∀x∈l,(entB x).length<=900000:=by
 have key:∀x∈l,SzC N x.2∧x.1.length<=100:=λx hx=>⟨h x.1 x.2 (get_mem ho hx),by have:=okKey_len (ho.ok x hx).1;omega⟩
 refine ⟨λx hx=>?_,λx hx=>?_,λx hx=>(key x hx).1.ent hN (key x hx).2⟩
 ·exact ((key x hx).1.big hN (key x hx).2).1 x List.mem_cons_self
 ·exact ((key x hx).1.big hN (key x hx).2).2 x List.mem_cons_self
def st (n:Int)(xs:List Ent):List Ent×List Name:=xs.foldl (λs x=>if okE x then put n s.1 s.2 x.1 x.2 else s) ([],[])
theorem get_not {l:List Ent}{k:Name}(h:k∉keys l):get l k=none:=by
 cases hg:get l k with
 |none=>rfl
 |some c=>exact absurd (get_keys.1 (by rw[hg];rfl)) h
theorem keys_merge {a b:List Ent}(ha:Ord a)(hb:Ord b){k:Name}:k∈keys (merge a b)↔k∈keys a∨k∈keys b:=by
 rw[<-get_keys,<-get_keys,<-get_keys,merge_get ha hb];cases get a k<;>cases get b k<;>simp[oj]
theorem merge_has {l:List Ent}{x:Ent}(hl:Ord l)(hx:Ord [x])(h:x.1∈keys l):(merge l [x]).length<=l.length:=by
 have e:keys (merge l [x])=keys l:=pw_ext bl_irrefl (λa b=>bl_trans a b) (keys_pw (merge_ord hl hx)) (keys_pw hl) λk=>by
  rw[keys_merge hl hx];refine ⟨λq=>?_,.inl⟩;rcases q with g|g
  ·exact g
  ·have:k=x.1:=by simpa[keys] using g
   rw[this];exact h
 have h3:=congrArg List.length e;rw[keys_len,keys_len] at h3
 omega
theorem get_picked {d:List Name}{wl:List Ent}(hw:Ord wl)(hd:d.Pairwise BL)(k:Name):get (picked d wl) k=if k∈d then get wl k else none:=by
 by_cases hk:k∈d
 ·rw [if_pos hk]
  cases hg:get wl k with
  |some c=>
   exact get_mem (picked_ord hw hd) (x:=(k,c)) (List.mem_filterMap.2 ⟨k,hk,by rw[hg];rfl⟩)
  |none=>
   refine get_none λx hx e=>?_
   have:=get_mem hw (picked_keys hx).1;rw[e,hg] at this;cases this
 ·rw [if_neg hk]
  exact get_none λx hx e=>hk (by rw[<-e];exact (picked_keys hx).2)
end Go.Pn.Ob
end
section
namespace Go.Pn.Ob
open Go Go.Pn Go.Pn.Jn Go.Pn.Bt
def K (i:Nat):Name:=[107,UInt8.ofNat (48+i/100),UInt8.ofNat (48+i/10%10),UInt8.ofNat (48+i%10)]
def A (m:Nat)(f:Nat->CartT):List Ent:=(List.range m).map λj=>(K j,f j)
def c7:CartT:=someC 7 7
theorem small_some (r c:Int):Cn.small (someC r c)=true:=rfl
end Go.Pn.Ob
end
section
namespace Go.Pn.Ob
open Go Go.Pn Go.Pn.Jn Go.Pn.Bt
def xwith:List Ent->Ent->List Ent
 |[],x=>[x]
 |a::r,x=>if BL a.1 x.1 then a::xwith r x else if a.1=x.1 then x::r else x::a::r
def fnd:List Ent->Name->Option Ent
 |[],_=>none
 |a::r,k=>if BL a.1 k then fnd r k else if a.1=k then some a else none
theorem lin_zero {a:Ent}{r:List Ent}{k:Name}(h:Lin (keys (a::r)) k 0):¬BL a.1 k:=h.2.2 (by unfold keys;simp)
theorem lin_succ {a:Ent}{r:List Ent}{k:Name}{i:Nat}(h:Lin (keys (a::r)) k (i+1)):BL a.1 k∧Lin (keys r) k i:=by
 obtain ⟨h1,h2,h3⟩:=h;refine ⟨h2 0 (by unfold keys;simp) (by omega),by unfold keys at h1 ⊢;simpa using h1,λj hj hji=>?_,λhi=>?_⟩
 ·have:=h2 (j+1) (by unfold keys at hj ⊢;simpa using hj) (by omega)
  rw[keys_get] at this ⊢
  simpa using this
 ·have:=h3 (by unfold keys at hi ⊢;simpa using hi)
  rw[keys_get] at this ⊢
  simpa using this
theorem hit_succ (a:Ent)(r:List Ent)(k:Name)(i:Nat):hit (keys (a::r)) k (i+1)=hit (keys r) k i:=by unfold hit keys;simp
theorem hit_zero (a:Ent)(r:List Ent)(k:Name):hit (keys (a::r)) k 0=decide (a.1=k):=by unfold hit keys;simp
theorem xwith_at {x:Ent}:∀{l:List Ent} {i:Nat},Lin (keys l) x.1 i->l.take i++x::l.drop (if hit (keys l) x.1 i=true then i+1 else i)=xwith l x
 |[],i,h=>by
  have:=h.1
  simp[keys] at this
  subst this
  rfl
 |a::r,0,h=>by
  have h1:=lin_zero h;unfold xwith;rw[if_neg h1,hit_zero]
  by_cases e:a.1=x.1
  ·rw [if_pos e,if_pos (decide_eq_true e)];rfl
  ·rw [if_neg e,if_neg (by simp[e])];rfl
 |a::r,i+1,h=>by
  obtain ⟨h1,h2⟩:=lin_succ h;unfold xwith;rw[if_pos h1,<-xwith_at h2,hit_succ]
  by_cases e:hit (keys r) x.1 i=true
  ·rw [if_pos e,if_pos e];rfl
  ·rw [if_neg e,if_neg e];rfl
theorem fnd_at {k:Name}:∀{l:List Ent} {i:Nat},Lin (keys l) k i->(hit (keys l) k i=true->∃h:i<l.length,fnd l k=some l[i])∧(hit (keys l) k i=false->fnd l k=none)
 |[],i,h=>by
  have:=h.1
  simp[keys] at this
  subst this;exact ⟨λq=>(by simp[hit,keys] at q),λ_=>rfl⟩
 |a::r,0,h=>by
  have h1:=lin_zero h;rw[hit_zero];unfold fnd;rw[if_neg h1];refine ⟨λq=>⟨by simp,?_⟩,λq=>if_neg (of_decide_eq_false q)⟩;rw[if_pos (of_decide_eq_true q)];rfl
 |a::r,i+1,h=>by
  obtain ⟨h1,h2⟩:=lin_succ h;have ih:=fnd_at h2;rw[hit_succ];unfold fnd;rw[if_pos h1];refine ⟨λq=>?_,ih.2⟩;obtain ⟨q1,q2⟩:=ih.1 q;exact ⟨by simpa using q1,q2⟩
theorem xwith_len (x:Ent):∀l:List Ent,(xwith l x).length<=l.length+1
 |[]=>Nat.le_refl _
 |a::r=>by
  have:=xwith_len x r;unfold xwith
  split
  ·rw [List.length_cons,List.length_cons];omega
  ·split
   ·rw [List.length_cons,List.length_cons];omega
   ·rw [List.length_cons,List.length_cons];omega
theorem xwith_mem {x y:Ent}:∀{l:List Ent},y∈xwith l x->y=x∨y∈l
 |[],h=>.inl (List.mem_singleton.1 h)
 |a::r,h=>by
  unfold xwith at h
  split at h
  ·rcases List.mem_cons.1 h with rfl|h
   ·exact .inr (.head _)
   ·exact (xwith_mem h).imp id (.tail _)
  ·split at h
   ·rcases List.mem_cons.1 h with rfl|h
    ·exact .inl rfl
    ·exact .inr (.tail _ h)
   ·rcases List.mem_cons.1 h with rfl|h
    ·exact .inl rfl
    ·exact .inr h
theorem xwith_ord {x:Ent}(hx:okE x=true):∀{l:List Ent},Ord l->Ord (xwith l x)
 |[],_=>one_ord hx
 |a::r,h=>by
  have ho:=(one_ord hx).ok x (.head _);have ih:=xwith_ord hx h.tail;unfold xwith
  split
  ·rename_i q
   refine ⟨λy hy=>?_,List.pairwise_cons.2 ⟨λy hy=>?_,ih.up⟩⟩
   ·rcases List.mem_cons.1 hy with rfl|hy
    ·exact h.ok _ (.head _)
    ·exact ih.ok y hy
   ·rcases xwith_mem hy with rfl|hy
    ·exact q
    ·exact h.head y hy
  ·rename_i q
   split
   ·rename_i e
    refine ⟨λy hy=>?_,List.pairwise_cons.2 ⟨λy hy=>by rw[<-e];exact h.head y hy,h.tail.up⟩⟩;rcases List.mem_cons.1 hy with rfl|hy
    ·exact ho
    ·exact h.ok y (.tail _ hy)
   ·rename_i e
    have hb:BL x.1 a.1:=by
     rcases bl_total a.1 x.1 with g|g|g
     ·exact absurd g q
     ·exact absurd g e
     ·exact g
    refine ⟨λy hy=>?_,List.pairwise_cons.2 ⟨λy hy=>?_,h.up⟩⟩
    ·rcases List.mem_cons.1 hy with rfl|hy
     ·exact ho
     ·exact h.ok y hy
    ·rcases List.mem_cons.1 hy with rfl|hy
     ·exact hb
     ·exact bl_trans hb (h.head y hy)
theorem xwith_get {x:Ent}:∀{l:List Ent},l.Pairwise (λa b=>BL a.1 b.1)->∀k,get (xwith l x) k=if x.1=k then some x.2 else get l k
 |[],_,k=>by show get [x] k=_;rw[get_cons]
 |a::r,h,k=>by
  have hp:=List.pairwise_cons.1 h;have ih:=xwith_get (x:=x) hp.2 k;unfold xwith
  split
  ·rename_i q
   rw[get_cons,ih,get_cons]
   by_cases e:a.1=k
   ·rw [if_pos e,if_neg (λg=>bl_irrefl _ (by rw[e,<-g] at q;exact q)),if_pos e]
   ·rw [if_neg e,if_neg e]
  ·split
   ·rename_i e
    rw[get_cons,get_cons,e]
    by_cases g:x.1=k
    ·rw [if_pos g,if_pos g]
    ·rw [if_neg g,if_neg g,if_neg g]
   ·rw [get_cons]
theorem fnd_get {k:Name}:∀{l:List Ent},Ord l->fnd l k=(get l k).map λc=>(k,c)
 |[],_=>rfl
 |a::r,h=>by
  unfold fnd;rw[get_cons]
  split
  ·rename_i q
   rw[if_neg (λe=>bl_irrefl _ (by rw[e] at q;exact q)),fnd_get h.tail]
  ·rename_i q
   split
   ·rename_i e;exact congrArg some (Prod.ext e rfl)
   ·rename_i e
    rw[get_none λy hy g=>?_]
    ·rfl
    ·have:=h.head y hy
     rw[g] at this;exact q this
theorem lin_mem {s x:Name}:∀{o:List Name},x∈lin s o↔x=s∨x∈o
 |[]=>by simp[lin]
 |a::r=>by
  unfold lin
  split
  ·rw [List.mem_cons,lin_mem,List.mem_cons]
   constructor
   ·rintro (h|h|h)
    ·exact .inr (.inl h)
    ·exact .inl h
    ·exact .inr (.inr h)
   ·rintro (h|h|h)
    ·exact .inr (.inl h)
    ·exact .inl h
    ·exact .inr (.inr h)
  ·rw [List.mem_cons]
theorem srt_mem {x:Name}:∀{m:List Name},x∈srt m↔x∈m:=by
 intro m;have key:∀(m o:List Name),x∈m.foldl (λo s=>lin s o) o↔x∈o∨x∈m:=by
  intro m
  induction m with
  |nil=>intro o;simp
  |cons a m ih=>
   intro o;rw[List.foldl_cons,ih,lin_mem,List.mem_cons]
   constructor
   ·rintro ((h|h)|h)
    ·exact .inr (.inl h)
    ·exact .inl h
    ·exact .inr (.inr h)
   ·rintro (h|h|h)
    ·exact .inl (.inr h)
    ·exact .inl (.inl h)
    ·exact .inr h
 have:=key m []
 simpa[srt] using this
def xput (n:Int)(l:List Ent)(m:List Name)(k:Name)(c:Bt.Cart):List Ent×List Name:=
 if k∈m then (l,m) else match get l k with
  |some q=>(xwith l (k,Jn.join q c),m)
  |none=>if (l.length:Int)<n then (xwith l (k,c),m) else (l,m++[k])
structure PI (n:Int) (l:List Ent) (m:List Name) (N:Nat):Prop where
 ol:Ord l
 od:(srt m).Pairwise BL
 len:(l.length:Int)<=n
 cnt:m.length<=N
 off:∀k∈m,get l k=none
 ok:∀k∈m,okKey k=true
 sz:∀k c,get l k=some c->SzC N c
theorem PI.nil {n:Int}(h:0<=n)(N:Nat):PI n [] [] N:=⟨Ord.nil,List.Pairwise.nil,h,Nat.zero_le _,λ_ h=>(by cases h),λ_ h=>(by cases h),λ_ _ h=>(by cases h)⟩
theorem PI.mono {n:Int}{l:List Ent}{m:List Name}{N M:Nat}(h:PI n l m N)(hm:N<=M):PI n l m M:=⟨h.ol,h.od,h.len,by have:=h.cnt;omega,h.off,h.ok,λk c hc=>(h.sz k c hc).mono hm⟩
theorem xput_put {n:Int}{l:List Ent}{m:List Name}{N:Nat}{k:Name}{c:Bt.Cart}(h:PI n l m N)(hx:okE (k,c)=true):put n l (srt m) k c=((xput n l m k c).1,srt (xput n l m k c).2):=by
 have ho:=one_ord hx;unfold xput
 by_cases hk:k∈m
 ·rw [if_pos hk,put_marked (srt_mem.2 hk)]
 ·have hd:k∉srt m:=λq=>hk (srt_mem.1 q)
  rw[if_neg hk];cases hg:get l k with
  |some q=>
   have hin:k∈keys l:=get_keys.1 (by rw[hg];rfl);rw[put_merge hd (.inl hin)];refine Prod.ext ?_ rfl;show merge l [(k,c)]=xwith l (k,Jn.join q c);have hj:okE (k,Jn.join q c)=true:=by
    have h1:=(one_ord hx).ok (k,c) (.head _);exact okE_of h1.1 (good_iff.2 (join_good (get_good h.ol hg) h1.2))
   refine ord_ext (merge_ord h.ol ho) (xwith_ord hj h.ol) λk'=>?_
   rw[merge_get h.ol ho,get_one,xwith_get h.ol.up]
   by_cases e:k=k'
   ·subst e
    rw[if_pos rfl,if_pos rfl,hg];rfl
   ·rw [if_neg e,if_neg e,oj_none]
  |none=>
   have hin:k∉keys l:=λq=>by have:=get_keys.2 q;rw[hg] at this;cases this
   by_cases hl:(l.length:Int)<n
   ·simp only[if_pos hl]
    rw[put_merge hd (.inr (by omega))];refine Prod.ext ?_ rfl;show merge l [(k,c)]=xwith l (k,c);refine ord_ext (merge_ord h.ol ho) (xwith_ord hx h.ol) λk'=>?_
    rw[merge_get h.ol ho,get_one,xwith_get h.ol.up]
    by_cases e:k=k'
    ·subst e
     rw[if_pos rfl,if_pos rfl,hg];rfl
    ·rw [if_neg e,if_neg e,oj_none]
   ·simp only[if_neg hl]
    have:=h.len;rw[put_new hd hin (by omega)];refine Prod.ext rfl ?_;show nins k (srt m)=srt (m++[k]);rw[srt_snoc,lin_nins h.od hd]
theorem PI.put {n:Int}{l:List Ent}{m:List Name}{N:Nat}{k:Name}{c:Bt.Cart}(h:PI n l m N)(hx:okE (k,c)=true)(hc:Cn.small c=true):PI n (xput n l m k c).1 (xput n l m k c).2 (N+1):=by
 have hgc:=((one_ord hx).ok (k,c) (.head _)).2;have hkk:=((one_ord hx).ok (k,c) (.head _)).1;have hxp:=xput_put h hx;have hm:=h.mono (Nat.le_succ N);unfold xput at hxp ⊢
 by_cases hk:k∈m
 ·rw [if_pos hk];exact hm
 ·rw [if_neg hk] at hxp ⊢
  cases hg:get l k with
  |some q=>
   have hj:okE (k,Jn.join q c)=true:=okE_of hkk (good_iff.2 (join_good (get_good h.ol hg) hgc));have hlen:(xwith l (k,Jn.join q c)).length<=l.length:=by
    rw[hg] at hxp;have h1:=congrArg Prod.fst hxp;have hd:k∉srt m:=λq=>hk (srt_mem.1 q)
    have hin:k∈keys l:=get_keys.1 (by rw[hg];rfl);rw[put_merge hd (.inl hin)] at h1;have h2:merge l [(k,c)]=xwith l (k,Jn.join q c):=h1;rw[<-h2];exact merge_has (x:=(k,c)) h.ol (one_ord hx) hin
   refine ⟨xwith_ord hj h.ol,h.od,?_,hm.cnt,λk' hk'=>?_,h.ok,λk' c' hc'=>?_⟩
   ·have h9:=h.len
    show ((xwith l (k,Jn.join q c)).length:Int)<=n
    omega
   ·show get (xwith l (k,Jn.join q c)) k'=none
    rw[xwith_get h.ol.up,if_neg (λe:k=k'=>hk (by rw[e];exact hk'))];exact h.off k' hk'
   ·have hc2:get (xwith l (k,Jn.join q c)) k'=some c':=hc'
    rw[xwith_get h.ol.up] at hc2
    by_cases e:k=k'
    ·rw [if_pos e] at hc2
     rw[<-Option.some.inj hc2];exact (h.sz k q hg).join hc (get_good h.ol hg) hgc
    ·rw [if_neg e] at hc2
     exact hm.sz k' c' hc2
  |none=>
   by_cases hl:(l.length:Int)<n
   ·simp only[if_pos hl]
    refine ⟨xwith_ord hx h.ol,h.od,?_,hm.cnt,λk' hk'=>?_,h.ok,λk' c' hc'=>?_⟩
    ·have:=xwith_len (k,c) l
     omega
    ·rw [xwith_get h.ol.up,if_neg (λe:k=k'=>hk (by rw[e];exact hk'))]
     exact h.off k' hk'
    ·rw [xwith_get h.ol.up] at hc'
     by_cases e:k=k'
     ·rw [if_pos e] at hc'
      rw[<-Option.some.inj hc'];exact (SzC.small hc).mono (by omega)
     ·rw [if_neg e] at hc'
      exact hm.sz k' c' hc'
   ·simp only[if_neg hl]
    refine ⟨h.ol,?_,h.len,?_,λk' hk'=>?_,λk' hk'=>?_,hm.sz⟩
    ·rw [srt_snoc,lin_nins h.od (λq=>hk (srt_mem.1 q))]
     exact nins_pw _ h.od
    ·have:=h.cnt
     rw[List.length_append];show m.length+1<=_
     omega
    ·rcases List.mem_append.1 hk' with q|q
     ·exact h.off k' q
     ·rw [List.mem_singleton.1 q];exact hg
    ·rcases List.mem_append.1 hk' with q|q
     ·exact h.ok k' q
     ·rw [List.mem_singleton.1 q];exact hkk
def xw (wl:List Ent):List Ent->List Name->Option (List Ent)
 |o,[]=>some o
 |o,k::r=>match fnd wl k with
  |none=>none
  |some x=>xw wl (xwith o x) r
theorem xw_no {wl:List Ent}(hw:Ord wl):∀(m:List Name) (o:List Ent),xw wl o m=none↔∃k∈m,k∉keys wl
 |[],o=>by simp[xw]
 |k::r,o=>by
  unfold xw;rw[fnd_get hw];cases hg:get wl k with
  |none=>
   have hin:k∉keys wl:=λq=>by have:=get_keys.2 q;rw[hg] at this;cases this
   simp only[Option.map_none,true_iff];exact ⟨k,.head _,hin⟩
  |some c=>
   have hin:k∈keys wl:=get_keys.1 (by rw[hg];rfl);simp only[Option.map_some];rw[xw_no hw r]
   constructor
   ·rintro ⟨k',h1,h2⟩;exact ⟨k',.tail _ h1,h2⟩
   ·rintro ⟨k',h1,h2⟩
    rcases List.mem_cons.1 h1 with rfl|h1
    ·exact absurd hin h2
    ·exact ⟨k',h1,h2⟩
theorem xw_yes {wl:List Ent}(hw:Ord wl):∀(m:List Name) (o out:List Ent),Ord o->xw wl o m=some out->Ord out∧∀k,get out k=if k∈m then get wl k else get o k
 |[],o,out,ho,h=>by
  have e:o=out:=Option.some.inj h;subst e;exact ⟨ho,λk=>by simp⟩
 |k::r,o,out,ho,h=>by
  unfold xw at h;rw[fnd_get hw] at h;cases hg:get wl k with
  |none=>rw[hg] at h;cases h
  |some c=>
   rw[hg] at h;have hx:okE (k,c)=true:=by
    have:=hw.ok _ (mem_get hg);exact okE_of this.1 (good_iff.2 this.2)
   obtain ⟨h1,h2⟩:=xw_yes hw r _ out (xwith_ord hx ho) h;refine ⟨h1,λk'=>?_⟩;rw[h2,xwith_get ho.up]
   by_cases e:k'∈r
   ·rw [if_pos e,if_pos (.tail _ e)]
   ·rw [if_neg e]
    by_cases g:k=k'
    ·subst g;rw[if_pos rfl,if_pos (.head _),hg]
    ·rw [if_neg g,if_neg (λq=>by rcases List.mem_cons.1 q with q|q;exact g q.symm;exact e q)]
theorem xw_drain {n:Int}{l wl:List Ent}{m:List Name}{N:Nat}(h:PI n l m N)(hw:ordered wl=true):(xw wl l m=none->drE (srt m) wl=9)∧∀out,xw wl l m=some out->drE (srt m) wl=0∧drL l (srt m) wl=out:=by
 have ho:=ord_iff.1 hw;refine ⟨λhn=>?_,λout hs=>?_⟩
 ·obtain ⟨k,h1,h2⟩:=(xw_no ho m l).1 hn
  obtain ⟨i,hi,e⟩:=List.getElem_of_mem (srt_mem.2 h1);unfold drE;rw[if_neg (by rw[hw];decide),if_pos (allIn_no hi (by rw[e];exact h2))]
 ·have hin:∀k∈m,k∈keys wl:=λk hk=>by
   by_cases q:k∈keys wl
   ·exact q
   ·have:=(xw_no ho m l).2 ⟨k,hk,q⟩
    rw[hs] at this;cases this
  have he:drE (srt m) wl=0:=by
   unfold drE;rw[if_neg (by rw[hw];decide),if_neg (by rw[allIn_yes λi q=>hin _ (srt_mem.1 (List.getElem_mem q))];decide)]
  refine ⟨he,?_⟩;unfold drL;rw[if_pos he];obtain ⟨h1,h2⟩:=xw_yes ho m l out h.ol hs;have hp:=picked_ord ho h.od;refine ord_ext (merge_ord h.ol hp) h1 λk=>?_
  rw[merge_get h.ol hp,get_picked ho h.od,h2]
  by_cases q:k∈m
  ·rw [if_pos (srt_mem.2 q),if_pos q,h.off k q];cases get wl k<;>rfl
  ·rw [if_neg (λg=>q (srt_mem.1 g)),if_neg q,oj_none]
theorem PI.wide {n:Int}{l wl:List Ent}{m:List Name}{N:Nat}(h:PI n l m N)(hN:N+1<=27)(hs:∀x∈wl,Cn.small x.2=true)(hw:ordered wl=true):Big (merge l (picked (srt m) wl))∧∀x∈merge l (picked (srt m) wl),(entB x).length<=900000:=by
 have ho:=ord_iff.1 hw;have hp:=picked_ord ho h.od;have:=sz_all (N:=N+1) (merge_ord h.ol hp) (λk c hc=>?_) hN
 ·exact ⟨this.1,this.2.2⟩
 ·rw [merge_get h.ol hp,get_picked ho h.od] at hc
  by_cases q:k∈m
  ·rw [if_pos (srt_mem.2 q),h.off k q] at hc
   cases hg:get wl k with
   |none=>rw[hg] at hc;cases hc
   |some c'=>
    rw[hg] at hc;have e:c'=c:=Option.some.inj hc;subst e;exact (SzC.small (hs _ (mem_get hg))).mono (by omega)
  ·rw [if_neg (λg=>q (srt_mem.1 g)),oj_none] at hc
   exact (h.sz k c hc).mono (by omega)
theorem PI.big {n:Int}{l:List Ent}{m:List Name}{N:Nat}(h:PI n l m N)(hN:N<=27):Big l∧Mid 20000 l:=by
 have:=sz_all h.ol h.sz hN;exact ⟨this.1,this.2.1⟩
theorem small_at {c:Bt.Cart}(h:Cn.small c=true):c.2.length<=200000∧(∀y∈c.2,y.1.length<=1000000∧y.2.length<=1000000)∧c.1.1.length<=10000∧c.1.2.length<=10000:=by
 obtain ⟨h1,h2,h3,h4⟩:=Cn.small_iff h;exact ⟨by omega,λy hy=>by have:=h4 y hy;omega,by omega,by omega⟩
theorem PI.at {n:Int}{l:List Ent}{m:List Name}{N:Nat}{x:Ent}(h:PI n l m N)(hN:N<=27)(hx:x∈l):GoodC x.2∧x.2.2.length<=200000∧(∀y∈x.2.2,y.1.length<=1000000∧y.2.length<=1000000)∧x.2.1.1.length<=30000∧x.2.1.2.length<=30000:=by
 have hg:=get_mem h.ol hx;obtain ⟨h1,h2,h3,h4,h5⟩:=h.sz _ _ hg;have:=mul_mono hN;exact ⟨get_good h.ol hg,by omega,λy hy=>by have:=mem_tm hy;have:=h5 y hy;omega,by omega,by omega⟩
theorem xput_has {n:Int}{l:List Ent}{m:List Name}{k:Name}{c:Bt.Cart}(h:k∈m):xput n l m k c=(l,m):=if_pos h
theorem xput_join {n:Int}{l:List Ent}{m:List Name}{k:Name}{c:Bt.Cart}{x:Ent}(ho:Ord l)(h:k∉m)(hx:x∈l)(hk:x.1=k):xput n l m k c=(xwith l (k,Jn.join x.2 c),m):=by
 have:=get_mem ho hx;rw[hk] at this;unfold xput;rw[if_neg h,this]
theorem xput_new {n:Int}{l:List Ent}{m:List Name}{k:Name}{c:Bt.Cart}(h:k∉m)(hx:k∉keys l)(hl:(l.length:Int)<n):xput n l m k c=(xwith l (k,c),m):=by
 unfold xput;rw[if_neg h,get_not hx];exact if_pos hl
theorem xput_mark {n:Int}{l:List Ent}{m:List Name}{k:Name}{c:Bt.Cart}(h:k∉m)(hx:k∉keys l)(hl:¬(l.length:Int)<n):xput n l m k c=(l,m++[k]):=by
 unfold xput;rw[if_neg h,get_not hx];exact if_neg hl
theorem ent_small {x:Ent}(hc:Cn.small x.2=true)(hk:x.1.length<=100):Big [x]∧Mid 20000 [x]:=(SzC.small hc).big (by omega) hk
theorem all_small {l:List Ent}(h:∀x∈l,x.1.length<=100∧Cn.small x.2=true):Big l∧Mid 20000 l:=⟨λx hx=>(ent_small (h x hx).2 (h x hx).1).1 x (.head _),λx hx=>(ent_small (h x hx).2 (h x hx).1).2 x (.head _)⟩
def w2 (c:Bt.Cart)(m:List Name):List Ent:=m.foldl (λw k=>xwith w (k,c)) []
theorem w2_take {c:Bt.Cart}{m:List Name}{i:Nat}(h:i<m.length):w2 c (m.take (i+1))=xwith (w2 c (m.take i)) (m[i],c):=by
 rw[List.take_succ_eq_append_getElem h];unfold w2;rw[List.foldl_append]
 rfl
theorem w2_mem {c:Bt.Cart}{x:Ent}:∀{m:List Name},x∈w2 c m->x.1∈m∧x.2=c:=by
 have key:∀(m:List Name) (o:List Ent),x∈m.foldl (λw k=>xwith w (k,c)) o->x∈o∨(x.1∈m∧x.2=c):=by
  intro m
  induction m with
  |nil=>intro o h;exact .inl h
  |cons k r ih=>
   intro o h;rcases ih _ h with q|q
   ·rcases xwith_mem q with rfl|q
    ·exact .inr ⟨.head _,rfl⟩
    ·exact .inl q
   ·exact .inr ⟨.tail _ q.1,q.2⟩
 intro m h;rcases key m [] h with q|q
 ·cases q
 ·exact q
theorem w2_len {c:Bt.Cart}:∀{m:List Name},(w2 c m).length<=m.length:=by
 have key:∀(m:List Name) (o:List Ent),(m.foldl (λw k=>xwith w (k,c)) o).length<=o.length+m.length:=by
  intro m
  induction m with
  |nil=>intro o;exact Nat.le_refl _
  |cons k r ih=>
   intro o;have h1:=ih (xwith o (k,c));have h2:=xwith_len (k,c) o;rw[List.foldl_cons,List.length_cons]
   omega
 intro m;have:=key m []
 simpa[w2] using this
end Go.Pn.Ob
end
section
namespace Go.Pn
open Go.RowKit
abbrev ActT:=Int×(List UInt8×(CartT×List EntT))
abbrev ActR:=Int×(List UInt8×(((Raw×Raw)×Raw)×Raw))
def actE:Enc ActT:=prE (intK .i64).enc (prE strF.enc (prE cartE (slE entE)))
def actF:Flat ActR:=⟨6,λx=>[.int .i64 x.1,str x.2.1,slv x.2.2.1.1.1,slv x.2.2.1.1.2,slv x.2.2.1.2,slv x.2.2.2],λ_=>rfl,by simp[Value.oneCell',str,slv],by decide⟩
def ActAt (w:World)(F:Nat->Prop)(r:ActR)(a:ActT):Prop:=r.1=a.1∧r.2.1=a.2.1∧CartAt w F r.2.2.1 a.2.2.1∧Sl entE w F (slv r.2.2.2) a.2.2.2
def ActL (w:World)(F:Nat->Prop)(raw:List ActR)(l:List ActT):Prop:=raw.length=l.length∧∀i,∀h:i<raw.length,∀h':i<l.length,ActAt w F raw[i] l[i]
section
variable {w w':World}{F:Nat->Prop}{v:Value}{l:List ActT}{raw:List ActR}
theorem ActL.at {k:Nat}(h:ActL w F raw l)(hk:k<l.length):∃(h9:k<raw.length) (r:ActR) (x:ActT),r=raw[k]∧x=l[k]∧ActAt w F r x:=⟨by have:=h.1;omega,raw[k]'(by have:=h.1;omega),l[k],rfl,rfl,h.2 k (by have:=h.1;omega) hk⟩
theorem Sl.acts (h:Sl actE w F v l):∃raw,Sl actF.enc w F v raw∧ActL w F raw l:=by
 obtain ⟨rs,h1,h2,h3⟩:=Sl.raws (G:=actF) (R:=λr x=>ActAt w F r x) rfl (λcs x hr=>by
  obtain ⟨_,_,rfl,h0,_,_,rfl,h1,_,_,rfl,⟨_,_,rfl,⟨_,_,rfl,⟨va,rfl,hx⟩,vb,rfl,hy⟩,vc,rfl,hz⟩,vd,rfl,hw⟩:=hr;obtain ⟨a1,rfl⟩:=hx.slv;obtain ⟨a2,rfl⟩:=hy.slv;obtain ⟨a3,rfl⟩:=hz.slv;obtain ⟨a4,rfl⟩:=hw.slv;have h0:_=[Value.int .i64 x.1]:=h0;have h1:_=[str x.2.1]:=h1;subst h0;subst h1;exact ⟨(x.1,x.2.1,((a1,a2),a3),a4),rfl,rfl,rfl,⟨hx,hy,hz⟩,hw⟩) h
 exact ⟨rs,h1,h2,h3⟩
end
section
variable {P:Program}{W:World}{α β γ δ:Type}{E:Enc α}{E':Enc β}{E'':Enc γ}{E3:Enc δ}{Q:α->Prop}{Q':β->Prop}{Q'':γ->Prop}{Q3:δ->Prop}{t:TypeId}
theorem Opens.struct4 {f0 f1 f2 f3:Field}(ht:P.underlying t=some (.struct #[f0,f1,f2,f3]))(h0:Opens P W E Q f0.type)(h1:Opens P W E' Q' f1.type)(h2:Opens P W E'' Q'' f2.type)(h3:Opens P W E3 Q3 f3.type)(o0:f0.offset=0)(o1:f1.offset=E.sz)(o2:f2.offset=E.sz+E'.sz)(o3:f3.offset=E.sz+E'.sz+E''.sz)(hc:P.cellsOf t=E.sz+(E'.sz+(E''.sz+E3.sz))):
 Opens P W (prE E (prE E' (prE E'' E3))) (λx=>Q x.1∧Q' x.2.1∧Q'' x.2.2.1∧Q3 x.2.2.2) t:=by
 refine ⟨hc,λ{H enc fuel cs x} hx=>?_⟩;obtain ⟨xs,n,_,_,hlen,hxl,hf⟩:=DataW.trod_struct ht hx;have g0:=hf 0 f0 rfl;have g1:=hf 1 f1 rfl;have g2:=hf 2 f2 rfl;have g3:=hf 3 f3 rfl;have hx2:xs.length=4:=hxl;rw[List.getElem?_eq_getElem (by omega)] at g0 g1 g2 g3;rw[o0,List.drop_zero,h0.sz] at g0;rw[o1,h1.sz] at g1;rw[o2,h2.sz] at g2;rw[o3,h3.sz] at g3;obtain ⟨d0,a1,a2⟩:=h0.op g0;obtain ⟨d1,b1,b2⟩:=h1.op g1;obtain ⟨d2,c1,c2⟩:=h2.op g2;obtain ⟨d3,e1,e2⟩:=h3.op g3;refine ⟨(d0,d1,d2,d3),⟨_,_,?_,a1,⟨_,_,rfl,b1,⟨_,_,rfl,c1,e1⟩⟩⟩,a2,b2,c2,e2⟩;have k1:cs.drop (E.sz+E'.sz)=(cs.drop E.sz).drop E'.sz:=List.drop_drop.symm;have k2:cs.drop (E.sz+E'.sz+E''.sz)=((cs.drop E.sz).drop E'.sz).drop E''.sz:=by rw[List.drop_drop,List.drop_drop,Nat.add_assoc]
 rw[k2,k1,List.take_of_length_le (l:=((cs.drop E.sz).drop E'.sz).drop E''.sz) (by simp;omega),List.take_append_drop,List.take_append_drop,List.take_append_drop]
end
end Go.Pn
end
section
namespace Go.Pn
section
variable {P:Program}{n:Nat}{l:List Oper}{N:Val->World->Prop}{X:Nat->Val->World->Prop}{R:Val->World->Prop}{Z:List PanicEntry->World->Prop}{f:Val}{w wB:World}{M:Nat->Prop}
 {pos:String}{after:Array Edge}{ty:TypeId}{x:Operand}{d:Nat}
def DM (P:Program)(n:Nat)(l:List Oper)(listed:Array Bool)(N:Val->World->Prop)(Z:List PanicEntry->World->Prop)(M:Nat->Prop)(wB:World)(fuel:Nat)(f:Val)(w:World):Prop:=
 wpAnyH P .any l.toArray (Q0 n N Z) (λw'=>Ext M wB w') fuel listed (Fr n f) w
theorem C.drawM {id:Nat}(M:Nat->Prop)(hm:P.follows .mixedOrders=true)(h:∀w1,Le w w1->DM P n l (Array.replicate l.toArray.size false) N Z M w1 l.toArray.size f w1):C P n (.region id l.toArray true) N X R Z f w:=by
 refine wp_mono (wp_region_held (S:=λw'=>Ext M {w with drawn:=w.drawn+1} w') hm (h {w with drawn:=w.drawn+1} ⟨rfl,rfl,rfl,Nat.le_refl _,λ_ _ _=>rfl⟩)) ?_;intro e a w he;cases e with
 |normal=>exact he
 |exit i=>obtain ⟨_,_,h⟩:=he;exact h.elim
 |goto l=>exact he
 |ret=>obtain ⟨_,_,h⟩:=he;exact h.elim
 |panic ch=>exact he
 |outgrown=>exact he
theorem DM.done {listed:Array Bool}{fuel:Nat}(hr:Region.ready .any l.toArray listed=[])(h:N f w):DM P n l listed N Z M wB fuel f w:=wpAnyH_done hr ⟨f,rfl,h⟩ fuel
theorem DM.take {listed:Array Bool}{fuel i:Nat}{o:Oper}{d:Nat}{v:Value}(hi:l[i]? =some o)(hg:o.guard=.none)(hd:o.dst=some d)(hdn:Nat.ble (d+1) n=true)
 (hk:(Region.noSelect l.toArray&&Region.free .any l.toArray listed i&&(Region.ready .any l.toArray listed).contains i)=true)
 (hS:Ext M wB w)(hX:∃X:Sem Value,execOp (ev n f) o=(do pure (.value (<-X))))
 (hO:∀w',Ext M wB w'->∀N:Val->World->Prop,N (upd f d v) w'->O P n [o] [o] N (λ_ _=>False) f w')
 (h:DM P n l (listed.setIfInBounds i true) N Z M wB fuel (upd f d v) w):DM P n l listed N Z M wB (fuel+1) f w:=by
 simp only[Bool.and_eq_true] at hk;have hy:YieldsIf P l.toArray (λw'=>Ext M wB w') o v (Fr n f):=
  .inl ⟨by simp[Region.wanted,hg],λw' hw=>by rw[eval_Fr];exact run_of_O hg hd (Nat.le_of_ble_eq_true hdn) hX (hO w' hw)⟩
 refine wpAnyH_take (i:=i) (oi:=o) (v:=v) (by simpa using hi) hk.1.1 hk.1.2 hk.2 (Q0_put _ _) hy hS ?_;rw[hd,put_Fr];exact h
theorem DM.takeYes {listed:Array Bool}{fuel i:Nat}{dst:Option Nat}{op:Op}{ty:TypeId}{pos:String}{after:Array Edge}{j dj:Nat}{b:Bool}{d:Nat}{v:Value}
 (hi:l[i]? =some {dst:=dst,op:=op,type:=ty,pos:=pos,after:=after,guard:=some (j,b)})(hd:dst=some d)(hdn:Nat.ble (d+1) n=true)
 (hk:(Region.noSelect l.toArray&&Region.free .any l.toArray listed i&&(Region.ready .any l.toArray listed).contains i)=true)
 (hj:(l[j]?).bind (·.dst)=some dj)(hv:ev n f (.tmp dj)=.bool b)
 (hS:Ext M wB w)(hX:∃X:Sem Value,execOp (ev n f) {dst:=dst,op:=op,type:=ty,pos:=pos,after:=after,guard:=.none}=(do pure (.value (<-X))))
 (hO:∀w',Ext M wB w'->∀N:Val->World->Prop,N (upd f d v) w'->O P n [{dst:=dst,op:=op,type:=ty,pos:=pos,after:=after,guard:=.none}] [{dst:=dst,op:=op,type:=ty,pos:=pos,after:=after,guard:=.none}] N (λ_ _=>False) f w')
 (h:DM P n l (listed.setIfInBounds i true) N Z M wB fuel (upd f d v) w):DM P n l listed N Z M wB (fuel+1) f w:=by
 simp only[Bool.and_eq_true] at hk;have hy0:yielded l.toArray (Fr n f).tmps j=some b:=by
  have hd:=getD_Fr n f dj;rw[hv] at hd;unfold yielded;have h1:(l.toArray[j]?).bind (·.dst)=some dj:=by simpa using hj
  rw[h1];simp only[Option.bind_some];rw[Array.getD_eq_getD_getElem?] at hd;cases hx:(Fr n f).tmps[dj]? with
  |none=>rw[hx] at hd;simp[undef] at hd
  |some v=>rw[hx] at hd;simp at hd;subst hd;rfl
 have hy:YieldsIf P l.toArray (λw'=>Ext M wB w') {dst:=dst,op:=op,type:=ty,pos:=pos,after:=after,guard:=some (j,b)} v (Fr n f):=
  .inl ⟨by simp[Region.wanted,hy0],λw' hw=>by rw[eval_Fr];exact run_of_O (o:={dst:=dst,op:=op,type:=ty,pos:=pos,after:=after,guard:=.none}) rfl hd (Nat.le_of_ble_eq_true hdn) hX (hO w' hw)⟩
 refine wpAnyH_take (i:=i) (v:=v) (by simpa using hi) hk.1.1 hk.1.2 hk.2 (Q0_put _ _) hy hS ?_;simp only[hd];rw[put_Fr];exact h
theorem DM.step {listed:Array Bool}{fuel j:Nat}{o:Oper}(hi:l[j]? =some o)(hg:o.guard=.none)
 (hO:O P n [o] [o] (λf' w'=>Ext M wB w'∧DM P n l (listed.setIfInBounds j true) N Z M wB fuel f' w') Z f w):
 wpOp P l.toArray (Q0 n N Z) j (λa' w'=>Ext M wB w'∧wpAnyH P .any l.toArray (Q0 n N Z) (λw'=>Ext M wB w') fuel (listed.setIfInBounds j true) a' w') (Fr n f) w:=by
 unfold wpOp;have hi2:l.toArray[j]? =some o:=by simpa using hi
 rw[hi2];unfold O at hO;simp only[wpList,Region.wanted,hg,if_true] at hO ⊢;have key:∀a' w',Q0 n (λf' w'=>Ext M wB w'∧DM P n l (listed.setIfInBounds j true) N Z M wB fuel f' w') Z .normal a' w'->Ext M wB w'∧wpAnyH P .any l.toArray (Q0 n N Z) (λw'=>Ext M wB w') fuel (listed.setIfInBounds j true) a' w':=by
  rintro a' w' ⟨f',rfl,h1,h2⟩;exact ⟨h1,h2⟩
 rcases hO with h|⟨_,a0,w0,h0⟩
 ·left
  unfold Oper.wp at h ⊢
  generalize (execOp (Fr n f).eval o).run P w=r at h ⊢
  cases r with
  |ok nx w'=>
   cases nx with
   |value v=>exact key _ _ h
   |skip=>exact key _ _ h
   |defer d=>exact key _ _ h
   |enter k args=>
    refine Calls.mono h ?_;intro e w'' he;cases e with
    |returned v=>exact key _ _ he
    |panicked ch=>exact he
    |outgrown=>obtain ⟨a0,w0,h0⟩:=he;exact h0.elim
   |row r args=>exact Rows.mono h λv w'' hv=>key _ _ hv
   |_=>exact h.elim
  |halt hh w'=>cases hh<;>first|exact h|exact h.elim
 ·exact h0.elim
theorem DM.one {listed:Array Bool}{fuel i:Nat}{o:Oper}(hi:l[i]? =some o)(hg:o.guard=.none)(hr:Region.ready .any l.toArray listed=[i])
 (hO:O P n [o] [o] (λf' w'=>Ext M wB w'∧DM P n l (listed.setIfInBounds i true) N Z M wB fuel f' w') Z f w):DM P n l listed N Z M wB (fuel+1) f w:=by
 refine wpAnyH_all hr (by simp) ?_;intro j hj;obtain rfl:j=i:=by simpa using hj
 exact DM.step hi hg hO
theorem DM.cast {listed:Array Bool}{fuel:Nat}{v v':Value}(hv:v=v')(h:DM P n l listed N Z M wB fuel (upd f d v') w):DM P n l listed N Z M wB fuel (upd f d v) w:=hv ▸ h
theorem DM.oneYes {l:List Oper}{listed:Array Bool}{fuel i:Nat}{dst:Option Nat}{op:Op}{ty:TypeId}{j dj:Nat}{b:Bool}
 (hi:l[i]? =some {dst:=dst,op:=op,type:=ty,pos:=pos,after:=after,guard:=some (j,b)})(hj:(l[j]?).bind (·.dst)=some dj)(hv:ev n f (.tmp dj)=.bool b)(hr:Region.ready .any l.toArray listed=[i])
 (hO:O P n [{dst:=dst,op:=op,type:=ty,pos:=pos,after:=after,guard:=.none}] [{dst:=dst,op:=op,type:=ty,pos:=pos,after:=after,guard:=.none}] (λf' w'=>Ext M wB w'∧DM P n l (listed.setIfInBounds i true) N Z M wB fuel f' w') Z f w):DM P n l listed N Z M wB (fuel+1) f w:=by
 refine wpAnyH_all hr (by simp) ?_;intro i' hi';obtain rfl:i'=i:=by simpa using hi'
 have hy0:yielded l.toArray (Fr n f).tmps j=some b:=by
  have hd:=getD_Fr n f dj;rw[hv] at hd;unfold yielded;have h1:(l.toArray[j]?).bind (·.dst)=some dj:=by simpa using hj
  rw[h1];simp only[Option.bind_some];rw[Array.getD_eq_getD_getElem?] at hd;cases hx:(Fr n f).tmps[dj]? with
  |none=>rw[hx] at hd;simp[undef] at hd
  |some v=>rw[hx] at hd;simp at hd;subst hd;rfl
 unfold wpOp;have hi2:l.toArray[i']? =some {dst:=dst,op:=op,type:=ty,pos:=pos,after:=after,guard:=some (j,b)}:=by simpa using hi
 rw[hi2];unfold O at hO;simp only[wpList,Region.wanted,if_true,hy0,beq_self_eq_true] at hO ⊢;have key:∀a' w',Q0 n (λf' w'=>Ext M wB w'∧DM P n l (listed.setIfInBounds i' true) N Z M wB fuel f' w') Z .normal a' w'->Ext M wB w'∧wpAnyH P .any l.toArray (Q0 n N Z) (λw'=>Ext M wB w') fuel (listed.setIfInBounds i' true) a' w':=by
  rintro a' w' ⟨f',rfl,h1,h2⟩;exact ⟨h1,h2⟩
 rcases hO with h|⟨_,a0,w0,h0⟩
 ·left
  unfold Oper.wp at h ⊢;have hex:execOp (Fr n f).eval {dst:=dst,op:=op,type:=ty,pos:=pos,after:=after,guard:=some (j,b)}=execOp (Fr n f).eval {dst:=dst,op:=op,type:=ty,pos:=pos,after:=after,guard:=.none}:=rfl;rw[hex]
  generalize (execOp (Fr n f).eval {dst:=dst,op:=op,type:=ty,pos:=pos,after:=after,guard:=.none}).run P w=r at h ⊢
  cases r with
  |ok nx w'=>
   cases nx with
   |value v=>exact key _ _ h
   |skip=>exact key _ _ h
   |defer d=>exact key _ _ h
   |enter k args=>
    refine Calls.mono h ?_;intro e w'' he;cases e with
    |returned v=>exact key _ _ he
    |panicked ch=>exact he
    |outgrown=>obtain ⟨a0,w0,h0⟩:=he;exact h0.elim
   |row r args=>exact Rows.mono h λv w'' hv=>key _ _ hv
   |_=>exact h.elim
  |halt hh w'=>cases hh<;>first|exact h|exact h.elim
 ·exact h0.elim
end
end Go.Pn
end
section
namespace Go.Pn.Ob
open Go Go.Pn Go.Pn.Jn Go.Pn.Bt
theorem put_same {n:Int}{l l1 l2:List Ent}{m m2 d1:List Name}{N:Nat}{k:Name}{c:Bt.Cart}{e1 e2:Int}(h:PI n l m N)(hc:Cn.small c=true)(h1:PutR n l (srt m) k c l1 d1 e1)(h2:(okE (k,c)=true∧e2=0∧xput n l m k c=(l2,m2))∨(okE (k,c)=false∧e2=2∧l2=l∧m2=m)):e1=e2∧l1=l2∧d1=srt m2∧PI n l2 m2 (N+1):=by
 rcases h2 with ⟨a1,a2,a3⟩|⟨a1,a2,a3,a4⟩
 ·rcases h1 with ⟨_,b2,b3⟩|⟨b1,_⟩
  ·have hp:=xput_put h a1
   have hi:=h.put a1 hc;rw[a3] at hp hi;rw[b3] at hp;exact ⟨b2.trans a2.symm,congrArg Prod.fst hp,congrArg Prod.snd hp,hi⟩
  ·rw [a1] at b1;cases b1
 ·rcases h1 with ⟨b1,_⟩|⟨_,b2,b3,b4⟩
  ·rw [a1] at b1;cases b1
  ·subst a3;subst a4
   exact ⟨b2.trans a2.symm,b3,b4,h.mono (Nat.le_succ N)⟩
theorem put_pi {n:Int}{l l1:List Ent}{m d1:List Name}{N:Nat}{k:Name}{c:Bt.Cart}{e1:Int}(h:PI n l m N)(hc:Cn.small c=true)(h1:PutR n l (srt m) k c l1 d1 e1):∃m2,d1=srt m2∧PI n l1 m2 (N+1):=by
 cases ho:okE (k,c) with
 |true=>
  have:=put_same h hc h1 (.inl ⟨ho,rfl,(Prod.ext rfl rfl:xput n l m k c=(_,_))⟩);exact ⟨_,this.2.2.1,this.2.1 ▸ this.2.2.2⟩
 |false=>
  have:=put_same h hc h1 (.inr ⟨ho,rfl,rfl,rfl⟩);exact ⟨m,this.2.2.1,this.2.1 ▸ this.2.2.2⟩
theorem dr_two {wl:List Ent}{d:List Name}(h:ordered wl=false):drE d wl=2:=if_pos h
theorem dr_nine {n:Int}{l wl out:List Ent}{m:List Name}{N:Nat}{is:Bool}(h:PI n l m N)(hw:ordered wl=true)(hi:is=false)(hr:(is=true∧xw wl l m=some out)∨(is=false∧out=[]∧xw wl l m=none)):drE (srt m) wl=9:=by
 subst hi;rcases hr with ⟨q,_⟩|⟨_,_,q⟩
 ·cases q
 ·exact (xw_drain h hw).1 q
theorem dr_nought {n:Int}{l wl out:List Ent}{m:List Name}{N:Nat}{is:Bool}(h:PI n l m N)(hw:ordered wl=true)(hi:is=true)(hr:(is=true∧xw wl l m=some out)∨(is=false∧out=[]∧xw wl l m=none)):drE (srt m) wl=0:=by
 subst hi;rcases hr with ⟨_,q⟩|⟨q,_⟩
 ·exact ((xw_drain h hw).2 _ q).1
 ·cases q
theorem drL_no {l wl:List Ent}{d:List Name}(h:drE d wl≠0):drL l d wl=[]:=if_neg h
theorem dr_out {n:Int}{l wl out:List Ent}{m:List Name}{N:Nat}{is:Bool}(h:PI n l m N)(h0:¬drE (srt m) wl≠0)(hr:(is=true∧xw wl l m=some out)∨(is=false∧out=[]∧xw wl l m=none)):drL l (srt m) wl=out:=by
 have h0:drE (srt m) wl=0:=Decidable.of_not_not h0;have hw:=(drE_zero h0).1;rcases hr with ⟨_,q⟩|⟨_,_,q⟩
 ·exact ((xw_drain h hw).2 _ q).2
 ·rw [(xw_drain h hw).1 q] at h0;cases h0
theorem w2_small {c:Bt.Cart}{m:List Name}(hc:Cn.small c=true)(hm:∀k∈m,okKey k=true):∀y∈w2 c m,y.1.length<=100∧Cn.small y.2=true:=λy hy=>by
 obtain ⟨h1,h2⟩:=w2_mem hy;have:=okKey_len (hm _ h1);rw[h2];exact ⟨by omega,hc⟩
end Go.Pn.Ob
end
