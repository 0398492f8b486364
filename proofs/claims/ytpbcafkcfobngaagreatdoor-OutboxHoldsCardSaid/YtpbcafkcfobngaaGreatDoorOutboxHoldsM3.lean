/-
 Outboxes: strings put in order one by one. No condition.
-/
import Derived.Ground.Names2Prog
import Derived.Shelf.Spec.SlicesInsert
import Derived.Shelf.Spec.SlicesInsertGrow
import Derived.Test.YtpbcafkcfobngaaGreatDoorProg
import Derived.Test.YtpbcafkcfobngaaGreatDoorCards
import Derived.Test.YtpbcafkcfobngaaGreatDoorTie
import Derived.Test.YtpbcafkcfobngaaGreatDoorOutboxHoldsM2
section
namespace Go.Pn.Ob
open Go Go.Pn Go.Pn.Jn Go.Pn.Bt
def nxt (o:List Name) (s:Name) (k:Nat):Bool:=match o[k]? with
 |some a=>Op.bytesLess a s
 |none=>false
theorem nxt_lt {o:List Name} {s:Name} {k:Nat} (h:k<o.length):nxt o s k=Op.bytesLess o[k] s:=by unfold nxt;rw[List.getElem?_eq_getElem h]
theorem nxt_ge {o:List Name} {s:Name} {k:Nat} (h:o.length≤k):nxt o s k=false:=by unfold nxt;rw[List.getElem?_eq_none h]
theorem nxt_true {o:List Name} {s:Name} {k:Nat} (h:nxt o s k=true):∃q:k<o.length,BL o[k] s:=by
 rcases Nat.lt_or_ge k o.length with g|g
 ·exact ⟨g,(nxt_lt g).symm.trans h⟩
 ·rw [nxt_ge g] at h;cases h
theorem nxt_false {o:List Name} {s:Name} {k:Nat} (h:nxt o s k=false):∀q:k<o.length,¬BL o[k] s:=λq g=>by
 have:=(nxt_lt q).symm.trans h;rw[show Op.bytesLess o[k] s=true from g] at this;cases this
end Go.Pn.Ob
end
section
namespace Go.Pn.Ob
open Go Go.Pn Go.Pn.Jn Go.Pn.Bt
def Lin (ks:List Name) (k:Name) (i:Nat):Prop:=i≤ks.length∧(∀j,∀h:j<ks.length,j<i→BL ks[j] k)∧∀h:i<ks.length,¬BL ks[i] k
theorem Lin.at {ks:List Name} {k:Name} {i:Nat} (h:Lin ks k i) (hp:ks.Pairwise BL):At ks k i:=by
 refine ⟨h.1,h.2.1,λj hj hij=>?_⟩;rcases Nat.lt_or_eq_of_le hij with g|rfl
 ·exact bl_no (.inr ((List.pairwise_iff_getElem.1 hp) i j (by omega) hj g)) (h.2.2 (by omega))
 ·exact h.2.2 hj
def hit (ks:List Name) (k:Name) (i:Nat):Bool:=decide (ks[i]? =some k)
theorem hit_lt {ks:List Name} {k:Name} {i:Nat} (h:i<ks.length):hit ks k i=decide (ks[i]=k):=by unfold hit;rw[List.getElem?_eq_getElem h];exact decide_eq_decide.2 ⟨λq=>Option.some.inj q,λq=>congrArg some q⟩
theorem hit_ge {ks:List Name} {k:Name} {i:Nat} (h:ks.length≤i):hit ks k i=false:=by unfold hit;rw[List.getElem?_eq_none h];rfl
theorem hit_iff {ks:List Name} {k:Name} {i:Nat} (h:Lin ks k i) (hp:ks.Pairwise BL):hit ks k i=decide (k∈ks):=by
 rcases Nat.lt_or_ge i ks.length with g|g
 ·rw [hit_lt g]
  exact decide_eq_decide.2 ⟨λq=>((h.at hp).found hp).2 ⟨g,q⟩,λq=>by obtain ⟨_,e⟩:=((h.at hp).found hp).1 q;exact e⟩
 ·rw [hit_ge g]
  exact (decide_eq_false (λq=>by obtain ⟨q,_⟩:=((h.at hp).found hp).1 q;omega)).symm
end Go.Pn.Ob
end
section
namespace Go.Pn.Ob
open Go Go.Pn Go.Pn.Jn Go.Pn.Bt
def tm (l:List ItemT):Nat:=(l.map (·.2.length)).sum
theorem tm_cons (x:ItemT) (l:List ItemT):tm (x::l)=x.2.length+tm l:=by unfold tm;rw[List.map_cons,List.sum_cons]
theorem tm_filter (p:ItemT→Bool) (l:List ItemT):tm (l.filter p)≤tm l:=by
 induction l with
 |nil=>exact Nat.le_refl _
 |cons x l ih=>
  rw[List.filter_cons]
  split
  ·rw [tm_cons,tm_cons];omega
  ·rw [tm_cons];omega
theorem marks_cons (x:ItemT) (l:List ItemT) (s:Name):marks (x::l) s=if x.1=s then x.2 else marks l s:=by
 unfold marks;rw[List.find?_cons]
 by_cases h:x.1=s
 ·rw [if_pos h];simp[h]
 ·rw [if_neg h];simp[h]
theorem marks_sum:∀(l:List ItemT) (nl:List Name),nl.Nodup→(nl.map λs=>(marks l s).length).sum≤tm l
 |[],nl,_=>by
  have h:(nl.map λs=>(marks [] s).length)=nl.map λ_=>0:=List.map_congr_left λs _=>rfl
  rw[h];have:(nl.map λ_=>(0:Nat)).sum=0:=by induction nl with
   |nil=>rfl
   |cons a l ih=>rw[List.map_cons,List.sum_cons,ih (List.nodup_cons.1 (by assumption)).2 (List.map_congr_left λs _=>rfl)]
  omega
 |x::l,nl,hn=>by
  have ih:=marks_sum l nl hn;have key:∀nl:List Name,nl.Nodup→(nl.map λs=>(marks (x::l) s).length).sum≤x.2.length+(nl.map λs=>(marks l s).length).sum∧(x.1∉nl→(nl.map λs=>(marks (x::l) s).length).sum≤(nl.map λs=>(marks l s).length).sum):=by
   intro nl
   induction nl with
   |nil=>intro _;exact ⟨by simp,λ_=>by simp⟩
   |cons a nl ih=>
    intro hd;have hd:=List.nodup_cons.1 hd;obtain ⟨i1,i2⟩:=ih hd.2;simp only[List.map_cons,List.sum_cons];rw[marks_cons];refine ⟨?_,λhx=>?_⟩
    ·by_cases h:x.1=a
     ·rw [if_pos h]
      have:=i2 (by rw[h];exact hd.1)
      omega
     ·rw [if_neg h];omega
    ·rw [if_neg (λh=>hx (by rw[h];exact List.mem_cons_self))]
     have:=i2 (λq=>hx (List.mem_cons_of_mem _ q))
     omega
  have:=(key nl hn).1;rw[tm_cons];omega
theorem names_nodup (a b:Jn.Cart):(allNames a b).Nodup:=(nset_pw (namesOf a++namesOf b)).imp λh e=>by rw[e] at h;exact bl_irrefl _ h
theorem join_tm (a b:Jn.Cart):tm (join a b).2≤tm a.2+tm b.2:=by
 have h1:tm (join a b).2≤tm ((allNames a b).map (item a b)):=tm_filter _ _;have h2:∀nl:List Name,tm (nl.map (item a b))≤(nl.map λs=>(marks a.2 s).length).sum+(nl.map λs=>(marks b.2 s).length).sum:=by
  intro nl
  induction nl with
  |nil=>exact Nat.le_refl _
  |cons s nl ih=>
   rw[List.map_cons,tm_cons];simp only[List.map_cons,List.sum_cons];have k1:=mset_len (both a b s);have k2:(both a b s).length≤(marks a.2 s).length+(marks b.2 s).length:=by
    unfold both stay;rw[List.length_append];have h3:=List.length_filter_le (keeps (marks b.2 s) b.1) (marks a.2 s);have h4:=List.length_filter_le (keeps (marks a.2 s) a.1) (marks b.2 s)
    omega
   show (mset (both a b s)).length+_≤_
   omega
 have h3:=h2 (allNames a b);have h4:=marks_sum a.2 _ (names_nodup a b);have h5:=marks_sum b.2 _ (names_nodup a b)
 omega
def SzC (N:Nat) (x:CartT):Prop:=x.1.1.length≤40*N+20*(N*(N+1))∧x.1.2.length≤40*N∧x.2.length≤20*N∧tm x.2≤400*N∧∀y∈x.2,y.1.length≤100
theorem mul_mono {N M:Nat} (h:N≤M):N*(N+1)≤M*(M+1):=Nat.mul_le_mul h (by omega)
theorem SzC.mono {N M:Nat} {x:CartT} (h:SzC N x) (hm:N≤M):SzC M x:=by
 obtain ⟨h1,h2,h3,h4,h5⟩:=h;have:=mul_mono hm;exact ⟨by omega,by omega,by omega,by omega,h5⟩
theorem tm_le {l:List ItemT} {n:Nat} (h:∀y∈l,y.2.length≤n):tm l≤n*l.length:=by
 induction l with
 |nil=>exact Nat.zero_le _
 |cons x l ih=>
  have h1:=h x List.mem_cons_self;have h2:=ih λy hy=>h y (List.mem_cons_of_mem _ hy)
  rw[tm_cons,List.length_cons,Nat.mul_add]
  omega
theorem mem_tm {l:List ItemT} {y:ItemT} (h:y∈l):y.2.length≤tm l:=by
 induction l with
 |nil=>cases h
 |cons x l ih=>
  rw[tm_cons];rcases List.mem_cons.1 h with rfl|h
  ·omega
  ·have:=ih h;omega
theorem SzC.small {x:CartT} (h:Cn.small x=true):SzC 1 x:=by
 obtain ⟨h1,h2,h3,h4⟩:=Cn.small_iff h;have h5:=tm_le (n:=20) λy hy=>(h4 y hy).1
 exact ⟨by omega,by omega,by omega,by omega,λy hy=>(h4 y hy).2⟩
theorem SzC.join {N:Nat} {a b:CartT} (ha:SzC N a) (hb:Cn.small b=true) (ga:GoodC a) (gb:GoodC b):SzC (N+1) (Jn.join a b):=by
 obtain ⟨a1,a2,a3,a4,_⟩:=ha;obtain ⟨b1,b2,b3,b4⟩:=Cn.small_iff hb;have b5:=tm_le (n:=20) λy hy=>(b4 y hy).1
 obtain ⟨s1,s2,s3⟩:=join_sizes a b;have s4:=join_tm a b;have e:(N+1)*(N+1+1)=N*(N+1)+2*N+2:=by rw[Nat.add_mul,Nat.mul_add N (N+1) 1];omega
 exact ⟨by rw[e];omega,by omega,by omega,by omega,λy hy=>by have:=join_names ga gb y hy;omega⟩
theorem dotsB_n (l:List Dt.Dot) (h:l.length≤1000000):(Cn.dotsB l).length≤10+20*l.length:=by
 have h1:=Cn.num_le l.length (by omega);have h2:=Cn.flatMap_le (f:=Cn.dotB) (b:=20) (l:=l) λx _=>Cn.dotB_le x
 unfold Cn.dotsB;rw[List.length_append]
 omega
theorem items_n {l:List ItemT} (h:∀y∈l,y.1.length≤100∧y.2.length≤1000000):(l.flatMap Cn.itemB).length≤120*l.length+40*tm l:=by
 induction l with
 |nil=>exact Nat.zero_le _
 |cons x l ih=>
  have h1:=h x List.mem_cons_self;have h2:=ih λy hy=>h y (List.mem_cons_of_mem _ hy)
  have h3:=Cn.num_le x.1.length (by omega);have h4:=Cn.num_le x.2.length (by omega);have h5:=Cn.flatMap_le (f:=Cn.markB) (b:=40) (l:=x.2) λy _=>Cn.markB_le y
  rw[List.flatMap_cons,List.length_append,tm_cons,List.length_cons];have h6:(Cn.itemB x).length≤120+40*x.2.length:=by
   unfold Cn.itemB Cn.strB;simp only[List.length_append]
   omega
  omega
theorem SzC.ent {x:Ent} {N:Nat} (h:SzC N x.2) (hN:N≤25) (hk:x.1.length≤100):(entB x).length≤900000:=by
 obtain ⟨h1,h2,h3,h4,h5⟩:=h;have:=mul_mono hN;have d1:=dotsB_n x.2.1.1 (by omega);have d2:=dotsB_n x.2.1.2 (by omega);have d3:=Cn.num_le x.2.2.length (by omega);have d4:=Cn.num_le x.1.length (by omega);have d5:=items_n (l:=x.2.2) λy hy=>⟨h5 y hy,by have:=mem_tm hy;omega⟩
 unfold entB Cn.strB Cn.bytes Cn.ctxB Cn.itemsB;simp only[List.length_append]
 omega
theorem SzC.big {x:Ent} {N:Nat} (h:SzC N x.2) (hN:N≤25) (hk:x.1.length≤100):Big [x]∧Mid 20000 [x]:=by
 obtain ⟨h1,h2,h3,h4,h5⟩:=h;have:=mul_mono hN;refine ⟨λy hy=>?_,λy hy=>?_⟩
 ·rw [List.mem_singleton.1 hy]
  exact ⟨by omega,by omega,by omega,by omega,λz hz=>by have:=mem_tm hz;have:=h5 z hz;omega⟩
 ·rw [List.mem_singleton.1 hy]
  exact ⟨by omega,by omega,by omega,λz hz=>by have:=mem_tm hz;have:=h5 z hz;omega⟩
end Go.Pn.Ob
end
section
namespace Go.Pn.Ob
open Go Go.Pn Go.Pn.Jn Go.Pn.Bt
theorem merge_nil_r {a:List Ent} (h:Ord a):merge a []=a:=by
 refine ord_ext (merge_ord h Ord.nil) h λk=>?_
 rw[merge_get h Ord.nil,get_nil,oj_none]
theorem merge_nil_l {a:List Ent} (h:Ord a):merge [] a=a:=by rw[merge_comm Ord.nil h,merge_nil_r h]
def one (x:Ent):List Ent:=if okE x then [x] else []
theorem one_yes {x:Ent} (h:okE x=true):one x=[x]:=if_pos h
theorem one_no {x:Ent} (h:okE x=false):one x=[]:=if_neg (by rw[h];decide)
theorem one_is_ord (x:Ent):Ord (one x):=by
 cases h:okE x with
 |true=>rw[one_yes h];exact one_ord h
 |false=>rw[one_no h];exact Ord.nil
def wm (xs:List Ent):List Ent:=xs.foldl (λw x=>merge w (one x)) []
theorem wm_snoc (xs:List Ent) (x:Ent):wm (xs++[x])=merge (wm xs) (one x):=by unfold wm;rw[List.foldl_append];rfl
theorem wm_take {xs:List Ent} {i:Nat} (h:i<xs.length):wm (xs.take (i+1))=merge (wm (xs.take i)) (one xs[i]):=by rw[List.take_succ_eq_append_getElem h,wm_snoc]
theorem wm_fold:∀(xs:List Ent) {o:List Ent},Ord o→Ord (xs.foldl (λw x=>merge w (one x)) o)∧xs.foldl (λw x=>merge w (one x)) o=merge o (wm xs)
 |[],o,h=>⟨h,(merge_nil_r h).symm⟩
 |x::xs,o,h=>by
  have h1:=merge_ord h (one_is_ord x);have h2:=wm_fold xs h1;have h3:=wm_fold xs (merge_ord Ord.nil (one_is_ord x));have h4:Ord (wm xs):=(wm_fold xs Ord.nil).1;refine ⟨h2.1,?_⟩;rw[List.foldl_cons,h2.2];have h5:wm (x::xs)=merge (merge [] (one x)) (wm xs):=h3.2;rw[h5,merge_nil_l (one_is_ord x),merge_assoc h (one_is_ord x) h4]
theorem wm_ord (xs:List Ent):Ord (wm xs):=(wm_fold xs Ord.nil).1
theorem wm_cons (x:Ent) (xs:List Ent):wm (x::xs)=merge (one x) (wm xs):=by
 have h3:=(wm_fold xs (merge_ord Ord.nil (one_is_ord x))).2;rw[merge_nil_l (one_is_ord x)] at h3;have h5:wm (x::xs)=xs.foldl (λw x=>merge w (one x)) (merge [] (one x)):=rfl;rw[h5,merge_nil_l (one_is_ord x),h3]
theorem wm_rev:∀xs:List Ent,wm xs.reverse=wm xs
 |[]=>rfl
 |x::xs=>by rw[List.reverse_cons,wm_snoc,wm_rev xs,wm_cons,merge_comm (wm_ord xs) (one_is_ord x)]
theorem one_len (x:Ent):(one x).length≤1:=by unfold one;split<;>simp
theorem wm_len:∀xs:List Ent,(wm xs).length≤xs.length
 |[]=>Nat.le_refl _
 |x::xs=>by
  have h1:=merge_len (one x) (wm xs);have h2:=one_len x;have h3:=wm_len xs;rw[wm_cons,List.length_cons];omega
theorem wm_has {x:Ent}:∀{xs:List Ent},x∈xs→∃R,Ord R∧wm xs=merge (one x) R
 |a::xs,h=>by
  rcases List.mem_cons.1 h with rfl|h
  ·exact ⟨wm xs,wm_ord xs,wm_cons x xs⟩
  ·obtain ⟨R,hR,e⟩:=wm_has h
   refine ⟨merge (one a) R,merge_ord (one_is_ord a) hR,?_⟩;rw[wm_cons,e,←merge_assoc (one_is_ord a) (one_is_ord x) hR,merge_comm (one_is_ord a) (one_is_ord x),merge_assoc (one_is_ord x) (one_is_ord a) hR]
theorem get_one (x:Ent) (k:Name):get [x] k=if x.1=k then some x.2 else none:=by rw[get_cons,get_nil]
theorem wm_within {x:Ent} {xs:List Ent} (h:x∈xs) (hx:okE x=true):∃c,get (wm xs) x.1=some c∧Jn.join x.2 c=c:=by
 obtain ⟨R,hR,e⟩:=wm_has h;have ho:=one_ord hx;have gx:GoodC x.2:=(ho.ok x List.mem_cons_self).2;rw[e,one_yes hx,merge_get ho hR,get_one,if_pos rfl];cases hg:get R x.1 with
 |none=>exact ⟨x.2,rfl,join_self gx⟩
 |some c=>exact ⟨Jn.join x.2 c,rfl,join_left gx (get_good hR hg)⟩
theorem wm_sz:∀{xs:List Ent},(∀x∈xs,Cn.small x.2=true)→∀k c,get (wm xs) k=some c→SzC xs.length c
 |[],_,k,c,h=>by cases h
 |x::xs,hs,k,c,h=>by
  have ih:=wm_sz (xs:=xs) (λy hy=>hs y (List.mem_cons_of_mem _ hy)) k;have hx:=hs x List.mem_cons_self;rw[wm_cons,merge_comm (one_is_ord x) (wm_ord xs),merge_get (wm_ord xs) (one_is_ord x)] at h;rw[List.length_cons];cases ho:okE x with
  |false=>
   rw[one_no ho,get_nil,oj_none] at h;exact (ih c h).mono (Nat.le_succ _)
  |true=>
   rw[one_yes ho,get_one] at h
   by_cases hk:x.1=k
   ·rw [if_pos hk] at h
    cases hg:get (wm xs) k with
    |none=>
     rw[hg] at h;have e:x.2=c:=Option.some.inj h;rw[←e];exact (SzC.small hx).mono (by omega)
    |some a=>
     rw[hg] at h;have e:Jn.join a x.2=c:=Option.some.inj h;rw[←e];exact (ih a hg).join hx (get_good (wm_ord xs) hg) ((one_ord ho).ok x List.mem_cons_self).2
   ·rw [if_neg hk,oj_none] at h
    exact (ih c h).mono (Nat.le_succ _)
theorem okKey_len {s:List UInt8} (h:okKey s=true):s.length≤64:=by
 unfold okKey at h;simp only[Bool.and_eq_true,decide_eq_true_eq] at h;exact h.2.2
theorem sz_all {l:List Ent} {N:Nat} (ho:Ord l) (h:∀k c,get l k=some c→SzC N c) (hN:N≤25):Big l∧Mid 20000 l∧∀x∈l,(entB x).length≤900000:=by
 have key:∀x∈l,SzC N x.2∧x.1.length≤100:=λx hx=>⟨h x.1 x.2 (get_mem ho hx),by have:=okKey_len (ho.ok x hx).1;omega⟩
 refine ⟨λx hx=>?_,λx hx=>?_,λx hx=>(key x hx).1.ent hN (key x hx).2⟩
 ·exact ((key x hx).1.big hN (key x hx).2).1 x List.mem_cons_self
 ·exact ((key x hx).1.big hN (key x hx).2).2 x List.mem_cons_self
def st (n:Int) (xs:List Ent):List Ent×List Name:=xs.foldl (λs x=>if okE x then put n s.1 s.2 x.1 x.2 else s) ([],[])
theorem st_take {n:Int} {xs:List Ent} {i:Nat} (h:i<xs.length):st n (xs.take (i+1))=if okE xs[i] then put n (st n (xs.take i)).1 (st n (xs.take i)).2 xs[i].1 xs[i].2 else st n (xs.take i):=by
 rw[List.take_succ_eq_append_getElem h];unfold st;rw[List.foldl_append]
 rfl
structure Inv (n:Int) (s:List Ent×List Name) (W:List Ent):Prop where
 ol:Ord s.1
 od:s.2.Pairwise BL
 len:(s.1.length:Int)≤n
 marked:∀k,k∈s.2→get s.1 k=none∧k∈keys W
 held:∀k,k∉s.2→get s.1 k=get W k
theorem Inv.nil {n:Int} (h:0≤n):Inv n ([],[]) []:=⟨Ord.nil,List.Pairwise.nil,h,λk hk=>(by cases hk),λ_ _=>rfl⟩
theorem get_not {l:List Ent} {k:Name} (h:k∉keys l):get l k=none:=by
 cases hg:get l k with
 |none=>rfl
 |some c=>exact absurd (get_keys.1 (by rw[hg];rfl)) h
theorem keys_merge {a b:List Ent} (ha:Ord a) (hb:Ord b) {k:Name}:k∈keys (merge a b)↔k∈keys a∨k∈keys b:=by
 rw[←get_keys,←get_keys,←get_keys,merge_get ha hb];cases get a k<;>cases get b k<;>simp[oj]
theorem merge_has {l:List Ent} {x:Ent} (hl:Ord l) (hx:Ord [x]) (h:x.1∈keys l):(merge l [x]).length≤l.length:=by
 have e:keys (merge l [x])=keys l:=pw_ext bl_irrefl (λa b=>bl_trans a b) (keys_pw (merge_ord hl hx)) (keys_pw hl) λk=>by
  rw[keys_merge hl hx];refine ⟨λq=>?_,.inl⟩;rcases q with g|g
  ·exact g
  ·have:k=x.1:=by simpa[keys] using g
   rw[this];exact h
 have h3:=congrArg List.length e;rw[keys_len,keys_len] at h3
 omega
theorem nins_len (s:Name):∀l:List Name,(nins s l).length≤l.length+1
 |[]=>Nat.le_refl _
 |a::l=>by
  have:=nins_len s l;unfold nins
  split
  ·exact Nat.le_succ _
  ·split
   ·exact Nat.le_refl _
   ·rw [List.length_cons,List.length_cons];omega
theorem Inv.put {n:Int} {s:List Ent×List Name} {W:List Ent} {x:Ent} (h:Inv n s W) (hW:Ord W) (hx:okE x=true):Inv n (put n s.1 s.2 x.1 x.2) (merge W (one x)):=by
 obtain ⟨l,d⟩:=s;obtain ⟨h1,h2,h3,h4,h5⟩:=h;have ho:=one_ord hx;rw[one_yes hx]
 by_cases hd:x.1∈d
 ·rw [put_marked hd]
  refine ⟨h1,h2,h3,λk hk=>⟨(h4 k hk).1,(keys_merge hW ho).2 (.inl (h4 k hk).2)⟩,λk hk=>?_⟩;rw[merge_get hW ho,get_one,if_neg (λe=>hk (by rw[←e];exact hd)),oj_none];exact h5 k hk
 ·by_cases hn:x.1∉keys l∧(l.length:Int)=n
  ·rw [put_new hd hn.1 hn.2]
   refine ⟨h1,nins_pw _ h2,h3,λk hk=>?_,λk hk=>?_⟩
   ·rcases (nins_mem _ _ _).1 hk with rfl|g
    ·exact ⟨get_not hn.1,(keys_merge hW ho).2 (.inr (by simp[keys]))⟩
    ·exact ⟨(h4 k g).1,(keys_merge hW ho).2 (.inl (h4 k g).2)⟩
   ·have g:=λq=>hk ((nins_mem _ _ _).2 q)
    rw[merge_get hW ho,get_one,if_neg (λe=>g (.inl e.symm)),oj_none];exact h5 k λq=>g (.inr q)
  ·have hc:x.1∈keys l∨(l.length:Int)≠n:=by
    by_cases q:x.1∈keys l
    ·exact .inl q
    ·exact .inr λe=>hn ⟨q,e⟩
   rw[put_merge hd hc];refine ⟨merge_ord h1 ho,h2,?_,λk hk=>⟨?_,(keys_merge hW ho).2 (.inl (h4 k hk).2)⟩,λk hk=>?_⟩
   ·rcases hc with q|q
    ·have this:(merge l [(x.1,x.2)]).length≤l.length:=merge_has (x:=(x.1,x.2)) h1 ho q
     have h3:(l.length:Int)≤n:=h3;show ((merge l [(x.1,x.2)]).length:Int)≤n
     omega
    ·have:=merge_len l [(x.1,x.2)]
     have h3:(l.length:Int)≤n:=h3;show ((merge l [(x.1,x.2)]).length:Int)≤n;simp only[List.length_cons,List.length_nil] at this
     omega
   ·show get (merge l [(x.1,x.2)]) k=none
    rw[merge_get h1 ho,(h4 k hk).1,get_one,if_neg (λe=>hd (by rw[e];exact hk))]
    rfl
   ·show get (merge l [(x.1,x.2)]) k=_
    rw[merge_get h1 ho,merge_get hW ho,h5 k hk]
theorem st_inv {n:Int} (hn:0≤n):∀xs:List Ent,Inv n (st n xs) (wm xs):=by
 have key:∀(i:Nat) (xs:List Ent),i≤xs.length→Inv n (st n (xs.take i)) (wm (xs.take i)):=by
  intro i xs
  induction i with
  |zero=>intro _;rw[List.take_zero];exact Inv.nil hn
  |succ i ih=>
   intro hi;have h:=ih (by omega);rw[st_take (by omega),wm_take (by omega)];cases ho:okE xs[i] with
   |true=>rw[if_pos rfl];exact h.put (wm_ord _) ho
   |false=>rw[if_neg (by decide),one_no ho,merge_nil_r (wm_ord _)];exact h
 intro xs;have:=key xs.length xs (Nat.le_refl _);rwa [List.take_length] at this
theorem get_picked {d:List Name} {wl:List Ent} (hw:Ord wl) (hd:d.Pairwise BL) (k:Name):get (picked d wl) k=if k∈d then get wl k else none:=by
 by_cases hk:k∈d
 ·rw [if_pos hk]
  cases hg:get wl k with
  |some c=>
   exact get_mem (picked_ord hw hd) (x:=(k,c)) (List.mem_filterMap.2 ⟨k,hk,by rw[hg];rfl⟩)
  |none=>
   refine get_none λx hx e=>?_
   have:=get_mem hw (picked_keys hx).1;rw[e,hg] at this;cases this
 ·rw [if_neg hk]
  exact get_none λx hx e=>hk (by rw[←e];exact (picked_keys hx).2)
theorem Inv.drain {n:Int} {s:List Ent×List Name} {W:List Ent} (h:Inv n s W) (hW:Ord W):drE s.2 W=0∧merge s.1 (picked s.2 W)=W:=by
 have hp:=picked_ord hW h.od;refine ⟨?_,ord_ext (merge_ord h.ol hp) hW λk=>?_⟩
 ·unfold drE
  rw[if_neg (by rw[ord_iff.2 hW];decide),if_neg (by rw[allIn_yes λi q=>(h.marked _ (List.getElem_mem q)).2];decide)]
 ·rw [merge_get h.ol hp,get_picked hW h.od]
  by_cases hk:k∈s.2
  ·rw [if_pos hk,(h.marked k hk).1];rfl
  ·rw [if_neg hk,oj_none];exact h.held k hk
theorem st_dlen (n:Int):∀xs:List Ent,(st n xs).2.length≤xs.length:=by
 have hp:∀(l:List Ent) (d:List Name) (k:Name) (c:Bt.Cart),(put n l d k c).2.length≤d.length+1:=by
  intro l d k c;unfold put
  split
  ·exact Nat.le_succ _
  ·split
   ·exact nins_len _ _
   ·exact Nat.le_succ _
 have key:∀(i:Nat) (xs:List Ent),i≤xs.length→(st n (xs.take i)).2.length≤i:=by
  intro i xs
  induction i with
  |zero=>intro _;exact Nat.le_refl _
  |succ i ih=>
   intro hi;have h:=ih (by omega);rw[st_take (by omega)]
   split
   ·have:=hp (st n (xs.take i)).1 (st n (xs.take i)).2 xs[i].1 xs[i].2;omega
   ·omega
 intro xs;have:=key xs.length xs (Nat.le_refl _);rwa [List.take_length] at this
theorem Inv.sz {n:Int} {s:List Ent×List Name} {W:List Ent} {N:Nat} (h:Inv n s W) (hs:∀k c,get W k=some c→SzC N c):∀k c,get s.1 k=some c→SzC N c:=λk c hc=>by
 by_cases hk:k∈s.2
 ·rw [(h.marked k hk).1] at hc;cases hc
 ·rw [h.held k hk] at hc;exact hs k c hc
end Go.Pn.Ob
end
section
namespace Go.Pn.Ob
open Go Go.Pn Go.Pn.Jn Go.Pn.Bt
theorem ord_one (x:Ent):ordered [x]=okE x:=by unfold ordered rises;simp[Cn.adj]
theorem one_part {α:Type} {l:List α} {i:Nat} (h:i<l.length):(l.take (i+1)).drop i=[l[i]]:=by
 rw[List.take_succ_eq_append_getElem h];exact List.drop_left' (by rw[List.length_take];omega)
theorem drop_back {l:List Ent} {i:Nat} (h:i<l.length):wm (l.drop i).reverse=merge (wm (l.drop (i+1)).reverse) (one l[i]):=by
 rw[List.drop_eq_getElem_cons h,List.reverse_cons,wm_snoc]
theorem put_wide {l:List Ent} {k:Name} {c:Bt.Cart} {n:Int} (h:(l.length:Int)≠n):put n l [] k c=(merge l [(k,c)],[]):=put_merge (by simp) (.inr h)
end Go.Pn.Ob
end
