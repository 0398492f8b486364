/-
 Small entries: what their sizes are. No condition.
-/
import Derived.Shelf.SlSortCmp.WholeK
import Derived.Test.YtlgjaminfabchaaGreatDoorCards
import Derived.Test.YtlgjaminfabchaaGreatDoorTie
import Derived.Test.YtlgjaminfabchaaGreatDoorDigestHoldsM2
section
namespace Go.Pn.Dg
open Go Go.Pn Go.Pn.Bt Go.Pn.Jn
theorem smE_iff {x:Ent}(h:smE x=true):x.1.length<=100∧x.2.1.1.length<=20∧x.2.1.2.length<=20∧x.2.2.length<=20∧∀y∈x.2.2,y.1.length<=100∧y.2.length<=5:=by
 unfold smE at h;rw[Bool.and_eq_true,decide_eq_true_eq,List.all_eq_true] at h;obtain ⟨⟨h1,h2,h3,h4⟩,h5⟩:=h;refine ⟨h1,h4,h3,h2,λy hy=>?_⟩;have:=h5 y hy;unfold smI at this;rw[Bool.and_eq_true,decide_eq_true_eq,decide_eq_true_eq] at this;exact this
theorem small_iff {l:List Ent}{most:Int}(h:small l most=true):(l.length:Int)<=most∧∀x∈l,smE x=true:=by
 unfold small at h;rw[Bool.and_eq_true,decide_eq_true_eq,List.all_eq_true] at h;exact h
theorem small_big {l:List Ent}{most:Int}(h:small l most=true):Big l:=λx hx=>by
 obtain ⟨h1,h2,h3,h4,h5⟩:=smE_iff ((small_iff h).2 x hx);exact ⟨by omega,by omega,by omega,by omega,λy hy=>by have:=h5 y hy;omega⟩
theorem small_mid {l:List Ent}{most:Int}(h:small l most=true):Mid 20000 l:=λx hx=>by
 obtain ⟨h1,h2,h3,h4,h5⟩:=smE_iff ((small_iff h).2 x hx);exact ⟨by omega,by omega,by omega,λy hy=>by have:=h5 y hy;omega⟩
theorem serr_none {a b:List Ent}(ha:a.length<=12)(hb:b.length<=12)(h1:check a=0)(h2:check b=0):serr a b=0:=serr_ok h1 h2 (by have:=syncM_len a b;omega)
end Go.Pn.Dg
end
section
namespace Go.Pn.Dg
open Go Go.Pn Go.Pn.Bt Go.Pn.Jn
theorem keysM_self:∀l:List Leaf,keysM l l=[]
 |[]=>by rw[keysM];rfl
 |x::l=>by
  have h:Op.bytesLess x.1 x.1=false:=Bool.eq_false_iff.2 (bl_irrefl _);rw[keysM_d h h rfl,keysM_self l]
  rfl
theorem diffP_self (a:Dig)(k:Nat):diffP a a k=[]:=by
 unfold diffP
 simp
theorem self_keys {l:List Ent}(h:check l=0):keys (dig l) (dig l)=[]∧err (dig l) (dig l)=0:=⟨by rw[dig_keys h h,keysM_self],dig_err h h⟩
theorem self_differ {l:List Ent}(h:check l=0):differ (dig l) (dig l)=[]∧err (dig l) (dig l)=0:=⟨by rw[differ_yes (dig_valid h) (dig_valid h),diffP_self],dig_err h h⟩
def setE (l:List Ent)(i:Nat)(c:Cn.Cart):List Ent:=l.set i ((l.getD i ([],noC)).1,c)
theorem setE_at {l:List Ent}{i:Nat}(h:i<l.length)(c:Cn.Cart):setE l i c=l.set i (l[i].1,c):=by unfold setE;rw[getD_at h]
theorem set_keys {l:List Ent}{i:Nat}(h:i<l.length)(c:Cn.Cart):Ob.keys (l.set i (l[i].1,c))=Ob.keys l:=by
 unfold Ob.keys;rw[List.map_set]
 apply List.ext_getElem (by rw[List.length_set])
 intro j h1 h2;rw[List.getElem_set]
 split
 ·rename_i q
  subst q;rw[List.getElem_map]
 ·rfl
theorem set_check {l:List Ent}{i:Nat}(hl:check l=0)(h:i<l.length){c:Cn.Cart}(hc:Cn.valid c=true):check (setE l i c)=0:=by
 have ho:=check_ord hl;rw[setE_at h];refine check_ok (by rw[List.length_set];have:=(check_zero hl).1;omega) (ord_iff.2 ⟨λx hx=>?_,?_⟩)
 ·rcases List.mem_or_eq_of_mem_set hx with q|q
  ·exact ho.ok x q
  ·rw [q];exact ⟨(ho.ok _ (List.getElem_mem h)).1,good_iff.1 hc⟩
 ·have:=Ob.keys_pw ho
  rw[<-set_keys h c] at this;exact List.pairwise_map.1 this
theorem set_leaf {l:List Ent}{i:Nat}(h:i<l.length)(c:Cn.Cart):(l.set i (l[i].1,c)).map leafOf=(l.map leafOf).set i (leafOf (l[i].1,c)):=by rw[List.map_set]
theorem keysM_set:∀(ls:List Leaf) (i:Nat) (h:i<ls.length) (s:BitVec 64),keysM ls (ls.set i (ls[i].1,s))=if ls[i].2=s then [] else [ls[i].1]
 |x::l,0,h,s=>by
  have hx:Op.bytesLess x.1 x.1=false:=Bool.eq_false_iff.2 (bl_irrefl _);rw[List.set_cons_zero]
  by_cases q:x.2=s
  ·rw [List.getElem_cons_zero,if_pos q,keysM_d (x:=x) (y:=(x.1,s)) hx hx q,keysM_self];rfl
  ·rw [List.getElem_cons_zero,if_neg q,keysM_c (x:=x) (y:=(x.1,s)) hx hx q,keysM_self];rfl
 |x::l,i+1,h,s=>by
  have hx:Op.bytesLess x.1 x.1=false:=Bool.eq_false_iff.2 (bl_irrefl _);rw[List.set_cons_succ,keysM_d hx hx rfl,List.nil_append];exact keysM_set l i (by simpa using h) s
theorem part_set:∀(ls:List Leaf) (i:Nat) (h:i<ls.length) (s:BitVec 64) (k:Nat),bucket ls[i].1≠k->part (ls.set i (ls[i].1,s)) k=part ls k
 |x::l,0,h,s,k,hk=>by
  rw[List.getElem_cons_zero] at hk ⊢;unfold part;rw[List.set_cons_zero,List.filter_cons,List.filter_cons]
  simp[hk]
 |x::l,i+1,h,s,k,hk=>by
  have ih:=part_set l i (by simpa using h) s k hk;unfold part at ih ⊢;rw[List.getElem_cons_succ,List.set_cons_succ,List.filter_cons,List.filter_cons]
  split
  ·rw [List.map_cons,List.map_cons,ih]
  ·exact ih
theorem bks_get (ls:List Leaf){k:Nat}(h:k<16):(bks ls)[k]? =some (sum (part ls k)):=by
 rw[List.getElem?_eq_getElem (by rw[bks_len];exact h),bks_at]
theorem differ_set (ls:List Leaf)(i:Nat)(h:i<ls.length)(s:BitVec 64):diffP (grown ls) (grown (ls.set i (ls[i].1,s))) 16=[]∨diffP (grown ls) (grown (ls.set i (ls[i].1,s))) 16=[(bucket ls[i].1:Int)]:=by
 have key:∀n,n<=16->diffP (grown ls) (grown (ls.set i (ls[i].1,s))) n=[]∨(diffP (grown ls) (grown (ls.set i (ls[i].1,s))) n=[(bucket ls[i].1:Int)]∧bucket ls[i].1<n):=by
  intro n
  induction n with
  |zero=>intro _;exact .inl rfl
  |succ n ih=>
   intro hn;have e1:(grown ls).bs[n]? =some (sum (part ls n)):=bks_get ls (by omega);have e2:(grown (ls.set i (ls[i].1,s))).bs[n]? =some (sum (part (ls.set i (ls[i].1,s)) n)):=bks_get _ (by omega);have step:diffP (grown ls) (grown (ls.set i (ls[i].1,s))) (n+1)=diffP (grown ls) (grown (ls.set i (ls[i].1,s))) n++if sum (part ls n)=sum (part (ls.set i (ls[i].1,s)) n) then [] else [(n:Int)]:=by
    unfold diffP;rw[List.range_succ,List.filter_append,List.map_append]
    congr 1
    by_cases q:sum (part ls n)=sum (part (ls.set i (ls[i].1,s)) n)
    ·rw [if_pos q]
     simp[e1,e2,q]
    ·rw [if_neg q]
     simp[e1,e2,q]
   rw[step]
   by_cases hb:bucket ls[i].1=n
   ·rcases ih (by omega) with g|⟨_,g⟩
    ·rw [g,List.nil_append]
     split
     ·exact .inl rfl
     ·exact .inr ⟨by rw[hb],by omega⟩
    ·omega
   ·rw [part_set ls i h s n hb,if_pos rfl,List.append_nil]
    exact (ih (by omega)).imp id λg=>⟨g.1,by omega⟩
 exact (key 16 (Nat.le_refl _)).imp id (·.1)
structure OneOff (KL:List Str) (ML:List Int) (key:Str):Prop where
 k1:KL=[]∨KL=[key]
 m1:ML=[]∨ML=[(bucket key:Int)]
 le:ML.length<=KL.length
theorem one_off {l:List Ent}{i:Nat}(hl:check l=0)(h:i<l.length){c:Cn.Cart}(hc:Cn.valid c=true):
 OneOff (keys (dig l) (dig (setE l i c))) (differ (dig l) (dig (setE l i c))) l[i].1∧err (dig l) (dig (setE l i c))=0:=by
 have h2:=set_check hl h hc;refine ⟨?_,dig_err hl h2⟩;rw[dig_keys hl h2,differ_yes (dig_valid hl) (dig_valid h2),setE_at h];have hls:i<(l.map leafOf).length:=by rw[List.length_map];exact h
 have hk:((l.map leafOf)[i]'hls).1=l[i].1:=by rw[List.getElem_map];rfl
 have e:(l.set i (l[i].1,c)).map leafOf=(l.map leafOf).set i (((l.map leafOf)[i]'hls).1,(leafOf (l[i].1,c)).2):=by
  rw[set_leaf h,hk];rfl
 have e2:dig (l.set i (l[i].1,c))=grown ((l.map leafOf).set i (((l.map leafOf)[i]'hls).1,(leafOf (l[i].1,c)).2)):=by
  show grown _=_;rw[e]
 rw[e,e2,show dig l=grown (l.map leafOf) from rfl,keysM_set _ i hls];have hd:=differ_set (l.map leafOf) i hls (leafOf (l[i].1,c)).2
 by_cases q:((l.map leafOf)[i]'hls).2=(leafOf (l[i].1,c)).2
 ·rw [if_pos q]
  have e3:(l.map leafOf).set i (((l.map leafOf)[i]'hls).1,(leafOf (l[i].1,c)).2)=l.map leafOf:=by
   rw[<-q];exact List.set_getElem_self hls
  rw[e3,diffP_self];exact ⟨.inl rfl,.inl rfl,Nat.le_refl _⟩
 ·rw [if_neg q,hk]
  rw[hk] at hd;refine ⟨.inr rfl,hd,?_⟩;rcases hd with g|g<;>rw[g]<;>simp
theorem sync_keys_eq {a b:List Ent}(ha:Ord a)(hb:Ord b):Ob.keys (syncM a b)=Ob.keys (syncM b a):=by
 have h1:=syncM_ord a b ha hb;have h2:=syncM_ord b a hb ha;refine pw_ext bl_irrefl (λa b=>bl_trans a b) (Ob.keys_pw h1) (Ob.keys_pw h2) λk=>?_
 have e:∀l:List Ent,k∈Ob.keys l↔get l k≠none:=λl=>by
  constructor
  ·intro h q;exact get_keys.1 q h
  ·intro h
   by_cases q:k∈Ob.keys l
   ·exact q
   ·exact (h (get_keys.2 q)).elim
 rw[e,e,syncM_get ha hb,syncM_get hb ha];cases get a k<;>cases get b k<;>simp[sj]
theorem sync_klen {a b:List Ent}(ha:Ord a)(hb:Ord b):(syncM a b).length=(syncM b a).length:=by
 have:=congrArg List.length (sync_keys_eq ha hb);rwa [Ob.keys_len,Ob.keys_len] at this
theorem sync_key_at {a b:List Ent}(ha:Ord a)(hb:Ord b){i:Nat}(h1:i<(syncM a b).length)(h2:i<(syncM b a).length):(syncM a b)[i].1=(syncM b a)[i].1:=by
 have e:=sync_keys_eq ha hb;have h3:i<(Ob.keys (syncM a b)).length:=by rw[Ob.keys_len];exact h1
 have h4:i<(Ob.keys (syncM b a)).length:=by rw[Ob.keys_len];exact h2
 have:(Ob.keys (syncM a b))[i]=(Ob.keys (syncM b a))[i]:=by simp only[e]
 rwa [Ob.keys_get,Ob.keys_get] at this
theorem sync_within {a b:List Ent}(ha:Ord a)(hb:Ord b){x y:Ent}(hx:x∈a)(hy:y∈syncM a b)(h:y.1=x.1):Jn.join x.2 y.2=y.2:=by
 have h1:=get_mem (syncM_ord a b ha hb) hy;rw[h,syncM_get ha hb,get_mem ha hx] at h1;have gx:=(ha.ok x hx).2;cases hg:get b x.1 with
 |none=>
  rw[hg] at h1;have:x.2=y.2:=Option.some.inj h1;rw[<-this];exact join_self gx
 |some z=>
  rw[hg] at h1;have:both (x.1,x.2) (x.1,z)=y.2:=Option.some.inj h1;rw[<-this];unfold both
  split
  ·exact join_self gx
  ·exact join_left gx (get_good hb hg)
theorem sync_has {a b:List Ent}(ha:Ord a)(hb:Ord b){x:Ent}(hx:x∈a):x.1∈Ob.keys (syncM a b):=by
 by_cases q:x.1∈Ob.keys (syncM a b)
 ·exact q
 ·have:=get_keys.2 q
  rw[syncM_get ha hb,get_mem ha hx] at this;cases hg:get b x.1<;>rw[hg] at this<;>cases this
theorem both_self (k:Str)(c:Cn.Cart):both (k,c) (k,c)=c:=if_pos rfl
theorem sync_again {a b:List Ent}(ha:Ord a)(hb:Ord b):syncM (syncM a b) (syncM b a)=syncM a b:=by
 have h1:=syncM_ord a b ha hb;have h2:=syncM_ord b a hb ha;refine ord_ext (syncM_ord _ _ h1 h2) h1 λk=>?_
 rw[syncM_get h1 h2,syncM_get ha hb,syncM_get hb ha];cases hx:get a k with
 |none=>
  cases hy:get b k with
  |none=>rfl
  |some y=>exact congrArg some (both_self k y)
 |some x=>
  cases hy:get b k with
  |none=>exact congrArg some (both_self k x)
  |some y=>
   show some (both (k,both (k,x) (k,y)) (k,both (k,y) (k,x)))=some (both (k,x) (k,y))
   congr 1
   by_cases s:(leafOf (k,x)).2=(leafOf (k,y)).2
   ·rw [show both (k,x) (k,y)=x from if_pos s,show both (k,y) (k,x)=y from if_pos s.symm]
    exact if_pos s
   ·rw [show both (k,x) (k,y)=Jn.join x y from if_neg s,show both (k,y) (k,x)=Jn.join y x from if_neg (λq=>s q.symm),join_comm (get_good hb hy) (get_good ha hx)]
    exact both_self _ _
theorem sync_check {a b:List Ent}(ha:Ord a)(hb:Ord b)(h:(syncM a b).length<=1024):check (syncM a b)=0:=check_ok (by omega) (ord_iff.2 (syncM_ord a b ha hb))
theorem syncM_mem {a b:List Ent}(ha:Ord a)(hb:Ord b){x:Ent}(hx:x∈syncM a b):(x∈a∨x∈b)∨∃y∈a,∃z∈b,y.1=x.1∧z.1=x.1∧x.2=Jn.join y.2 z.2:=by
 have h1:=get_mem (syncM_ord a b ha hb) hx;rw[syncM_get ha hb] at h1;cases h2:get a x.1 with
 |none=>
  cases h3:get b x.1 with
  |none=>rw[h2,h3] at h1;cases h1
  |some z=>
   rw[h2,h3] at h1;have:z=x.2:=Option.some.inj h1;exact .inl (.inr (by have h4:=mem_get h3;rw[this] at h4;exact h4))
 |some y=>
  cases h3:get b x.1 with
  |none=>
   rw[h2,h3] at h1;have:y=x.2:=Option.some.inj h1;exact .inl (.inl (by have h4:=mem_get h2;rw[this] at h4;exact h4))
  |some z=>
   rw[h2,h3] at h1;have h5:both (x.1,y) (x.1,z)=x.2:=Option.some.inj h1;unfold both at h5
   split at h5
   ·exact .inl (.inl (by have h4:=mem_get h2;rw[show y=x.2 from h5] at h4;exact h4))
   ·exact .inr ⟨_,mem_get h2,_,mem_get h3,rfl,rfl,h5.symm⟩
theorem sync_mid {a b:List Ent}{m m2:Int}(sa:small a m=true)(sb:small b m2=true)(ha:Ord a)(hb:Ord b):Mid 20000 (syncM a b)∧Big (syncM a b):=by
 have key:∀x∈syncM a b,x.1.length<=100∧x.2.1.1.length<=80∧x.2.1.2.length<=40∧x.2.2.length<=40∧∀y∈x.2.2,y.1.length<=100∧y.2.length<=10:=λx hx=>by
  rcases syncM_mem ha hb hx with (h|h)|⟨y,hy,z,hz,e1,e2,e3⟩
  ·obtain ⟨h1,h2,h3,h4,h5⟩:=smE_iff ((small_iff sa).2 x h)
   exact ⟨h1,by omega,by omega,by omega,λy hy=>by have:=h5 y hy;omega⟩
  ·obtain ⟨h1,h2,h3,h4,h5⟩:=smE_iff ((small_iff sb).2 x h)
   exact ⟨h1,by omega,by omega,by omega,λy hy=>by have:=h5 y hy;omega⟩
  ·obtain ⟨p1,p2,p3,p4,p5⟩:=smE_iff ((small_iff sa).2 y hy)
   obtain ⟨q1,q2,q3,q4,q5⟩:=smE_iff ((small_iff sb).2 z hz);obtain ⟨j1,j2,j3⟩:=join_sizes y.2 z.2;have j4:=join_marks (a:=y.2) (b:=z.2) (λt ht=>(p5 t ht).2) (λt ht=>(q5 t ht).2);have j5:=join_names (ha.ok y hy).2 (hb.ok z hz).2;rw[e3,<-e1];exact ⟨p1,by omega,by omega,by omega,λt ht=>by have:=j4 t ht;have:=j5 t ht;omega⟩
 refine ⟨λx hx=>?_,λx hx=>?_⟩
 ·obtain ⟨h1,h2,h3,h4,h5⟩:=key x hx
  exact ⟨by omega,by omega,by omega,λy hy=>by have:=h5 y hy;omega⟩
 ·obtain ⟨h1,h2,h3,h4,h5⟩:=key x hx
  exact ⟨by omega,by omega,by omega,by omega,λy hy=>by have:=h5 y hy;omega⟩
theorem setE_big {l:List Ent}{i:Nat}(hl:Big l)(h:i<l.length){c:Cn.Cart}(hc:Cn.big c):Big (setE l i c):=λx hx=>by
 rw[setE_at h] at hx;rcases List.mem_or_eq_of_mem_set hx with q|q
 ·exact hl x q
 ·rw [q];exact ⟨(hl _ (List.getElem_mem h)).1,hc⟩
theorem setE_len (l:List Ent)(i:Nat)(c:Cn.Cart):(setE l i c).length=l.length:=List.length_set
structure Turn (w:World) (S:Nat) (v:Value) (r:List EntR) (l:List Ent) (v2:Value) (r2:List EntR) (l2:List Ent):Prop where
 s:Sl entF.enc w (λj=>j<S) v r
 e:EntL w (λj=>j<S) r l
 s2:Sl entF.enc w (λj=>j<S) v2 r2
 e2:EntL w (λj=>j<S) r2 l2
 wi:∀x∈l,∀y∈l2,y.1=x.1->Jn.join x.2 y.2=y.2
 hs:∀x∈l,x.1∈Ob.keys l2
 o:Ord l
 o2:Ord l2
 m:Mid 20000 l
 m2:Mid 20000 l2
theorem take_mem_succ {ks:List Str}{k:Nat}(h:k<ks.length)(key:Str):(key∈ks.take (k+1))↔key∈ks.take k∨ks[k]=key:=by
 rw[List.take_succ_eq_append_getElem h,List.mem_append,List.mem_singleton];exact ⟨λh=>h.imp id λq=>q.symm,λh=>h.imp id λq=>q.symm⟩
end Go.Pn.Dg
end
