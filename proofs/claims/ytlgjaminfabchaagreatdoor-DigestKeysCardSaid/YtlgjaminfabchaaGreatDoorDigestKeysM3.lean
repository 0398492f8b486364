/-
 Small entries: what their sizes are. No condition.
-/
import Derived.Test.YtlgjaminfabchaaGreatDoorCards
import Derived.Test.YtlgjaminfabchaaGreatDoorTie
import Derived.Test.YtlgjaminfabchaaGreatDoorDigestKeysM2
section
namespace Go.Pn.Dg
open Go Go.Pn Go.Pn.Bt Go.Pn.Jn
theorem smE_iff {x:Ent}(h:smE x=true):x.1.length<=100∧x.2.1.1.length<=20∧x.2.1.2.length<=20∧x.2.2.length<=20∧∀y∈x.2.2,y.1.length<=100∧y.2.length<=5:=by
 unfold smE at h;rw[Bool.and_eq_true,decide_eq_true_eq,List.all_eq_true] at h;obtain ⟨⟨h1,h2,h3,h4⟩,h5⟩:=h;refine ⟨h1,h4,h3,h2,λy hy=>?_⟩;have:=h5 y hy;unfold smI at this;rw[Bool.and_eq_true,decide_eq_true_eq,decide_eq_true_eq] at this;exact this
theorem small_iff {l:List Ent}{most:Int}(h:small l most=true):(l.length:Int)<=most∧∀x∈l,smE x=true:=by
 unfold small at h;rw[Bool.and_eq_true,decide_eq_true_eq,List.all_eq_true] at h;exact h
theorem small_big {l:List Ent}{most:Int}(h:small l most=true):Big l:=λx hx=>by
 obtain ⟨h1,h2,h3,h4,h5⟩:=smE_iff ((small_iff h).2 x hx);exact ⟨by omega,by omega,by omega,by omega,λy hy=>by have:=h5 y hy;omega⟩
theorem small_mid {l:List Ent}{most:Int}(h:small l most=true):Mid 20000 l:=λx hx=>by
 obtain ⟨h1,h2,h3,h4,h5⟩:=smE_iff ((small_iff h).2 x hx);exact ⟨by omega,by omega,by omega,λy hy=>by have:=h5 y hy;omega⟩
end Go.Pn.Dg
end
section
namespace Go.Pn.Dg
open Go Go.Pn Go.Pn.Bt Go.Pn.Jn
def lkS (key:Str)(s:Bool×BitVec 64)(x:Leaf):Bool×BitVec 64:=if x.1=key then (true,x.2) else s
def lk (ls:List Leaf)(key:Str):Bool×BitVec 64:=ls.foldl (lkS key) (false,0#64)
theorem lk_take (ls:List Leaf)(key:Str){k:Nat}(h:k<ls.length):lk (ls.take (k+1)) key=lkS key (lk (ls.take k) key) ls[k]:=by
 unfold lk;rw[List.take_succ_eq_append_getElem h,List.foldl_append]
 rfl
theorem lk_yes (ls:List Leaf)(key:Str){k:Nat}(h:k<ls.length)(hx:ls[k].1=key):lk (ls.take (k+1)) key=(true,ls[k].2):=by
 rw[lk_take ls key h];exact if_pos hx
theorem lk_no (ls:List Leaf)(key:Str){k:Nat}(h:k<ls.length)(hx:¬ls[k].1=key):lk (ls.take (k+1)) key=lk (ls.take k) key:=by
 rw[lk_take ls key h];exact if_neg hx
def dif (la lb:List Leaf)(key:Str):Bool:=decide ((lk la key).1≠(lk lb key).1)||((lk la key).1&&decide ((lk la key).2≠(lk lb key).2))
def difs (la lb:List Leaf)(l:List Ent):List Str:=(l.filter λx=>dif la lb x.1).map (·.1)
theorem difs_yes {la lb:List Leaf}{l:List Ent}{i:Nat}(h:i<l.length)(hd:dif la lb l[i].1=true):difs la lb (l.take (i+1))=difs la lb (l.take i)++[l[i].1]:=by
 unfold difs;rw[List.take_succ_eq_append_getElem h,List.filter_append,List.map_append]
 simp[hd]
theorem difs_no {la lb:List Leaf}{l:List Ent}{i:Nat}(h:i<l.length)(hd:dif la lb l[i].1=false):difs la lb (l.take (i+1))=difs la lb (l.take i):=by
 unfold difs;rw[List.take_succ_eq_append_getElem h,List.filter_append,List.map_append]
 simp[hd]
theorem difs_len (la lb:List Leaf)(l:List Ent):(difs la lb l).length<=l.length:=by
 unfold difs;rw[List.length_map];exact List.length_filter_le _ _
def Up (ls:List Leaf):Prop:=ls.Pairwise λa b=>BL a.1 b.1
theorem up_of {ls:List Leaf}(h:okLs ls=true):Up ls:=by
 unfold okLs at h;rw[Bool.and_eq_true] at h;have key:∀l:List Leaf,Cn.adj (λa b=>Op.bytesLess a.1 b.1) l=true->Up l:=by
  intro l
  induction l with
  |nil=>intro _;exact List.Pairwise.nil
  |cons a l ih=>
   intro h;cases l with
   |nil=>exact List.pairwise_singleton _ _
   |cons b l=>
    unfold Cn.adj at h;rw[Bool.and_eq_true] at h;have ih:=ih h.2;refine List.pairwise_cons.2 ⟨λz hz=>?_,ih⟩;rcases List.mem_cons.1 hz with e|hz
    ·rw [e];exact h.1
    ·exact bl_trans (a:=a.1) h.1 ((List.pairwise_cons.1 ih).1 z hz)
 exact key ls h.2
theorem valid_up {d:Dig}(h:valid d=true):Up d.ls:=by
 unfold valid at h;rw[Bool.and_eq_true,Bool.and_eq_true] at h;exact up_of h.1.2
theorem lk_none {ls:List Leaf}{k:Str}(h:∀x∈ls,x.1≠k):lk ls k=(false,0#64):=by
 have key:∀(ls:List Leaf) (s:Bool×BitVec 64),(∀x∈ls,x.1≠k)->ls.foldl (lkS k) s=s:=by
  intro ls
  induction ls with
  |nil=>intro s _;rfl
  |cons x ls ih=>
   intro s h;rw[List.foldl_cons,show lkS k s x=s from if_neg (h x (.head _))];exact ih s λy hy=>h y (.tail _ hy)
 exact key ls _ h
theorem lk_cons {x:Leaf}{ls:List Leaf}(k:Str)(h:Up (x::ls)):lk (x::ls) k=if x.1=k then (true,x.2) else lk ls k:=by
 have hx:=(List.pairwise_cons.1 h).1
 by_cases e:x.1=k
 ·rw [if_pos e]
  have key:∀(ls:List Leaf) (s:Bool×BitVec 64),(∀y∈ls,y.1≠k)->ls.foldl (lkS k) s=s:=by
   intro ls
   induction ls with
   |nil=>intro s _;rfl
   |cons x ls ih=>
    intro s h;rw[List.foldl_cons,show lkS k s x=s from if_neg (h x (.head _))];exact ih s λy hy=>h y (.tail _ hy)
  unfold lk;rw[List.foldl_cons,show lkS k (false,0#64) x=(true,x.2) from if_pos e];exact key ls _ λy hy q=>by
   have:=hx y hy;rw[q,e] at this;exact bl_irrefl _ this
 ·rw [if_neg e]
  unfold lk;rw[List.foldl_cons,show lkS k (false,0#64) x=(false,0#64) from if_neg e]
theorem lk_less {ls:List Leaf}{k:Str}(h:∀x∈ls,BL k x.1):lk ls k=(false,0#64):=lk_none λx hx q=>by have:=h x hx;rw[q] at this;exact bl_irrefl _ this
def difP (p q:Bool×BitVec 64):Bool:=decide (p.1≠q.1)||(p.1&&decide (p.2≠q.2))
theorem dif_nil2:difP (false,0#64) (false,0#64)=false:=rfl
theorem keysM_dif {la lb:List Leaf}(ha:Up la)(hb:Up lb)(k:Str):k∈keysM la lb↔dif la lb k=true:=by
 have up1:∀l:List Leaf,Up l->(k∈l.map (·.1)↔(lk l k).1=true):=by
  intro l h
  induction l with
  |nil=>simp[lk]
  |cons x l ih=>
   rw[List.map_cons,List.mem_cons,lk_cons k h,ih (List.pairwise_cons.1 h).2]
   by_cases e:x.1=k
   ·rw [if_pos e];exact ⟨λ_=>rfl,λ_=>.inl e.symm⟩
   ·rw [if_neg e];exact ⟨λg=>g.elim (λg=>(e g.symm).elim) id,.inr⟩
 have d1:∀p:Bool×BitVec 64,difP (false,0#64) p=true↔p.1=true:=by
  rintro ⟨b,v⟩;cases b<;>simp[difP]
 have d2:∀p:Bool×BitVec 64,difP p (false,0#64)=true↔p.1=true:=by
  rintro ⟨b,v⟩;cases b<;>simp[difP]
 have key:∀(n:Nat) (a b:List Leaf),a.length+b.length<=n->Up a->Up b->(k∈keysM a b↔difP (lk a k) (lk b k)=true):=by
  intro n
  induction n with
  |zero=>
   intro a b h _ hb;have hx:a=[]:=List.eq_nil_of_length_eq_zero (by omega);subst hx;rw[keysM_l,up1 b hb];exact (d1 _).symm
  |succ n ih=>
   intro a b h ha hb;cases a with
   |nil=>rw[keysM_l,up1 b hb];exact (d1 _).symm
   |cons p x=>
    cases b with
    |nil=>rw[keysM_r,up1 _ ha];exact (d2 _).symm
    |cons q y=>
     simp only[List.length_cons] at h;have hpx:=(List.pairwise_cons.1 ha).1;have hqy:=(List.pairwise_cons.1 hb).1;have uax:Up x:=(List.pairwise_cons.1 ha).2;have uby:Up y:=(List.pairwise_cons.1 hb).2;rcases bl_total p.1 q.1 with c|c|c
     ·rw [keysM_a c,List.singleton_append,List.mem_cons,ih x (q::y) (by simp;omega) uax hb,lk_cons k ha]
      by_cases e:p.1=k
      ·have:lk (q::y) k=(false,0#64):=lk_less λz hz=>by
        rw[<-e];rcases List.mem_cons.1 hz with g|hz
        ·rw [g];exact c
        ·exact bl_trans c (hqy z hz)
       rw[if_pos e,this];exact ⟨λ_=>rfl,λ_=>.inl e.symm⟩
      ·rw [if_neg e]
       exact ⟨λg=>g.elim (λg=>(e g.symm).elim) id,.inr⟩
     ·have c1:Op.bytesLess p.1 q.1=false:=by rw[c];exact Bool.eq_false_iff.2 (bl_irrefl _)
      have c2:Op.bytesLess q.1 p.1=false:=by rw[c];exact Bool.eq_false_iff.2 (bl_irrefl _)
      have ihk:=ih x y (by omega) uax uby;rw[lk_cons k ha,lk_cons k hb]
      by_cases e:p.1=k
      ·have e2:q.1=k:=c ▸ e
       have h1:lk x k=(false,0#64):=lk_less λz hz=>by rw[<-e];exact hpx z hz
       have h2:lk y k=(false,0#64):=lk_less λz hz=>by rw[<-e2];exact hqy z hz
       rw[h1,h2] at ihk;have hno:k∉keysM x y:=λg=>by have:=ihk.1 g;rw[dif_nil2] at this;cases this
       rw[if_pos e,if_pos e2]
       by_cases s:p.2=q.2
       ·rw [keysM_d c1 c2 s,List.nil_append]
        exact ⟨λg=>(hno g).elim,λg=>by simp[difP,s] at g⟩
       ·rw [keysM_c c1 c2 s,List.singleton_append,List.mem_cons]
        exact ⟨λ_=>by simp[difP,s],λ_=>.inl e.symm⟩
      ·have e2:¬q.1=k:=λg=>e (c.trans g)
       rw[if_neg e,if_neg e2]
       by_cases s:p.2=q.2
       ·rw [keysM_d c1 c2 s,List.nil_append];exact ihk
       ·rw [keysM_c c1 c2 s,List.singleton_append,List.mem_cons]
        exact ⟨λg=>g.elim (λg=>(e g.symm).elim) ihk.1,λg=>.inr (ihk.2 g)⟩
     ·have c1:Op.bytesLess p.1 q.1=false:=Bool.eq_false_iff.2 λg=>bl_irrefl _ (bl_trans g c)
      rw[keysM_b c1 c,List.singleton_append,List.mem_cons,ih (p::x) y (by simp;omega) ha uby,lk_cons k hb]
      by_cases e:q.1=k
      ·have:lk (p::x) k=(false,0#64):=lk_less λz hz=>by
        rw[<-e];rcases List.mem_cons.1 hz with g|hz
        ·rw [g];exact c
        ·exact bl_trans c (hpx z hz)
       rw[if_pos e,this];exact ⟨λ_=>rfl,λ_=>.inl e.symm⟩
      ·rw [if_neg e]
       exact ⟨λg=>g.elim (λg=>(e g.symm).elim) id,.inr⟩
 exact key _ la lb (Nat.le_refl _) ha hb
theorem keysM_from:∀(la lb:List Leaf),∀k∈keysM la lb,(∃x∈la,x.1=k)∨∃x∈lb,x.1=k
 |[],m,k,h=>by rw[keysM_l] at h;exact .inr (List.mem_map.1 h)
 |x::l,[],k,h=>by rw[keysM_r] at h;exact .inl (List.mem_map.1 h)
 |x::l,y::m,k,h=>by
  rw[keysM] at h
  split at h
  ·rcases List.mem_cons.1 h with e|h
   ·exact .inl ⟨x,.head _,e.symm⟩
   ·exact (keysM_from l (y::m) k h).imp (λ⟨z,hz,e⟩=>⟨z,.tail _ hz,e⟩) id
  ·split at h
   ·rcases List.mem_cons.1 h with e|h
    ·exact .inr ⟨y,.head _,e.symm⟩
    ·exact (keysM_from (x::l) m k h).imp id λ⟨z,hz,e⟩=>⟨z,.tail _ hz,e⟩
   ·rcases List.mem_append.1 h with g|h
    ·split at g
     ·cases g
     ·exact .inl ⟨x,.head _,(List.mem_singleton.1 g).symm⟩
    ·exact (keysM_from l m k h).imp (λ⟨z,hz,e⟩=>⟨z,.tail _ hz,e⟩) λ⟨z,hz,e⟩=>⟨z,.tail _ hz,e⟩
termination_by l m=>l.length+m.length
theorem keysM_up:∀(la lb:List Leaf),Up la->Up lb->(keysM la lb).Pairwise BL
 |[],m,_,hb=>by rw[keysM_l,List.pairwise_map];exact hb
 |x::l,[],ha,_=>by rw[keysM_r,List.pairwise_map];exact ha
 |x::l,y::m,ha,hb=>by
  have hx:=(List.pairwise_cons.1 ha).1;have hy:=(List.pairwise_cons.1 hb).1;have ua:Up l:=(List.pairwise_cons.1 ha).2;have ub:Up m:=(List.pairwise_cons.1 hb).2;rcases bl_total x.1 y.1 with c|c|c
  ·rw [keysM_a c]
   refine List.pairwise_cons.2 ⟨λk hk=>?_,keysM_up l (y::m) ua hb⟩;rcases keysM_from l (y::m) k hk with ⟨z,hz,e⟩|⟨z,hz,e⟩
   ·rw [<-e];exact hx z hz
   ·rw [<-e]
    rcases List.mem_cons.1 hz with g|hz
    ·rw [g];exact c
    ·exact bl_trans c (hy z hz)
  ·have c1:Op.bytesLess x.1 y.1=false:=by rw[c];exact Bool.eq_false_iff.2 (bl_irrefl _)
   have c2:Op.bytesLess y.1 x.1=false:=by rw[c];exact Bool.eq_false_iff.2 (bl_irrefl _)
   by_cases s:x.2=y.2
   ·rw [keysM_d c1 c2 s];exact keysM_up l m ua ub
   ·rw [keysM_c c1 c2 s]
    refine List.pairwise_cons.2 ⟨λk hk=>?_,keysM_up l m ua ub⟩;rcases keysM_from l m k hk with ⟨z,hz,e⟩|⟨z,hz,e⟩
    ·rw [<-e];exact hx z hz
    ·rw [<-e,c];exact hy z hz
  ·have c1:Op.bytesLess x.1 y.1=false:=Bool.eq_false_iff.2 λg=>bl_irrefl _ (bl_trans g c)
   rw[keysM_b c1 c];refine List.pairwise_cons.2 ⟨λk hk=>?_,keysM_up (x::l) m ha ub⟩;rcases keysM_from (x::l) m k hk with ⟨z,hz,e⟩|⟨z,hz,e⟩
   ·rw [<-e]
    rcases List.mem_cons.1 hz with g|hz
    ·rw [g];exact c
    ·exact bl_trans c (hx z hz)
   ·rw [<-e];exact hy z hz
termination_by l m=>l.length+m.length
theorem keysM_difs {la lb:List Leaf}{l:List Ent}(ha:Up la)(hb:Up lb)(hl:Ord l)(ka:∀x∈la,x.1∈Ob.keys l)(kb:∀x∈lb,x.1∈Ob.keys l):keysM la lb=difs la lb l:=by
 refine pw_ext bl_irrefl (λa b=>bl_trans a b) (keysM_up la lb ha hb) ?_ λk=>?_
 ·unfold difs
  rw[List.pairwise_map];exact hl.up.sublist (List.filter_sublist)
 ·unfold difs
  rw[List.mem_map]
  constructor
  ·intro h
   have hd:=(keysM_dif ha hb k).1 h;have hk:k∈Ob.keys l:=by
    rcases keysM_from la lb k h with ⟨z,hz,e⟩|⟨z,hz,e⟩
    ·rw [<-e];exact ka z hz
    ·rw [<-e];exact kb z hz
   obtain ⟨x,hx,e⟩:=mem_keys.1 hk;exact ⟨x,List.mem_filter.2 ⟨hx,by rw[e];exact hd⟩,e⟩
  ·rintro ⟨x,hx,e⟩
   obtain ⟨hx,hd⟩:=List.mem_filter.1 hx;rw[<-e];exact (keysM_dif ha hb _).2 hd
theorem changed_keys {l:List Ent}(c:Chg):∀x∈(changed (dig l) c).ls,x.1∈Ob.keys l:=by
 rw[changed_ls];refine cut_key (p:=λk=>k∈Ob.keys l) λx hx=>?_
 obtain ⟨y,hy,rfl⟩:=List.mem_map.1 hx;exact mem_keys.2 ⟨y,hy,rfl⟩
theorem keys_difs {l:List Ent}(x y:Chg)(hl:Ord l)(hx:valid (changed (dig l) x)=true)(hy:valid (changed (dig l) y)=true):keys (changed (dig l) x) (changed (dig l) y)=difs (changed (dig l) x).ls (changed (dig l) y).ls l:=by
 rw[keys_yes hx hy];exact keysM_difs (valid_up hx) (valid_up hy) hl (changed_keys x) (changed_keys y)
theorem changed_len (l:List Ent)(c:Chg):(changed (dig l) c).ls.length<=l.length:=by
 rw[changed_ls];have:=cut_len (dig l).ls c;rw[dig_len] at this;exact this
theorem changed_klen {l:List Ent}(hB:Big l)(c:Chg):∀x∈(changed (dig l) c).ls,x.1.length<=1000000:=by
 rw[changed_ls];exact cut_key (p:=λk=>k.length<=1000000) (leaves_key λz hz=>(hB z hz).1)
theorem changed_b16 (l:List Ent)(c:Chg):(changed (dig l) c).bs.length=16:=changed_bs c (bks_len _)
theorem bad_differ {a b:Dig}(h:valid a=false∨valid b=false):differ a b=[]∧err a b=2:=h.elim (λh=>⟨differ_no1 h,err_no1 h⟩) λh=>⟨differ_no2 h,err_no2 h⟩
theorem bad_keys {a b:Dig}(h:valid a=false∨valid b=false):keys a b=[]∧err a b=2:=h.elim (λh=>⟨keys_no1 h,err_no1 h⟩) λh=>⟨keys_no2 h,err_no2 h⟩
theorem dif_yes1 {la lb:List Leaf}{k:Str}(h:(lk la k).1≠(lk lb k).1):dif la lb k=true:=by unfold dif;rw[decide_eq_true h];rfl
theorem dif_at {la lb:List Leaf}{k:Str}(h:¬(lk la k).1≠(lk lb k).1):dif la lb k=((lk la k).1&&decide ((lk la k).2≠(lk lb k).2)):=by unfold dif;rw[decide_eq_false h];rfl
end Go.Pn.Dg
end
